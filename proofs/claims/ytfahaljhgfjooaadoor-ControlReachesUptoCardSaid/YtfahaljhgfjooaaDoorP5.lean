/- Plain laws on the models. -/
import Derived.Test.YtfahaljhgfjooaaDoorP4
import Derived.Test.YtfahaljhgfjooaaDoorNwMapL
import Derived.Test.YtfahaljhgfjooaaDoorNwPlain
import Derived.Test.YtfahaljhgfjooaaDoorP3
set_option linter.all false
namespace Go.Nw.KM
def In (n : Int) (k : Nat) : Prop := 0 <= n /\ n < (k : Int)
def b4p (m : Machine) (inside : Bool) (l : Literal) : Prop :=
 (l.Kind = 1 /\ In l.Number m.Inputs.length /\ l.Value = 0) \/ (l.Kind = 2 /\ ∃ (n : Nat) (c : Counter), l.Number = n /\ m.Counters[n]? = some c /\ 0 <= l.Value /\ l.Value <= c.Max) \/
 (l.Kind = 3 /\ inside = true /\ In l.Number m.States.length /\ l.Value = 0) \/ (l.Kind = 4 /\ In l.Number m.Outputs.length /\ l.Value = 0)
def b2y (m : Machine) (inside : Bool) (c : List (List Literal)) : Prop := c.length <= 6 /\ ∀ t ∈ c, t.length <= 6 /\ ∀ l ∈ t, b4p m inside l
theorem c9m {α : Type} {l : List α} {n : Int} (h : In n l.length) : ∃ (k : Nat) (x : α), n = k /\ l[k]? = some x /\ get l n = some x := by
 obtain ⟨h0, h1⟩ := h
 obtain ⟨k, rfl⟩ := Int.eq_ofNat_of_zero_le h0
 obtain ⟨x, hx⟩ := b3v (l := l) (k := k) (by omega)
 exact ⟨k, x, rfl, hx, b1j hx⟩
theorem c0z {n : Int} {k : Nat} (hk : k <= maxLen) : (decide (0 <= n) && decide (n <= wr ((k : Int) - 1))) = true ↔ In n k := by
 rw [c23 hk]
 simp only [Bool.and_eq_true, decide_eq_true_eq, In]
 constructor <;> exact fun h => ⟨by omega, by omega⟩
theorem b1w {n : Nat} (h : n <= 1000) : n <= maxLen := by simp only [maxLen]; omega
theorem d7h {m : Machine} (hs : SizesOk m) {l : Literal} {inside : Bool} {β : Type} {g : Bool -> Option β} :
  ∃ b : Bool, (if decide (l.Kind = 1) then g ((b1y l.Number 0 (wr ((List.length m.Inputs : Int) - 1))) && (decide (l.Value = 0)))
   else if decide (l.Kind = 2) then (if (b1y l.Number 0 (wr ((List.length m.Counters : Int) - 1))) then (get m.Counters l.Number).bind fun x30 => some (b1y l.Value 0 x30.Max) else some false).bind fun c31 => g c31
   else if decide (l.Kind = 3) then g ((inside && (b1y l.Number 0 (wr ((List.length m.States : Int) - 1)))) && (decide (l.Value = 0)))
   else if decide (l.Kind = 4) then g ((b1y l.Number 0 (wr ((List.length m.Outputs : Int) - 1))) && (decide (l.Value = 0)))
   else g false) = g b /\ (b = true ↔ b4p m inside l) := by
 have hi := b1w (Nat.le_trans hs.i (by omega)); have ho := b1w (Nat.le_trans hs.o (by omega)); have hc := b1w (Nat.le_trans hs.c (by omega)); have hst := b1w (Nat.le_trans hs.s.2 (by omega))
 unfold b1y b4p
 by_cases h1 : l.Kind = 1
 ·refine ⟨_, by rw [if_pos (by simpa using h1)], ?_⟩
  rw [Bool.and_eq_true, c0z hi]
  simp [h1]
 by_cases h2 : l.Kind = 2
 ·rw [if_neg (by simpa using h1), if_pos (by simpa using h2)]
  by_cases hin : In l.Number m.Counters.length
  ·obtain ⟨k, c, hk, hx, hg⟩ := c9m hin
   rw [if_pos ((c0z hc).2 hin), hg]
   refine ⟨_, rfl, ?_⟩
   simp only [h2, Int.reduceEq, false_and, true_and, false_or, or_false, Bool.and_eq_true, decide_eq_true_eq]
   constructor
   ·exact fun h => ⟨k, c, hk, hx, h⟩
   ·rintro ⟨n, c', hn, hx', h⟩
    have : n = k := by omega
    subst this
    rw [hx] at hx'; cases hx'; exact h
  ·rw [if_neg (fun h => hin ((c0z hc).1 h))]
   refine ⟨_, rfl, ?_⟩
   simp only [h2, Int.reduceEq, false_and, true_and, false_or, or_false, Bool.false_eq_true, false_iff, not_exists]
   rintro n c ⟨hn, hx, _⟩
   exact hin ⟨by omega, by have := b1m hx; omega⟩
 by_cases h3 : l.Kind = 3
 ·refine ⟨_, by rw [if_neg (by simpa using h1), if_neg (by simpa using h2), if_pos (by simpa using h3)], ?_⟩
  rw [Bool.and_eq_true, Bool.and_eq_true, c0z hst]
  simp [h3, and_assoc]
 by_cases h4 : l.Kind = 4
 ·refine ⟨_, by rw [if_neg (by simpa using h1), if_neg (by simpa using h2), if_neg (by simpa using h3), if_pos (by simpa using h4)], ?_⟩
  rw [Bool.and_eq_true, c0z ho]
  simp [h4]
 ·refine ⟨false, by rw [if_neg (by simpa using h1), if_neg (by simpa using h2), if_neg (by simpa using h3), if_neg (by simpa using h4)], ?_⟩
  simp [h1, h2, h3, h4]
theorem d7i {m : Machine} (hs : SizesOk m) {c : List (List Literal)} {i : Nat} {t : List Literal} (ht : c[i]? = some t) (inside : Bool) (hl : t.length <= 6) :
  ((∀ l ∈ t, b4p m inside l) /\ b0z (b73 m c inside i) 0 = some (.inl ())) \/ ((∃ l ∈ t, ¬ b4p m inside l) /\ b0z (b73 m c inside i) 0 = some (.inr false)) := by
 rcases b3y (f := b73 m c inside i) (l := t) (p := fun _ l => ¬ b4p m inside l) (e := .inr false) (u := .inl ()) (b1w (by omega)) (fun k x hx => by
   have hk := b1m hx
   obtain ⟨b, h1, h2⟩ := d7h hs (l := x) (inside := inside) (g := b60 k)
   refine ⟨!b, ?_, by rw [<- h2]; simp⟩
   unfold b73
   simp only [b1j ht, b1j hx, Option.bind_some, Int.ofNat_lt, hk, decide_true, if_true]
   rw [h1]
   rfl) (by unfold b73; simp only [b1j ht, Option.bind_some, Int.lt_irrefl, decide_false, Bool.false_eq_true, if_false]) with ⟨h1, h2⟩ | ⟨⟨k, x, h1, h2⟩, h3⟩
 ·exact .inl ⟨fun l hl => by obtain ⟨k, hk⟩ := b1a.1 hl; exact Classical.not_not.1 (h1 k l hk), h2⟩
 ·exact .inr ⟨⟨x, b1a.2 ⟨k, h1⟩, h2⟩, h3⟩
theorem d3g {m : Machine} (hs : SizesOk m) (c : List (List Literal)) (inside : Bool) : ∃ b, b9k m c inside = some b /\ (b = true ↔ b2y m inside c) := by
 unfold b9k
 by_cases h6 : c.length <= 6
 case neg => exact ⟨false, by rw [if_pos (by simp; omega)], by simp [b2y]; intro h; omega⟩
 rw [if_neg (by simp; omega)]
 rcases c1m (f := b9l m c inside) c (fun _ t => ¬ (t.length <= 6 /\ ∀ l ∈ t, b4p m inside l)) (.inr false) (.inl ()) (fun k t ht hb => by
   have hk := b1m ht
   unfold b9l
   simp only [b1j ht, Option.bind_some, Int.ofNat_lt, hk, decide_true, if_true]
   by_cases hl : t.length <= 6
   ·rw [if_neg (by simp; omega)]
    rcases d7i hs ht inside hl with ⟨h1, _⟩ | ⟨_, h2⟩
    ·exact absurd ⟨hl, h1⟩ hb
    ·rw [h2]; rfl
   ·rw [if_pos (by simp; omega)]) (fun k t ht hb => by
   have hk := b1m ht
   obtain ⟨hl, h0⟩ := Classical.not_not.1 hb
   unfold b9l
   simp only [b1j ht, Option.bind_some, Int.ofNat_lt, hk, decide_true, if_true]
   rw [if_neg (by simp; omega)]
   rcases d7i hs ht inside hl with ⟨_, h2⟩ | ⟨⟨l, h1, h2⟩, _⟩
   ·rw [h2]; simp only [Option.bind_some, c5y]; rw [b25 hk (b1w (by omega))]
   ·exact absurd (h0 l h1) h2) (by unfold b9l; simp only [Int.lt_irrefl, decide_false, Bool.false_eq_true, if_false]) with ⟨h1, h2⟩ | ⟨⟨k, t, h1, h2⟩, h3⟩
 ·rw [h2]
  exact ⟨true, rfl, by simp only [true_iff]; exact ⟨h6, fun t ht => by obtain ⟨k, hk⟩ := b1a.1 ht; exact Classical.not_not.1 (h1 k t hk)⟩⟩
 ·rw [h3]
  exact ⟨false, rfl, by simp only [Bool.false_eq_true, false_iff]; exact fun h => h2 (h.2 t (b1a.2 ⟨k, h1⟩))⟩
theorem g1u {m : Machine} (hs : SizesOk m) (l : Literal) : ∃ b, c2u m l = some b /\ (b = true ↔ b4p m true l) := by
 obtain ⟨b, h1, h2⟩ := d7h hs (l := l) (inside := true) (g := fun b => some b)
 refine ⟨b, ?_, h2⟩
 rw [<- h1]
 unfold c2u b2k b1y
 simp only [Bool.true_and]
theorem d2k {m : Machine} (hs : SizesOk m) (c : List (List Literal)) : ∃ b, b9w m c = some b /\ (b = true ↔ b2y m true c) := by
 unfold b9w
 by_cases h6 : c.length <= 6
 case neg => exact ⟨false, by rw [if_pos (by simp; omega)], by simp [b2y]; intro h; omega⟩
 rw [if_neg (by simp; omega)]
 rcases b3y (f := c2m m c) (l := c) (p := fun _ t => ¬ (t.length <= 6 /\ ∀ l ∈ t, b4p m true l)) (e := .inr false) (u := .inl ()) (b1w (by omega)) (fun k t ht => by
   have hk := b1m ht
   unfold c2m
   simp only [b1j ht, Option.bind_some, Int.ofNat_lt, hk, decide_true, if_true]
   by_cases hl : t.length <= 6
   ·rw [if_neg (by simp; omega)]
    obtain ⟨b, h1, h2⟩ := c4l (g := b65 t (fun z14 => b77 z14 m)) (s := t) (f := fun z14 => b77 z14 m) (p := fun l => ¬ b4p m true l) rfl (b1w (by omega)) (fun x hx => by
     obtain ⟨b, h1, h2⟩ := g1u hs x
     exact ⟨!b, by unfold b77; rw [h1]; rfl, by rw [<- h2]; simp⟩)
    rw [h1]
    refine ⟨b, rfl, ?_⟩
    rw [h2]
    constructor
    ·rintro ⟨x, hx, h⟩ hh; exact h (hh.2 x hx)
    ·intro h
     exact Classical.byContradiction fun hn => h ⟨hl, fun l hl' => Classical.byContradiction fun h' => hn ⟨l, hl', h'⟩⟩
   ·rw [if_pos (by simp; omega)]
    exact ⟨true, rfl, by simp; intro h; omega⟩) (by unfold c2m; simp only [Int.lt_irrefl, decide_false, Bool.false_eq_true, if_false]) with ⟨h1, h2⟩ | ⟨⟨k, t, h1, h2⟩, h3⟩
 ·rw [h2]
  exact ⟨true, rfl, by simp only [true_iff]; exact ⟨h6, fun t ht => by obtain ⟨k, hk⟩ := b1a.1 ht; exact Classical.not_not.1 (h1 k t hk)⟩⟩
 ·rw [h3]
  exact ⟨false, rfl, by simp only [Bool.false_eq_true, false_iff]; exact fun h => h2 (h.2 t (b1a.2 ⟨k, h1⟩))⟩
end Go.Nw.KM
namespace Go.Nw.KM
def b8d (l : List ByteArray) (k : Nat) (x : ByteArray) : Prop := ¬ c1n x \/ x ∈ l.take k
def c24 (l : List ByteArray) : Prop := ∃ k x, l[k]? = some x /\ b8d l k x
structure OkRule (m : Machine) (r : Rule) : Prop where
 f : -1 <= r.From /\ r.From < (m.States.length : Int)
 t : In r.To m.States.length
 w : b2y m false r.When
 n : r.Sets.length <= 4
 s : ∀ s ∈ r.Sets, (1 <= s.Kind /\ s.Kind <= 3) /\ In s.Counter m.Counters.length
structure OkM (m : Machine) : Prop where
 z : SizesOk m
 n : ¬ c24 (b23 m)
 c : ∀ c ∈ m.Counters, 1 <= c.Max /\ c.Max <= 7
 s : ∀ s ∈ m.States, 0 <= s.Shows /\ s.Shows < 2 ^ m.Outputs.length
 r : ∀ r ∈ m.Rules, OkRule m r
theorem d79 {m : Machine} (h : SizesOk m) : (b23 m).length <= 24 := by
 have := h.i; have := h.o; have := h.c; have := h.s
 simp [b23]; omega
theorem d78 {s : ByteArray} (hs : s.size <= maxLen) : ∃ b, (if decide (8 < (ByteArray.size s : Int)) then some true else (b9j s).bind fun y70 => some (!y70)) = some b /\ (b = true ↔ ¬ c1n s) := by
 by_cases h8 : s.size <= 8
 ·obtain ⟨b, h1, h2⟩ := g1m s hs
  rw [if_neg (by simp; omega), h1]
  exact ⟨!b, rfl, by simp [c1n, h8, <- h2]⟩
 ·rw [if_pos (by simp; omega)]
  exact ⟨true, rfl, by simp [c1n]; intro h; omega⟩
theorem j31 {l : List ByteArray} (hl : l.length <= 24) (hf : ∀ n ∈ l, n.size <= maxLen) : (¬ c24 l /\ b0z (b6z l) 0 = some (.inl ())) \/ (c24 l /\ b0z (b6z l) 0 = some (.inr 41)) := by
 have inner : ∀ (i : Nat) x, l[i]? = some x -> (x ∉ l.take i /\ b0z (b7z l i) 0 = some (.inl ())) \/ (x ∈ l.take i /\ b0z (b7z l i) 0 = some (.inr 41)) := fun i x hx => by
  have hi := b1m hx
  have htl : (l.take i).length = i := by rw [List.length_take]; omega
  rcases b3y (f := b7z l i) (l := l.take i) (p := fun _ y => y = x) (e := .inr 41) (u := .inl ()) (b1w (by omega)) (fun k y hy => by
    have hk := b1m hy
    rw [htl] at hk
    rw [List.getElem?_take, if_pos hk] at hy
    refine ⟨decide (y = x), ?_, by simp⟩
    unfold b7z
    simp only [b1j hx, b1j hy, Option.bind_some, Int.ofNat_lt, hk, decide_true, if_true]) (by rw [htl]; unfold b7z; simp only [Int.lt_irrefl, decide_false, Bool.false_eq_true, if_false]) with ⟨h1, h2⟩ | ⟨⟨k, y, h1, h2⟩, h3⟩
  ·exact .inl ⟨fun h => by obtain ⟨k, hk⟩ := b1a.1 h; exact h1 k x hk rfl, h2⟩
  ·exact .inr ⟨b1a.2 ⟨k, h2 ▸ h1⟩, h3⟩
 rcases c1m (f := b6z l) l (b8d l) (.inr 41) (.inl ()) (fun k x hx hb => by
   have hk := b1m hx
   obtain ⟨b, h1, h2⟩ := d78 (hf x (b1a.2 ⟨k, hx⟩))
   unfold b6z
   simp only [b1j hx, Option.bind_some, Int.ofNat_lt, hk, decide_true, if_true]
   rw [h1, Option.bind_some]
   cases b with
   | true => rfl
   | false =>
    rw [if_neg (by simp)]
    rcases inner k x hx with ⟨h3, _⟩ | ⟨_, h4⟩
    ·rcases hb with hb | hb
     ·exact absurd (h2.2 hb) (by simp)
     ·exact absurd hb h3
    ·rw [h4]; rfl) (fun k x hx hb => by
   have hk := b1m hx
   obtain ⟨b, h1, h2⟩ := d78 (hf x (b1a.2 ⟨k, hx⟩))
   unfold b6z
   simp only [b1j hx, Option.bind_some, Int.ofNat_lt, hk, decide_true, if_true]
   rw [h1, Option.bind_some]
   have hbf : b = false := c3z fun h => hb (.inl (h2.1 h))
   subst hbf
   rw [if_neg (by simp)]
   rcases inner k x hx with ⟨_, h4⟩ | ⟨h3, _⟩
   ·rw [h4]; simp only [Option.bind_some, c5o]; rw [b25 hk (b1w (by omega))]
   ·exact absurd (.inr h3) hb) (by unfold b6z; simp only [Int.lt_irrefl, decide_false, Bool.false_eq_true, if_false]) with ⟨h1, h2⟩ | ⟨h1, h2⟩
 ·exact .inl ⟨fun ⟨k, x, a, b⟩ => h1 k x a b, h2⟩
 ·exact .inr ⟨h1, h2⟩
theorem b5r {n a b : Int} : b1y n a b = true ↔ a <= n /\ n <= b := by unfold b1y; simp
theorem b56 {n a b : Int} : b2k n a b = true ↔ a <= n /\ n <= b := by unfold b2k; simp
theorem c6e {n : Nat} (h : n <= 6) : shl .i64 1 (n : Int) = some (2 ^ n) := by
 rw [l0l (by omega) (by omega)]; simp
theorem d90 {n : Nat} (h : n <= 6) : wr ((2 : Int) ^ n - 1) = 2 ^ n - 1 := by
 have h2 : (2 : Int) ^ n <= 64 := by
  have := Nat.pow_le_pow_right (n := 2) (by omega) h
  have e : ((2 ^ n : Nat) : Int) = (2 : Int) ^ n := by simp
  omega
 have h1 : (0 : Int) < 2 ^ n := Int.pow_pos (by omega)
 exact b3q (by omega) (by omega)
theorem d2n {m : Machine} (hf : ∀ n ∈ b23 m, n.size <= maxLen) : ∃ e, b9g m = some e /\ ((e = 0 /\ OkM m) \/ (e = 41 /\ ¬ OkM m)) := by
 unfold b9g
 by_cases hz : SizesOk m
 case neg =>
  refine ⟨41, ?_, .inr ⟨rfl, fun h => hz h.z⟩⟩
  rw [if_pos]
  refine Classical.byContradiction fun hc => hz ?_
  simp only [Bool.or_eq_true, decide_eq_true_eq, Bool.not_eq_true', not_or, Bool.not_eq_false, b5r] at hc
  obtain ⟨⟨⟨⟨h1, h2⟩, h3⟩, h4⟩, h5⟩ := hc
  exact ⟨by omega, by omega, by omega, by omega, by omega⟩
 have hi := hz.i; have ho := hz.o; have hc := hz.c; have hs := hz.s; have hr := hz.r
 rw [if_neg (by
  simp only [Bool.or_eq_true, decide_eq_true_eq, Bool.not_eq_true', not_or, Bool.not_eq_false, b5r]
  omega), j33 hz, Option.bind_some]
 rcases j31 (d79 hz) hf with ⟨hn, h2⟩ | ⟨hn, h2⟩
 case inr => rw [h2]; exact ⟨41, rfl, .inr ⟨rfl, fun h => h.n hn⟩⟩
 rw [h2, Option.bind_some]
 simp only
 unfold c5k
 rcases b3y (f := c1v m) (l := m.Counters) (p := fun _ c => ¬ (1 <= c.Max /\ c.Max <= 7)) (e := .inr 41) (u := .inl ()) (b1w (by omega)) (fun k x hx => by
   have hk := b1m hx
   refine ⟨!(b1y x.Max 1 7), ?_, by rw [<- b5r]; simp⟩
   unfold c1v
   simp only [b1j hx, Option.bind_some, Int.ofNat_lt, hk, decide_true, if_true]) (by unfold c1v; simp only [Int.lt_irrefl, decide_false, Bool.false_eq_true, if_false]) with ⟨h1, h2⟩ | ⟨⟨k, x, h1, h2⟩, h3⟩
 case inr => rw [h3]; exact ⟨41, rfl, .inr ⟨rfl, fun h => h2 (h.c x (b1a.2 ⟨k, h1⟩))⟩⟩
 have hC : ∀ c ∈ m.Counters, 1 <= c.Max /\ c.Max <= 7 := fun c hc => by obtain ⟨k, hk⟩ := b1a.1 hc; exact Classical.not_not.1 (h1 k c hk)
 rw [h2, Option.bind_some]
 simp only
 unfold c5l
 rcases b3y (f := c1w m) (l := m.States) (p := fun _ s => ¬ (0 <= s.Shows /\ s.Shows < 2 ^ m.Outputs.length)) (e := .inr 41) (u := .inl ()) (b1w (by omega)) (fun k x hx => by
   have hk := b1m hx
   refine ⟨!(b1y x.Shows 0 (2 ^ m.Outputs.length - 1)), ?_, by simp only [Bool.not_eq_true', <- Bool.not_eq_true, b5r]; omega⟩
   unfold c1w
   simp only [b1j hx, Option.bind_some, Int.ofNat_lt, hk, decide_true, if_true]
   rw [c60 (by omega) (by omega), c6e ho, Option.bind_some, d90 ho]) (by unfold c1w; simp only [Int.lt_irrefl, decide_false, Bool.false_eq_true, if_false]) with ⟨h1, h2⟩ | ⟨⟨k, x, h1, h2⟩, h3⟩
 case inr => rw [h3]; exact ⟨41, rfl, .inr ⟨rfl, fun h => h2 (h.s x (b1a.2 ⟨k, h1⟩))⟩⟩
 have hS : ∀ s ∈ m.States, 0 <= s.Shows /\ s.Shows < 2 ^ m.Outputs.length := fun c hc => by obtain ⟨k, hk⟩ := b1a.1 hc; exact Classical.not_not.1 (h1 k c hk)
 rw [h2, Option.bind_some]
 simp only
 unfold c5m
 have wrs : wr ((m.States.length : Int) - 1) = (m.States.length : Int) - 1 := c23 (b1w (by omega))
 have wrc : wr ((m.Counters.length : Int) - 1) = (m.Counters.length : Int) - 1 := c23 (b1w (by omega))
 have rule : ∀ (k : Nat) x, m.Rules[k]? = some x -> (OkRule m x /\ b70 m k = some (.nx ((k : Int) + 1))) \/ (¬ OkRule m x /\ b70 m k = some (.br (.inr 41))) := fun k x hx => by
  have hk := b1m hx
  unfold b70
  simp only [b1j hx, Option.bind_some, Int.ofNat_lt, hk, decide_true, if_true, wrs]
  by_cases hft : b1y x.From (-1) ((m.States.length : Int) - 1) = true /\ b1y x.To 0 ((m.States.length : Int) - 1) = true
  case neg =>
   rw [if_pos (by simp only [Bool.or_eq_true, Bool.not_eq_true', <- Bool.not_eq_true]; exact Classical.not_and_iff_not_or_not.1 hft), Option.bind_some, Bool.true_or]
   refine .inr ⟨fun h => hft ?_, rfl⟩
   rw [b5r, b5r]
   have := h.f; have := h.t
   unfold In at this
   exact ⟨by omega, by omega⟩
  rw [if_neg (by simp only [Bool.or_eq_true, Bool.not_eq_true', <- Bool.not_eq_true]; exact fun h => h.elim (fun h => h hft.1) fun h => h hft.2)]
  rw [b5r, b5r] at hft
  obtain ⟨b, h1, h2⟩ := d3g hz x.When false
  rw [h1, Option.bind_some, Option.bind_some]
  by_cases hb : b = true /\ x.Sets.length <= 4
  case neg =>
   rw [if_pos (by
    simp only [Bool.or_eq_true, Bool.not_eq_true', decide_eq_true_eq]
    rcases Classical.not_and_iff_not_or_not.1 hb with h | h
    ·exact .inl (c3z h)
    ·exact .inr (by omega))]
   exact .inr ⟨fun h => hb ⟨h2.2 h.w, h.n⟩, rfl⟩
  rw [if_neg (by
    simp only [Bool.or_eq_true, Bool.not_eq_true', decide_eq_true_eq, hb.1]
    have := hb.2
    simp; omega)]
  rcases b3y (f := c1x m x) (l := x.Sets) (p := fun _ s => ¬ ((1 <= s.Kind /\ s.Kind <= 3) /\ In s.Counter m.Counters.length)) (e := .inr 41) (u := .inl ()) (b1w (by omega)) (fun k s hs => by
    have hk := b1m hs
    refine ⟨!(b1y s.Kind 1 3) || !(b1y s.Counter 0 ((m.Counters.length : Int) - 1)), ?_, ?_⟩
    ·unfold c1x
     simp only [b1j hs, Option.bind_some, Int.ofNat_lt, hk, decide_true, if_true, wrc]
    ·simp only [Bool.or_eq_true, Bool.not_eq_true', <- Bool.not_eq_true, b5r, In]; omega) (by unfold c1x; simp only [Int.lt_irrefl, decide_false, Bool.false_eq_true, if_false]) with ⟨h3, h4⟩ | ⟨⟨j, s, h3, h4⟩, h5⟩
  ·rw [h4]
   refine .inl ⟨⟨by omega, by unfold In; omega, h2.1 hb.1, hb.2, fun s hs => by obtain ⟨k, hk⟩ := b1a.1 hs; exact Classical.not_not.1 (h3 k s hk)⟩, ?_⟩
   simp only [Option.bind_some, c5n]; rw [b25 hk (b1w (by omega))]
  ·rw [h5]
   exact .inr ⟨fun h => h4 (h.s s (b1a.2 ⟨j, h3⟩)), rfl⟩
 rcases c1m (f := b70 m) m.Rules (fun _ r => ¬ OkRule m r) (.inr 41) (.inl ()) (fun k x hx hb => (rule k x hx).elim (fun h => absurd h.1 hb) fun h => h.2) (fun k x hx hb => (rule k x hx).elim (fun h => h.2) fun h => absurd h.1 hb)
   (by unfold b70; simp only [Int.lt_irrefl, decide_false, Bool.false_eq_true, if_false]) with ⟨h1, h2⟩ | ⟨⟨k, x, h1, h2⟩, h3⟩
 ·rw [h2]
  exact ⟨0, rfl, .inl ⟨rfl, hz, hn, hC, hS, fun r hr => by obtain ⟨k, hk⟩ := b1a.1 hr; exact Classical.not_not.1 (h1 k r hk)⟩⟩
 ·rw [h3]
  exact ⟨41, rfl, .inr ⟨rfl, fun h => h2 (h.r x (b1a.2 ⟨k, h1⟩))⟩⟩
end Go.Nw.KM
namespace Go.Nw.KM
theorem j30 {m : Machine} (hz : SizesOk m) (hf : ∀ n ∈ b23 m, n.size <= maxLen) : ∃ b, c2v m = some b /\ (b = true ↔ ¬ c24 (b23 m)) := by
 unfold c2v
 rw [j32 hz, Option.bind_some]
 have hl := d79 hz
 generalize b23 m = l at hf hl
 have keys : ∀ k, (((l.take k).map fun n => (n, (1 : Int))).map (·.1)) = l.take k := fun k => by rw [List.map_map]; simp [Function.comp_def]
 have stepb : ∀ (k : Nat) x, l[k]? = some x -> ∃ b, b9x l ((l.take k).map fun n => (n, (1 : Int)), (k : Int)) = (if b = true then some (.br (.inr false)) else some (.nx ((b3j ((l.take k).map fun n => (n, (1 : Int))) x (wr ((b2n ((l.take k).map fun n => (n, (1 : Int))) x 0) + 1))), (k : Int) + 1))) /\ (b = true ↔ b8d l k x) := fun k x hx => by
  have hk := b1m hx
  obtain ⟨b, h1, h2⟩ := g1h x (hf x (b1a.2 ⟨k, hx⟩))
  refine ⟨_, by
   unfold b9x
   simp only [b1j hx, Option.bind_some, Int.ofNat_lt, hk, decide_true, if_true, h1]
   rw [b25 hk (b1w (by omega))], ?_⟩
  rw [j3l]
  by_cases hin : x ∈ l.take k
  ·obtain ⟨d, hd⟩ := d7u (z := (0 : Int)) (l := (l.take k).map fun n => (n, (1 : Int))) (k := x) (by rw [keys]; exact hin)
   rw [List.getElem?_map] at hd
   obtain ⟨y, _, hy⟩ := Option.map_eq_some_iff.1 hd
   simp only [Prod.mk.injEq] at hy
   rw [<- hy.2, show wr ((1 : Int) + 1) = 2 from by decide]
   simp [b8d, hin]
  ·rw [d7v (by rw [keys]; exact hin), show wr ((0 : Int) + 1) = 1 from by decide]
   simp only [Bool.or_eq_true, Bool.not_eq_true', <- Bool.not_eq_true, h2, g1j, decide_eq_true_eq, b8d, hin, or_false, c1n, b9c, Int.lt_irrefl]
   have e8 : ¬ (8 : Int) < (x.size : Int) ↔ x.size <= 8 := by omega
   rw [<- e8]
   exact ⟨fun h hh => h.elim (fun h => h.elim (fun h => h hh.2.2) fun h => hh.1 h) fun h => hh.2.1 h, fun h => by
    refine Classical.byContradiction fun hn => h ?_
    simp only [not_or, Classical.not_not] at hn
    exact ⟨hn.1.2, hn.2, hn.1.1⟩⟩
 rcases d7q (f := b9x l) l (fun s k => (s, k)) (fun k => (l.take k).map fun n => (n, (1 : Int))) (b8d l) (.inr false) (.inl ()) (fun k x _ hx hb => by
   obtain ⟨b, h1, h2⟩ := stepb k x hx
   rw [h1, if_pos (h2.2 hb)]) (fun k x _ hx hb => by
   obtain ⟨b, h1, h2⟩ := stepb k x hx
   rw [h1, if_neg (fun h => hb (h2.1 h))]
   have hin : x ∉ l.take k := fun h => hb (.inr h)
   rw [d73 (by rw [keys]; exact hin), d7v (by rw [keys]; exact hin), show wr ((0 : Int) + 1) = 1 from by decide, List.take_add_one, hx]
   simp) (by unfold b9x; simp only [Int.lt_irrefl, decide_false, Bool.false_eq_true, if_false]) (s0 := []) (by simp) with ⟨h1, h2⟩ | ⟨h1, h2⟩
 ·rw [h2]
  exact ⟨true, rfl, by simp only [true_iff]; exact fun ⟨k, x, a, b⟩ => h1 k x a b⟩
 ·rw [h2]
  exact ⟨false, rfl, by simp only [Bool.false_eq_true, false_iff, Classical.not_not]; exact h1⟩
theorem c8s {m : Machine} {c : List (List Literal)} : b2y m false c ↔ b2y m true c /\ ∀ t ∈ c, ¬ ∃ l ∈ t, l.Kind = 3 := by
 unfold b2y b4p
 constructor
 ·intro h
  refine ⟨⟨h.1, fun t ht => ⟨(h.2 t ht).1, fun l hl => ?_⟩⟩, fun t ht ⟨l, hl, h3⟩ => ?_⟩
  ·rcases (h.2 t ht).2 l hl with h | h | h | h
   ·exact .inl h
   ·exact .inr (.inl h)
   ·simp at h
   ·exact .inr (.inr (.inr h))
  ·rcases (h.2 t ht).2 l hl with h | h | h | h
   ·omega
   ·omega
   ·simp at h
   ·omega
 ·rintro ⟨h, h3⟩
  refine ⟨h.1, fun t ht => ⟨(h.2 t ht).1, fun l hl => ?_⟩⟩
  rcases (h.2 t ht).2 l hl with h | h | h | h
  ·exact .inl h
  ·exact .inr (.inl h)
  ·exact absurd ⟨l, hl, h.1⟩ (h3 t ht)
  ·exact .inr (.inr (.inr h))
theorem g1a {m : Machine} (hf : ∀ n ∈ b23 m, n.size <= maxLen) : ∃ e, c2n m = some e /\ ((e = 0 /\ OkM m) \/ (e = 41 /\ ¬ OkM m)) := by
 unfold c2n
 by_cases hz : SizesOk m
 case neg =>
  refine ⟨41, ?_, .inr ⟨rfl, fun h => hz h.z⟩⟩
  rw [if_pos, Option.bind_some, if_pos rfl]
  refine Classical.byContradiction fun hc => hz ?_
  simp only [Bool.or_eq_true, decide_eq_true_eq, Bool.not_eq_true', not_or, Bool.not_eq_false, b56] at hc
  obtain ⟨⟨⟨⟨h1, h2⟩, h3⟩, h4⟩, h5⟩ := hc
  exact ⟨by omega, by omega, by omega, by omega, by omega⟩
 have hi := hz.i; have ho := hz.o; have hc := hz.c; have hs := hz.s; have hr := hz.r
 obtain ⟨b, h1, h2⟩ := j30 hz hf
 rw [if_neg (by
  simp only [Bool.or_eq_true, decide_eq_true_eq, Bool.not_eq_true', not_or, Bool.not_eq_false, b56]
  omega), h1, Option.bind_some, Option.bind_some]
 cases b with
 | false => exact ⟨41, rfl, .inr ⟨rfl, fun h => absurd (h2.2 h.n) (by simp)⟩⟩
 | true =>
 have hn := h2.1 rfl
 rw [if_neg (by simp)]
 clear h1 h2
 rcases b3y (f := c2r m) (l := m.Counters) (p := fun _ c => ¬ (1 <= c.Max /\ c.Max <= 7)) (e := .inr 41) (u := .inl ()) (b1w (by omega)) (fun k x hx => by
   have hk := b1m hx
   refine ⟨!(b2k x.Max 1 7), ?_, by rw [<- b56]; simp⟩
   unfold c2r
   simp only [b1j hx, Option.bind_some, Int.ofNat_lt, hk, decide_true, if_true]) (by unfold c2r; simp only [Int.lt_irrefl, decide_false, Bool.false_eq_true, if_false]) with ⟨h1, h2⟩ | ⟨⟨k, x, h1, h2⟩, h3⟩
 case inr => rw [h3]; exact ⟨41, rfl, .inr ⟨rfl, fun h => h2 (h.c x (b1a.2 ⟨k, h1⟩))⟩⟩
 have hC : ∀ c ∈ m.Counters, 1 <= c.Max /\ c.Max <= 7 := fun c hc => by obtain ⟨k, hk⟩ := b1a.1 hc; exact Classical.not_not.1 (h1 k c hk)
 rw [h2, Option.bind_some]
 simp only
 unfold c6f
 rcases b3y (f := c2o m) (l := m.States) (p := fun _ s => ¬ (0 <= s.Shows /\ s.Shows < 2 ^ m.Outputs.length)) (e := .inr 41) (u := .inl ()) (b1w (by omega)) (fun k x hx => by
   have hk := b1m hx
   refine ⟨!(b2k x.Shows 0 (2 ^ m.Outputs.length - 1)), ?_, by simp only [Bool.not_eq_true', <- Bool.not_eq_true, b56]; omega⟩
   unfold c2o
   simp only [b1j hx, Option.bind_some, Int.ofNat_lt, hk, decide_true, if_true]
   rw [c6e ho, Option.bind_some, d90 ho]) (by unfold c2o; simp only [Int.lt_irrefl, decide_false, Bool.false_eq_true, if_false]) with ⟨h1, h2⟩ | ⟨⟨k, x, h1, h2⟩, h3⟩
 case inr => rw [h3]; exact ⟨41, rfl, .inr ⟨rfl, fun h => h2 (h.s x (b1a.2 ⟨k, h1⟩))⟩⟩
 have hS : ∀ s ∈ m.States, 0 <= s.Shows /\ s.Shows < 2 ^ m.Outputs.length := fun c hc => by obtain ⟨k, hk⟩ := b1a.1 hc; exact Classical.not_not.1 (h1 k c hk)
 rw [h2, Option.bind_some]
 simp only
 unfold c6g
 have wrs : wr ((m.States.length : Int) - 1) = (m.States.length : Int) - 1 := c23 (b1w (by omega))
 have wrc : wr ((m.Counters.length : Int) - 1) = (m.Counters.length : Int) - 1 := c23 (b1w (by omega))
 have rule : ∀ (k : Nat) x, m.Rules[k]? = some x -> (OkRule m x /\ b78 m k = some (.nx ((k : Int) + 1))) \/ (¬ OkRule m x /\ b78 m k = some (.br (.inr 41))) := fun k x hx => by
  have hk := b1m hx
  unfold b78
  simp only [b1j hx, Option.bind_some, Int.ofNat_lt, hk, decide_true, if_true, wrs]
  by_cases hft : b2k x.From (-1) ((m.States.length : Int) - 1) = true /\ b2k x.To 0 ((m.States.length : Int) - 1) = true
  case neg =>
   rw [if_pos (by simp only [Bool.or_eq_true, Bool.not_eq_true', <- Bool.not_eq_true]; exact Classical.not_and_iff_not_or_not.1 hft), Option.bind_some, Bool.true_or]
   refine .inr ⟨fun h => hft ?_, rfl⟩
   rw [b56, b56]
   have := h.f; have := h.t
   unfold In at this
   exact ⟨by omega, by omega⟩
  rw [if_neg (by simp only [Bool.or_eq_true, Bool.not_eq_true', <- Bool.not_eq_true]; exact fun h => h.elim (fun h => h hft.1) fun h => h hft.2)]
  rw [b56, b56] at hft
  obtain ⟨b, h1, h2⟩ := d2k hz x.When
  rw [h1, Option.bind_some, Option.bind_some]
  by_cases hb : b = true /\ x.Sets.length <= 4
  case neg =>
   rw [if_pos (by
    simp only [Bool.or_eq_true, Bool.not_eq_true', decide_eq_true_eq]
    rcases Classical.not_and_iff_not_or_not.1 hb with h | h
    ·exact .inl (c3z h)
    ·exact .inr (by omega))]
   exact .inr ⟨fun h => hb ⟨h2.2 (c8s.1 h.w).1, h.n⟩, rfl⟩
  rw [if_neg (by
    simp only [Bool.or_eq_true, Bool.not_eq_true', decide_eq_true_eq, hb.1]
    have := hb.2
    simp; omega)]
  have hw := h2.1 hb.1
  rcases b3y (f := c2p x) (l := x.When) (p := fun _ t => ∃ l ∈ t, l.Kind = 3) (e := .inr 41) (u := .inl ()) (b1w (by have := hw.1; omega)) (fun k t ht => by
    have hk := b1m ht
    obtain ⟨b, h1, h2⟩ := c4l (g := b65 t (fun z53 => some (b64 z53))) (s := t) (f := fun z53 => some (b64 z53)) (p := fun l => l.Kind = 3) rfl (b1w (by have := (hw.2 t (b1a.2 ⟨k, ht⟩)).1; omega)) (fun x hx => ⟨_, rfl, by unfold b64; simp⟩)
    refine ⟨b, ?_, h2⟩
    unfold c2p
    simp only [b1j ht, Option.bind_some, Int.ofNat_lt, hk, decide_true, if_true]
    rw [h1]; rfl) (by unfold c2p; simp only [Int.lt_irrefl, decide_false, Bool.false_eq_true, if_false]) with ⟨h3, h4⟩ | ⟨⟨j, s, h3, h4⟩, h5⟩
  case inr =>
   rw [h5]
   exact .inr ⟨fun h => (c8s.1 h.w).2 s (b1a.2 ⟨j, h3⟩) h4, rfl⟩
  have hw' : b2y m false x.When := c8s.2 ⟨hw, fun t ht => by obtain ⟨k, hk⟩ := b1a.1 ht; exact h3 k t hk⟩
  rw [h4]
  simp only [Option.bind_some]
  unfold c6i
  clear h3 h4
  rcases b3y (f := c2q m x) (l := x.Sets) (p := fun _ s => ¬ ((1 <= s.Kind /\ s.Kind <= 3) /\ In s.Counter m.Counters.length)) (e := .inr 41) (u := .inl ()) (b1w (by omega)) (fun k s hs => by
    have hk := b1m hs
    refine ⟨!(b2k s.Kind 1 3) || !(b2k s.Counter 0 ((m.Counters.length : Int) - 1)), ?_, ?_⟩
    ·unfold c2q
     simp only [b1j hs, Option.bind_some, Int.ofNat_lt, hk, decide_true, if_true, wrc]
    ·simp only [Bool.or_eq_true, Bool.not_eq_true', <- Bool.not_eq_true, b56, In]; omega) (by unfold c2q; simp only [Int.lt_irrefl, decide_false, Bool.false_eq_true, if_false]) with ⟨h3, h4⟩ | ⟨⟨j, s, h3, h4⟩, h5⟩
  ·rw [h4]
   refine .inl ⟨⟨by omega, by unfold In; omega, hw', hb.2, fun s hs => by obtain ⟨k, hk⟩ := b1a.1 hs; exact Classical.not_not.1 (h3 k s hk)⟩, ?_⟩
   simp only [Option.bind_some, c6h]; rw [b25 hk (b1w (by omega))]
  ·rw [h5]
   exact .inr ⟨fun h => h4 (h.s s (b1a.2 ⟨j, h3⟩)), rfl⟩
 rcases c1m (f := b78 m) m.Rules (fun _ r => ¬ OkRule m r) (.inr 41) (.inl ()) (fun k x hx hb => (rule k x hx).elim (fun h => absurd h.1 hb) fun h => h.2) (fun k x hx hb => (rule k x hx).elim (fun h => h.2) fun h => absurd h.1 hb)
   (by unfold b78; simp only [Int.lt_irrefl, decide_false, Bool.false_eq_true, if_false]) with ⟨h1, h2⟩ | ⟨⟨k, x, h1, h2⟩, h3⟩
 ·rw [h2]
  exact ⟨0, rfl, .inl ⟨rfl, hz, hn, hC, hS, fun r hr => by obtain ⟨k, hk⟩ := b1a.1 hr; exact Classical.not_not.1 (h1 k r hk)⟩⟩
 ·rw [h3]
  exact ⟨41, rfl, .inr ⟨rfl, fun h => h2 (h.r x (b1a.2 ⟨k, h1⟩))⟩⟩
theorem g09 {m : Machine} (hf : ∀ n ∈ b23 m, n.size <= maxLen) : ∃ e, c0l m = some e /\ ((e = 0 /\ OkM m) \/ (e = 41 /\ ¬ OkM m)) := by
 obtain ⟨e, h1, h2⟩ := g1a hf
 exact ⟨e, by unfold c0l; rw [h1]; rfl, h2⟩
def b92 (m : Machine) (l : List (List (List Literal))) (e : Int) : Prop := (e = 0 /\ OkM m /\ ∀ c ∈ l, b2y m true c) \/ (e = 41 /\ ¬ OkM m) \/ (e = 42 /\ OkM m /\ ∃ c ∈ l, ¬ b2y m true c)
theorem g40 {m : Machine} {l : List (List (List Literal))} {e f : Int} (h : b92 m l e) (h' : b92 m l f) : e = f := by
 rcases h with ⟨rfl, a, b⟩ | ⟨rfl, a⟩ | ⟨rfl, a, b⟩ <;> rcases h' with ⟨rfl, a', b'⟩ | ⟨rfl, a'⟩ | ⟨rfl, a', b'⟩
 ·rfl
 ·exact absurd a a'
 ·obtain ⟨c, hc, hn⟩ := b'; exact absurd (b c hc) hn
 ·exact absurd a' a
 ·rfl
 ·exact absurd a' a
 ·obtain ⟨c, hc, hn⟩ := b; exact absurd (b' c hc) hn
 ·exact absurd a a'
 ·rfl
theorem g4v {m : Machine} (hf : ∀ n ∈ b23 m, n.size <= maxLen) {l : List (List (List Literal))} (hl : l.length <= 1000) : ∃ e, c0n m l = some e /\ b92 m l e := by
 unfold c0n
 obtain ⟨e, h1, h2⟩ := g09 hf
 rw [h1, Option.bind_some]
 rcases h2 with ⟨rfl, ho⟩ | ⟨rfl, ho⟩
 case inr => exact ⟨41, rfl, .inr (.inl ⟨rfl, ho⟩)⟩
 rw [if_neg (by simp)]
 rcases b3y (f := c0o m l) (l := l) (p := fun _ c => ¬ b2y m true c) (e := .inr 42) (u := .inl ()) (b1w hl) (fun k x hx => by
   have hk := b1m hx
   obtain ⟨b, h1, h2⟩ := d2k ho.z x
   refine ⟨!b, ?_, by rw [<- h2]; simp⟩
   unfold c0o
   simp only [b1j hx, Option.bind_some, Int.ofNat_lt, hk, decide_true, if_true, h1]) (by unfold c0o; simp only [Int.lt_irrefl, decide_false, Bool.false_eq_true, if_false]) with ⟨h3, h4⟩ | ⟨⟨j, s, h3, h4⟩, h5⟩
 ·rw [h4]
  exact ⟨0, rfl, .inl ⟨rfl, ho, fun c hc => by obtain ⟨k, hk⟩ := b1a.1 hc; exact Classical.not_not.1 (h3 k c hk)⟩⟩
 ·rw [h5]
  exact ⟨42, rfl, .inr (.inr ⟨rfl, ho, s, b1a.2 ⟨j, h3⟩, h4⟩)⟩
theorem g08 {m : Machine} (hf : ∀ n ∈ b23 m, n.size <= maxLen) {l : List (List (List Literal))} (hl : l.length <= 1000) : ∃ e, c1t m l = some e /\ b92 m l e := by
 unfold c1t
 obtain ⟨e, h1, h2⟩ := d2n hf
 rw [h1, Option.bind_some]
 rcases h2 with ⟨rfl, ho⟩ | ⟨rfl, ho⟩
 case inr => exact ⟨41, rfl, .inr (.inl ⟨rfl, ho⟩)⟩
 rw [if_neg (by simp)]
 rcases b3y (f := c1u m l) (l := l) (p := fun _ c => ¬ b2y m true c) (e := .inr 42) (u := .inl ()) (b1w hl) (fun k x hx => by
   have hk := b1m hx
   obtain ⟨b, h1, h2⟩ := d3g ho.z x true
   refine ⟨!b, ?_, by rw [<- h2]; simp⟩
   unfold c1u
   simp only [b1j hx, Option.bind_some, Int.ofNat_lt, hk, decide_true, if_true, h1]) (by unfold c1u; simp only [Int.lt_irrefl, decide_false, Bool.false_eq_true, if_false]) with ⟨h3, h4⟩ | ⟨⟨j, s, h3, h4⟩, h5⟩
 ·rw [h4]
  exact ⟨0, rfl, .inl ⟨rfl, ho, fun c hc => by obtain ⟨k, hk⟩ := b1a.1 hc; exact Classical.not_not.1 (h3 k c hk)⟩⟩
 ·rw [h5]
  exact ⟨42, rfl, .inr (.inr ⟨rfl, ho, s, b1a.2 ⟨j, h3⟩, h4⟩)⟩
end Go.Nw.KM
namespace Go.Nw.KM
noncomputable section
def b5n (m : Machine) (i : Nat) : Int := match m.Counters[i]? with | some c => c.Max | none => 0
structure OkP (m : Machine) (p : Place) : Prop where
 s : In p.State m.States.length
 a : 0 <= p.Values.1 /\ p.Values.1 <= b5n m 0
 b : 0 <= p.Values.2 /\ p.Values.2 <= b5n m 1
def lit (m : Machine) (p : Place) (x : Int) (l : Literal) : Bool := (b7g ⟨m⟩ l p x).getD false
def b4y (m : Machine) (p : Place) (x : Int) (c : List (List Literal)) : Bool := c.any fun t => t.all (lit m p x)
def b4q (m : Machine) (p : Place) (x : Int) (c : List (List Literal)) : Bool := c.isEmpty || b4y m p x c
theorem d1k (p : Place) : Place.mk p.State (p.Values.1, p.Values.2) = p := rfl
theorem c02 {a b n : Int} (h : In n 2) : get [a, b] n = some (if n = 0 then a else b) := by
 obtain ⟨h0, h1⟩ := h
 have : n = 0 \/ n = 1 := by omega
 rcases this with rfl | rfl <;> rfl
theorem d7g {m : Machine} (hs : SizesOk m) {p : Place} (hp : In p.State m.States.length) {x : Int} {l : Literal} {ins : Bool} (hl : b4p m ins l) :
  b7g ⟨m⟩ l p x = some (lit m p x l) /\ b9p m p x l = some (lit m p x l) := by
 have key : ∃ b, b7g ⟨m⟩ l p x = some b /\ b9p m p x l = some b := by
  have hi := hs.i; have ho := hs.o; have hc := hs.c
  unfold b7g b9p b59 b62
  rcases hl with ⟨hk, hn, _⟩ | ⟨hk, n, c, hn, hx, _⟩ | ⟨hk, _⟩ | ⟨hk, hn, _⟩
  ·obtain ⟨h0, h1⟩ := hn
   simp only [hk, decide_true, if_true]
   rw [c60 h0 (by omega), d9b h0]
   exact ⟨_, rfl, rfl⟩
  ·have hlt := b1m hx
   simp only [hk, Int.reduceEq, decide_false, Bool.false_eq_true, if_false, decide_true, if_true]
   rw [c02 ⟨by omega, by omega⟩]
   exact ⟨_, rfl, rfl⟩
  ·simp only [hk, Int.reduceEq, decide_false, Bool.false_eq_true, if_false, decide_true, if_true]
   exact ⟨_, rfl, rfl⟩
  ·obtain ⟨h0, h1⟩ := hn
   obtain ⟨k, s, _, _, hg⟩ := c9m hp
   simp only [hk, Int.reduceEq, decide_false, Bool.false_eq_true, if_false, decide_true, if_true]
   rw [hg, Option.bind_some, Option.bind_some, c60 h0 (by omega), d9b h0]
   exact ⟨_, rfl, rfl⟩
 obtain ⟨b, h1, h2⟩ := key
 have : lit m p x l = b := by unfold lit; rw [h1]; rfl
 rw [this]; exact ⟨h1, h2⟩
theorem d2p {m : Machine} (hs : SizesOk m) {p : Place} (hp : In p.State m.States.length) {x : Int} {c : List (List Literal)} {ins : Bool} (hc : b2y m ins c) : b8i ⟨m⟩ c p x = some (b4y m p x c) := by
 unfold b8i
 obtain ⟨b, h1, h2⟩ := c4l (g := c6v c (fun z3 => b7e z3 ⟨m⟩ p x)) (s := c) (f := fun z3 => b7e z3 ⟨m⟩ p x) (p := fun t => t.all (lit m p x) = true) rfl (b1w (by have := hc.1; omega)) (fun t ht => by
  obtain ⟨b, h1, h2⟩ := c4l (g := b65 t (fun z3 => b7f z3 ⟨m⟩ p x)) (s := t) (f := fun z3 => b7f z3 ⟨m⟩ p x) (p := fun l => lit m p x l = false) rfl (b1w (by have := (hc.2 t ht).1; omega)) (fun l hl => by
   refine ⟨!(lit m p x l), ?_, by simp⟩
   unfold b7f
   rw [(d7g hs hp ((hc.2 t ht).2 l hl)).1]; rfl)
  refine ⟨!b, by unfold b7e; rw [h1]; rfl, ?_⟩
  rw [List.all_eq_true, Bool.not_eq_true', <- Bool.not_eq_true, h2]
  constructor
  ·exact fun h l hl => by
    cases hq : lit m p x l with
    | true => rfl
    | false => exact absurd ⟨l, hl, hq⟩ h
  ·rintro h ⟨l, hl, hq⟩; rw [h l hl] at hq; cases hq)
 rw [h1, Option.bind_some]
 congr 1
 rw [Bool.eq_iff_iff, h2]
 unfold b4y
 rw [List.any_eq_true]
theorem d2q {m : Machine} (hs : SizesOk m) {p : Place} (hp : In p.State m.States.length) {x : Int} {c : List (List Literal)} {ins : Bool} (hc : b2y m ins c) : b9i m p x c = some (b4y m p x c) := by
 have inner : ∀ (i : Nat) t, c[i]? = some t -> b0z (c12 m p x c i) (true, 0) = some (t.all (lit m p x)) := fun i t ht => by
  have htm := hc.2 t (b1a.2 ⟨i, ht⟩)
  refine b4z t.length (fun s k => (s, k)) (fun k => (t.take k).all (lit m p x)) _ (by simp) (fun k hk => ?_) ?_
  ·obtain ⟨l, hl⟩ := b3v hk
   unfold c12
   simp only [b1j ht, b1j hl, Option.bind_some, Int.ofNat_lt, hk, decide_true, if_true]
   rw [(d7g hs hp (htm.2 l (b1a.2 ⟨k, hl⟩))).2, b25 hk (b1w (by omega)), List.take_add_one, hl]
   simp only [Option.toList_some, List.all_append, List.all_cons, List.all_nil, Bool.and_true]
   cases (t.take k).all (lit m p x) <;> simp
  ·unfold c12
   simp only [b1j ht, Option.bind_some, Int.lt_irrefl, decide_false, Bool.false_eq_true, if_false, List.take_length]
 unfold b9i
 rcases b3y (f := c11 m p x c) (l := c) (p := fun _ t => t.all (lit m p x) = true) (e := .inr true) (u := .inl ()) (b1w (by have := hc.1; omega)) (fun k t ht => by
   have hk := b1m ht
   refine ⟨t.all (lit m p x), ?_, Iff.rfl⟩
   unfold c11 c5s c5r
   simp only [Int.ofNat_lt, hk, decide_true, if_true]
   rw [inner k t ht]; rfl) (by unfold c11; simp only [Int.lt_irrefl, decide_false, Bool.false_eq_true, if_false]) with ⟨h1, h2⟩ | ⟨⟨k, t, h1, h2⟩, h3⟩
 ·rw [h2, Option.bind_some]
  show some false = _
  congr 1
  symm
  unfold b4y
  rw [List.any_eq_false]
  intro t ht
  obtain ⟨k, hk⟩ := b1a.1 ht
  exact h1 k t hk
 ·rw [h3, Option.bind_some]
  show some true = _
  congr 1
  symm
  unfold b4y
  exact List.any_eq_true.2 ⟨t, b1a.2 ⟨k, h1⟩, h2⟩
theorem g06 {m : Machine} (hs : SizesOk m) {p : Place} (hp : In p.State m.States.length) {x : Int} {c : List (List Literal)} {ins : Bool} (hc : b2y m ins c) : c0b ⟨m⟩ c p x = some (b4q m p x c) := by
 unfold c0b b4q
 cases c with
 | nil => rfl
 | cons t r =>
  rw [if_neg (by simp; omega), d2p hs hp hc]; rfl
theorem g07 {m : Machine} (hs : SizesOk m) {p : Place} (hp : In p.State m.States.length) {x : Int} {c : List (List Literal)} {ins : Bool} (hc : b2y m ins c) : c1s m p x c = some (b4q m p x c) := by
 unfold c1s b4q
 cases c with
 | nil => rfl
 | cons t r =>
  rw [if_neg (by simp; omega), d2q hs hp hc]; rfl
theorem d4f {α β : Type} {f : Int -> Option (Out Int β)} {l : List α} {p : α -> Bool} {e : α -> β} {u : β} (hl : l.length <= maxLen)
  (h : ∀ (k : Nat) x, l[k]? = some x -> f k = (if p x = true then some (.br (e x)) else some (.nx (wr ((k : Int) + 1))))) (fin : f (l.length : Int) = some (.br u)) :
  b0z f 0 = some (match l.find? p with | some x => e x | none => u) := by
 refine j29 (σ := Unit) l (fun _ k => k) (fun r _ => match r.find? p with | some x => e x | none => u) (fun _ _ => True) (fun _ k x r hd hx hlt hm _ => ?_) (fun _ _ => fin) (s := ()) trivial
 have hxk : l[k]? = some x := by
  have := b34 hx; simpa using this
 rw [h k x hxk]
 cases hp : p x with
 | true => exact .inr (by simp [List.find?, hp])
 | false => exact .inl ⟨(), by rw [if_neg (by simp), b25 (b1m hxk) hl], trivial, by simp [List.find?, hp]⟩
def b6q (m : Machine) (p : Place) (x : Int) (r : Rule) : Bool := (decide (r.From = -1) || decide (r.From = p.State)) && b4y m p x r.When
def b5c (m : Machine) (s : Set) (old : Int) : Int := if s.Kind = 1 then 0 else if s.Kind = 2 then mn (old + 1) (b5n m s.Counter.toNat) else mx (old - 1) 0
def b3o (m : Machine) (v : Int × Int) (s : Set) : Int × Int := if s.Counter = 0 then (b5c m s v.1, v.2) else (v.1, b5c m s v.2)
def nxt (m : Machine) (p : Place) (x : Int) : Place := match m.Rules.find? (b6q m p x) with
 | some r => ⟨r.To, r.Sets.foldl (b3o m) p.Values⟩
 | none => p
def OkV (m : Machine) (v : Int × Int) : Prop := (0 <= v.1 /\ v.1 <= b5n m 0) /\ (0 <= v.2 /\ v.2 <= b5n m 1)
theorem b5o {m : Machine} (hc : ∀ c ∈ m.Counters, 1 <= c.Max /\ c.Max <= 7) (i : Nat) : 0 <= b5n m i /\ b5n m i <= 7 := by
 unfold b5n
 cases h : m.Counters[i]? with
 | none => simp
 | some c => have := hc c (b1a.2 ⟨i, h⟩); simp only; omega
def b95 (m : Machine) (s : Set) : Prop := (1 <= s.Kind /\ s.Kind <= 3) /\ In s.Counter m.Counters.length
theorem l0f {m : Machine} (hm : OkM m) {s : Set} (hs : b95 m s) {v : Int × Int} (hv : OkV m v) : OkV m (b3o m v s) := by
 obtain ⟨⟨h1, h2⟩, h3⟩ := hv
 have m0 := b5o hm.c 0; have m1 := b5o hm.c 1
 have hc := hm.z.c
 obtain ⟨⟨k1, k2⟩, c0, c1⟩ := hs
 unfold b3o
 have hcn : s.Counter = 0 \/ s.Counter = 1 := by omega
 rcases hcn with e | e
 ·rw [if_pos e]
  refine ⟨?_, h3⟩
  unfold b5c
  rw [e, d7y, d77]
  simp only [Int.toNat_zero]
  split
  ·omega
  ·split <;> omega
 ·rw [if_neg (by omega)]
  refine ⟨⟨h1, h2⟩, ?_⟩
  unfold b5c
  rw [e, d7y, d77]
  simp only [show Int.toNat 1 = 1 from rfl]
  split
  ·omega
  ·split <;> omega
theorem c4d {m : Machine} (hm : OkM m) : ∀ (l : List Set), (∀ s ∈ l, b95 m s) -> ∀ {v : Int × Int}, OkV m v -> OkV m (l.foldl (b3o m) v)
 | [], _, v, hv => hv
 | s :: l, hl, v, hv => c4d hm l (fun x hx => hl x (List.mem_cons_of_mem _ hx)) (l0f hm (hl s List.mem_cons_self) hv)
theorem j7c {m : Machine} (hm : OkM m) {p : Place} (hp : OkP m p) (x : Int) : OkP m (nxt m p x) := by
 unfold nxt
 cases h : m.Rules.find? (b6q m p x) with
 | none => exact hp
 | some r =>
  have hr := hm.r r (List.mem_of_find?_eq_some h)
  have hv := c4d hm r.Sets hr.s (v := p.Values) ⟨hp.a, hp.b⟩
  exact ⟨hr.t, hv.1, hv.2⟩
theorem d88 {m : Machine} (hm : OkM m) {s : Set} (hs : b95 m s) {v : Int × Int} (hv : OkV m v) (w : Int) (hw : w = b5c m s (if s.Counter = 0 then v.1 else v.2)) : (b1i s.Counter 0 w v.1, b1i s.Counter 1 w v.2) = b3o m v s := by
 have hc := hm.z.c
 obtain ⟨_, c0, c1⟩ := hs
 have hcn : s.Counter = 0 \/ s.Counter = 1 := by omega
 subst hw
 unfold b3o b1i
 rcases hcn with e | e <;> simp [e]
theorem d3i {m : Machine} {s : Set} (hs : b95 m s) : ∃ c, get m.Counters s.Counter = some c /\ b5n m s.Counter.toNat = c.Max := by
 obtain ⟨k, c, hk, hx, hg⟩ := c9m hs.2
 refine ⟨c, hg, ?_⟩
 rw [hk]; unfold b5n
 simp [hx]
theorem l0k {m : Machine} (hm : OkM m) {s : Set} (hs : b95 m s) {p : Place} (hv : OkV m p.Values) : c0e ⟨m⟩ s p = some ⟨p.State, b3o m p.Values s⟩ := by
 have hc := hm.z.c
 obtain ⟨⟨h1, h2⟩, h3, h4⟩ := hv
 have m0 := b5o hm.c 0; have m1 := b5o hm.c 1
 have hin : In s.Counter 2 := by have := hs.2; unfold In at *; omega
 have hold : -1 < (if s.Counter = 0 then p.Values.1 else p.Values.2) /\ (if s.Counter = 0 then p.Values.1 else p.Values.2) < 8 := by split <;> omega
 have key := fun w hw => d88 hm hs (v := p.Values) ⟨⟨h1, h2⟩, h3, h4⟩ w hw
 unfold c0e
 rw [c02 hin, Option.bind_some]
 obtain ⟨c, hg, hmx⟩ := d3i hs
 obtain ⟨⟨k1, k2⟩, _⟩ := hs
 have hk : s.Kind = 1 \/ s.Kind = 2 \/ s.Kind = 3 := by omega
 rcases hk with e | e | e
 ·simp only [e, decide_true, if_true]
  rw [key 0 (by unfold b5c; rw [if_pos e])]
 ·simp only [e, Int.reduceEq, decide_false, Bool.false_eq_true, if_false, decide_true, if_true]
  rw [hg, Option.bind_some, b3q (by omega) (by omega), key _ (by unfold b5c; rw [if_neg (show ¬ s.Kind = 1 by omega), if_pos e, hmx])]
 ·simp only [e, Int.reduceEq, decide_false, Bool.false_eq_true, if_false, decide_true, if_true]
  rw [b3q (by omega) (by omega), key _ (by unfold b5c; rw [if_neg (show ¬ s.Kind = 1 by omega), if_neg (show ¬ s.Kind = 2 by omega)])]
theorem g6u {m : Machine} {r : Rule} (hr : OkRule m r) {p : Place} : (decide (¬r.From = (-1)) && decide (¬r.From = p.State)) = !(decide (r.From = -1) || decide (r.From = p.State)) := by
 by_cases h1 : r.From = -1 <;> by_cases h2 : r.From = p.State <;> simp [h1, h2]
theorem g1k {m : Machine} (hm : OkM m) {p : Place} (hp : OkP m p) (x : Int) : c0c ⟨m⟩ p x = some (nxt m p x) := by
 have hr := hm.z.r
 have inner : ∀ r ∈ m.Rules, b0z (c0d ⟨m⟩ r) (p.State, p.Values.1, p.Values.2, 0) = some (p.State, (r.Sets.foldl (b3o m) p.Values).1, (r.Sets.foldl (b3o m) p.Values).2) := fun r hrm => by
  have ho := hm.r r hrm
  refine b4z r.Sets.length (fun (s : Int × Int) k => (p.State, s.1, s.2, k)) (fun k => (r.Sets.take k).foldl (b3o m) p.Values) _ (by simp) (fun k hk => ?_) ?_
  ·obtain ⟨s, hs⟩ := b3v hk
   have hv := c4d hm (r.Sets.take k) (fun s hs => ho.s s (List.mem_of_mem_take hs)) (v := p.Values) ⟨hp.a, hp.b⟩
   unfold c0d
   simp only [b1j hs, Option.bind_some, Int.ofNat_lt, hk, decide_true, if_true]
   rw [l0k hm (ho.s s (b1a.2 ⟨k, hs⟩)) hv, Option.bind_some, b25 hk (b1w (by have := ho.n; omega)), List.take_add_one, hs]
   simp
  ·unfold c0d
   simp only [Int.lt_irrefl, decide_false, Bool.false_eq_true, if_false, List.take_length]
 unfold c0c c3t
 rw [d4f (l := m.Rules) (p := b6q m p x) (e := fun r => (r.To, (r.Sets.foldl (b3o m) p.Values).1, (r.Sets.foldl (b3o m) p.Values).2)) (u := (p.State, p.Values.1, p.Values.2)) (b1w (by omega)) (fun k r hrk => by
   have hk := b1m hrk
   have hrm := b1a.2 ⟨k, hrk⟩
   unfold c3r c3u c3s
   simp only [b1j hrk, Option.bind_some, Int.ofNat_lt, hk, decide_true, if_true]
   rw [g6u (hm.r r hrm), d1k, d2p hm.z hp.s (hm.r r hrm).w]
   unfold b6q
   cases hfr : (decide (r.From = -1) || decide (r.From = p.State)) with
   | false => simp
   | true =>
    cases hh : b4y m p x r.When with
    | false => simp
    | true => simp [inner r hrm]) (by unfold c3r; simp only [Int.lt_irrefl, decide_false, Bool.false_eq_true, if_false])]
 unfold nxt
 cases m.Rules.find? (b6q m p x) <;> rfl
theorem g1g {m : Machine} (hm : OkM m) {p : Place} (hp : OkP m p) (x : Int) : c14 m p x = some (nxt m p x) := by
 have hr := hm.z.r
 have inner : ∀ r ∈ m.Rules, b0z (c15 m r) (p.Values.1, p.Values.2, 0) = some ((r.Sets.foldl (b3o m) p.Values).1, (r.Sets.foldl (b3o m) p.Values).2) := fun r hrm => by
  have ho := hm.r r hrm
  refine b4z r.Sets.length (fun (s : Int × Int) k => (s.1, s.2, k)) (fun k => (r.Sets.take k).foldl (b3o m) p.Values) _ (by simp) (fun k hk => ?_) ?_
  ·obtain ⟨s, hs⟩ := b3v hk
   have hv := c4d hm (r.Sets.take k) (fun s hs => ho.s s (List.mem_of_mem_take hs)) (v := p.Values) ⟨hp.a, hp.b⟩
   have hso := ho.s s (b1a.2 ⟨k, hs⟩)
   have hin : In s.Counter 2 := by have := hso.2; have := hm.z.c; unfold In at *; omega
   rw [List.take_add_one, hs]
   simp only [Option.toList_some, List.foldl_append, List.foldl_cons, List.foldl_nil]
   generalize (r.Sets.take k).foldl (b3o m) p.Values = v at hv
   have m0 := b5o hm.c 0; have m1 := b5o hm.c 1
   have key := fun w hw => d88 hm hso hv w hw
   obtain ⟨⟨h1, h2⟩, h3, h4⟩ := hv
   have hold : -1 < (if s.Counter = 0 then v.1 else v.2) /\ (if s.Counter = 0 then v.1 else v.2) < 8 := by split <;> omega
   obtain ⟨c, hg, hmx⟩ := d3i hso
   obtain ⟨⟨k1, k2⟩, _⟩ := hso
   have hk3 : s.Kind = 1 \/ s.Kind = 2 \/ s.Kind = 3 := by omega
   unfold c15 b72
   simp only [b1j hs, Option.bind_some, Int.ofNat_lt, hk, decide_true, if_true]
   rw [b25 hk (b1w (by have := ho.n; omega))]
   rcases hk3 with e | e | e
   ·simp only [e, decide_true, if_true]
    rw [c02 hin, Option.bind_some, <- key 0 (by unfold b5c; rw [if_pos e])]
   ·simp only [e, Int.reduceEq, decide_false, Bool.false_eq_true, if_false, decide_true, if_true]
    rw [c02 hin, Option.bind_some, hg, Option.bind_some, b3q (by omega) (by omega), <- key _ (by unfold b5c; rw [if_neg (show ¬ s.Kind = 1 by omega), if_pos e, hmx])]
   ·simp only [e, Int.reduceEq, decide_false, Bool.false_eq_true, if_false, decide_true, if_true]
    rw [c02 hin, Option.bind_some, b3q (by omega) (by omega), <- key _ (by unfold b5c; rw [if_neg (show ¬ s.Kind = 1 by omega), if_neg (show ¬ s.Kind = 2 by omega)])]
  ·unfold c15
   simp only [Int.lt_irrefl, decide_false, Bool.false_eq_true, if_false, List.take_length]
 unfold c14 c5v
 rw [d4f (l := m.Rules) (p := b6q m p x) (e := fun r => .inr ⟨r.To, r.Sets.foldl (b3o m) p.Values⟩) (u := .inl ()) (b1w (by omega)) (fun k r hrk => by
   have hk := b1m hrk
   have hrm := b1a.2 ⟨k, hrk⟩
   have hfr0 := (hm.r r hrm).f
   unfold c5t c5w c5u
   simp only [b1j hrk, Option.bind_some, Int.ofNat_lt, hk, decide_true, if_true]
   have e0 : (decide (0 <= r.From) && decide (¬r.From = p.State)) = !(decide (r.From = -1) || decide (r.From = p.State)) := by
    by_cases h1 : r.From = -1
    ·simp [h1]
    ·by_cases h2 : r.From = p.State
     ·simp [h2]
     ·have : 0 <= r.From := by omega
      simp [h1, h2, this]
   rw [e0, d2q hm.z hp.s (hm.r r hrm).w]
   unfold b6q
   cases hfr : (decide (r.From = -1) || decide (r.From = p.State)) with
   | false => simp
   | true =>
    cases hh : b4y m p x r.When with
    | false => simp
    | true => simp [inner r hrm]) (by unfold c5t; simp only [Int.lt_irrefl, decide_false, Bool.false_eq_true, if_false])]
 unfold nxt
 cases m.Rules.find? (b6q m p x) <;> rfl
end
end Go.Nw.KM
namespace Go.Nw.KM
noncomputable section
theorem d1j : ∀ (n : Nat) (l : List Nat), l.Nodup -> (∀ x ∈ l, x < n) -> l.length <= n
 | 0, l, _, h => by
  cases l with
  | nil => simp
  | cons a l => exact absurd (h a List.mem_cons_self) (by omega)
 | n + 1, l, hn, h => by
  by_cases hm : n ∈ l
  ·have h1 := d1j n (l.erase n) (hn.erase n) (fun x hx => by
    have := (hn.mem_erase_iff).1 hx
    have := h x this.2
    omega)
   rw [List.length_erase_of_mem hm] at h1
   omega
  ·have := d1j n l hn (fun x hx => by
    have := h x hx
    have : x ≠ n := fun e => hm (e ▸ hx)
    omega)
   omega
theorem j7b {α β : Type} {f : α -> β} {l : List α} (hn : l.Nodup) (hf : ∀ a ∈ l, ∀ b ∈ l, f a = f b -> a = b) : (l.map f).Nodup := by
 unfold List.Nodup at *
 rw [List.pairwise_map]
 refine List.Pairwise.imp_of_mem ?_ hn
 intro a b ha hb hne e
 exact hne (hf a ha b hb e)
def zero : Place := ⟨0, (0, 0)⟩
theorem m88 {m : Machine} (hm : OkM m) : OkP m zero := by
 have := hm.z.s
 exact ⟨⟨by simp [zero], by simp [zero]; omega⟩, ⟨Int.le_refl _, (b5o hm.c 0).1⟩, ⟨Int.le_refl _, (b5o hm.c 1).1⟩⟩
theorem c5h {m : Machine} (hm : OkM m) {l : List Place} (hn : l.Nodup) (ho : ∀ p ∈ l, OkP m p) : l.length <= 768 := by
 have hb : ∀ p ∈ l, 0 <= p.State /\ p.State < 12 /\ 0 <= p.Values.1 /\ p.Values.1 <= 7 /\ 0 <= p.Values.2 /\ p.Values.2 <= 7 := fun p hp => by
  have h := ho p hp
  have hs := hm.z.s
  have := h.s; have := h.a; have := h.b; have := b5o hm.c 0; have := b5o hm.c 1
  unfold In at *
  omega
 have h1 := d1j 768 (l.map fun p => (p.State * 64 + p.Values.1 * 8 + p.Values.2).toNat) (j7b hn fun p hp q hq e => by
   have := hb p hp; have := hb q hq
   obtain ⟨s, a, b⟩ := p; obtain ⟨s', a', b'⟩ := q
   simp only at *
   have e1 : s = s' := by omega
   have e2 : a = a' := by omega
   have e3 : b = b' := by omega
   subst e1; subst e2; subst e3; rfl) (fun x hx => by
   obtain ⟨p, hp, rfl⟩ := List.mem_map.1 hx
   have := hb p hp
   omega)
 simpa using h1
abbrev S3 := List Place × List Int × List Int
def b5p (s : S3) (i x : Nat) (q : Place) : S3 := if q ∈ s.1 then s else (s.1 ++ [q], s.2.1 ++ [(i : Int)], s.2.2 ++ [(x : Int)])
section
variable (m : Machine) (c : List (List Literal)) (hd : Nat -> Int)
def inn (i : Nat) (p : Place) : Nat -> S3 -> S3
 | 0, s => s
 | x + 1, s => if b4q m p x c = true then b5p (inn i p x s) i x (nxt m p (hd x)) else inn i p x s
def b09 : Nat -> S3
 | 0 => ([zero], [-1], [0])
 | k + 1 => match (b09 k).1[k]? with | some p => inn m c hd k p (2 ^ m.Inputs.length) (b09 k) | none => b09 k
end
variable {m : Machine} {c : List (List Literal)} {hd : Nat -> Int}
structure Good (m : Machine) (s : S3) : Prop where
 n : s.1.Nodup
 o : ∀ p ∈ s.1, OkP m p
 b : s.2.1.length = s.1.length
 i : s.2.2.length = s.1.length
theorem g1n {s : S3} (h : Good m s) {i x : Nat} {q : Place} (hq : OkP m q) : Good m (b5p s i x q) := by
 unfold b5p
 split
 ·exact h
 ·rename_i hn
  refine ⟨?_, fun p hp => ?_, by simp [h.b], by simp [h.i]⟩
  ·rw [List.nodup_append]
   exact ⟨h.n, by simp, fun a ha b hb e => by simp at hb; subst hb; exact hn (e ▸ ha)⟩
  ·rcases List.mem_append.1 hp with hp | hp
   ·exact h.o p hp
   ·simp at hp; subst hp; exact hq
theorem d2t (s : S3) (i x : Nat) (q : Place) : s.1 <+: (b5p s i x q).1 := by
 unfold b5p; split
 ·exact List.prefix_refl _
 ·exact List.prefix_append _ _
theorem g1o (s : S3) (i x : Nat) (q : Place) : q ∈ (b5p s i x q).1 := by
 unfold b5p; split
 ·assumption
 ·simp
theorem c08 (hm : OkM m) {i : Nat} {p : Place} (hp : OkP m p) : ∀ (x : Nat) {s : S3}, Good m s -> Good m (inn m c hd i p x s)
 | 0, s, h => h
 | x + 1, s, h => by
  unfold inn; split
  ·exact g1n (c08 hm hp x h) (j7c hm hp _)
  ·exact c08 hm hp x h
theorem c4w {i : Nat} {p : Place} : ∀ (x : Nat) {s : S3}, s.1 <+: (inn m c hd i p x s).1
 | 0, s => List.prefix_refl _
 | x + 1, s => by
  unfold inn; split
  ·exact (c4w x).trans (d2t _ _ _ _)
  ·exact c4w x
theorem c9n {i : Nat} {p : Place} {j : Nat} (ha : b4q m p j c = true) : ∀ (x : Nat) {s : S3}, j < x -> nxt m p (hd j) ∈ (inn m c hd i p x s).1
 | 0, s, h => by omega
 | x + 1, s, h => by
  by_cases e : j = x
  ·subst e; unfold inn; rw [if_pos ha]; exact g1o _ _ _ _
  ·have ih := c9n (i := i) ha x (s := s) (by omega)
   unfold inn; split
   ·exact (d2t _ _ _ _).subset ih
   ·exact ih
theorem b7x (hm : OkM m) : ∀ k, Good m (b09 m c hd k)
 | 0 => ⟨by simp [b09], fun p hp => by simp [b09] at hp; subst hp; exact m88 hm, rfl, rfl⟩
 | k + 1 => by
  have ih := b7x hm k
  unfold b09
  split
  ·rename_i p hp; exact c08 hm (ih.o p (b1a.2 ⟨k, hp⟩)) _ ih
  ·exact ih
theorem c1o (k : Nat) : (b09 m c hd k).1 <+: (b09 m c hd (k + 1)).1 := by
 conv => rhs; unfold b09
 split
 ·exact c4w _
 ·exact List.prefix_refl _
theorem j78 {j k : Nat} (h : j <= k) : (b09 m c hd j).1 <+: (b09 m c hd k).1 := by
 induction k with
 | zero => have : j = 0 := by omega
           subst this; exact List.prefix_refl _
 | succ k ih =>
  by_cases e : j = k + 1
  ·subst e; exact List.prefix_refl _
  ·exact (ih (by omega)).trans (c1o k)
theorem j9k (hm : OkM m) : ∃ K, K <= 768 /\ (∀ k, k < K -> k < (b09 m c hd k).1.length) /\ (b09 m c hd K).1.length <= K := by
 have hb : ∀ k, (b09 m c hd k).1.length <= 768 := fun k => c5h hm (b7x hm k).n (b7x hm k).o
 have key : ∀ d, (∃ K, K <= d /\ (∀ k, k < K -> k < (b09 m c hd k).1.length) /\ (b09 m c hd K).1.length <= K) \/ ∀ k, k <= d -> k < (b09 m c hd k).1.length := by
  intro d
  induction d with
  | zero =>
   by_cases h : (b09 m c hd 0).1.length <= 0
   ·exact .inl ⟨0, Nat.le_refl _, fun k hk => by omega, h⟩
   ·exact .inr fun k hk => by have : k = 0 := by omega
                              subst this; omega
  | succ d ih =>
   rcases ih with ⟨K, h1, h2⟩ | h
   ·exact .inl ⟨K, by omega, h2⟩
   ·by_cases h' : (b09 m c hd (d + 1)).1.length <= d + 1
    ·exact .inl ⟨d + 1, Nat.le_refl _, fun k hk => h k (by omega), h'⟩
    ·exact .inr fun k hk => by
      by_cases e : k = d + 1
      ·subst e; omega
      ·exact h k (by omega)
 rcases key 768 with h | h
 ·exact h
 ·have := h 768 (Nat.le_refl _); have := hb 768; omega
theorem c1q {α : Type} {l r : List α} (h : l <+: r) {k : Nat} {x : α} (hx : l[k]? = some x) : r[k]? = some x := by
 obtain ⟨t, rfl⟩ := h
 rw [List.getElem?_append_left (b1m hx)]; exact hx
theorem j1c {l : List Place} (hl : l.length <= 1000) (q : Place) : c2d l q = some (if q ∈ l then (l.idxOf q : Int) else -1) := by
 unfold c2d
 rcases d7q (f := b9o l q) l (fun (_ : Unit) k => k) (fun _ => ()) (fun _ x => x = q) (.inr (l.idxOf q : Int)) (.inl ()) (fun k x hprev hx hb => by
   have hk := b1m hx
   subst hb
   unfold b9o
   simp only [b1j hx, Option.bind_some, Int.ofNat_lt, hk, decide_true, if_true]
   have hm : x ∈ l := b1a.2 ⟨k, hx⟩
   have hlt := List.idxOf_lt_length_iff.2 hm
   have e : l.idxOf x = k := by
    rcases Nat.lt_trichotomy (l.idxOf x) k with h | h | h
    ·have h2 : l[l.idxOf x]? = some x := by rw [List.getElem?_eq_getElem hlt, List.getElem_idxOf]
     exact absurd rfl (hprev _ _ h h2)
    ·exact h
    ·exfalso
     have hxx : l[k] = x := by have := List.getElem?_eq_getElem hk; rw [hx] at this; exact (Option.some.inj this).symm
     have hh := List.not_of_lt_findIdx (p := (· == x)) (xs := l) h
     rw [hxx] at hh
     simp at hh
   rw [e]) (fun k x hprev hx hb => by
   have hk := b1m hx
   unfold b9o
   simp only [b1j hx, Option.bind_some, Int.ofNat_lt, hk, decide_true, if_true, hb, decide_false, Bool.false_eq_true, if_false]
   rw [b25 hk (b1w hl)]) (by unfold b9o; simp only [Int.lt_irrefl, decide_false, Bool.false_eq_true, if_false]) (s0 := ()) rfl with ⟨h1, h2⟩ | ⟨⟨k, x, h1, h2⟩, h3⟩
 ·rw [h2, if_neg (fun h => by obtain ⟨k, hk⟩ := b1a.1 h; exact h1 k q hk rfl)]; rfl
 ·rw [h3, if_pos (b1a.2 ⟨k, h2 ▸ h1⟩)]; rfl
theorem d2u {m : Machine} (hs : SizesOk m) : c2a m = some ((2 ^ m.Inputs.length : Nat) : Int) := by
 have := hs.i
 unfold c2a
 rw [c60 (by omega) (by omega), c6e (by omega)]
 simp
theorem d1l {m : Machine} (hs : SizesOk m) : 2 ^ m.Inputs.length <= 16 := Nat.pow_le_pow_right (n := 2) (by omega) hs.i
theorem b7i {α : Type} {b : Nat} {l m : List α} (hl : l.length <= 1000) (hm : m.length <= 1000) (hb : b <= 1000) : ap b l m = some (l ++ m) := b7h (by
 have : (l.length + m.length) * b <= 2000 * 1000 := Nat.mul_le_mul (by omega) hb
 omega)
theorem j1e (hm : OkM m) {ins : Bool} (hc : b2y m ins c) {inp val : Int} (hh : ∀ x : Nat, x < 2 ^ m.Inputs.length -> b71 x inp val = some (hd x)) {i : Nat} {p : Place} (hp : OkP m p) {s : S3} (hg : Good m s) (hi : s.1[i]? = some p) :
  b0z (c2c m c inp val i) (s.1, s.2.1, s.2.2, 0) = some (inn m c hd i p (2 ^ m.Inputs.length) s) := by
 have hpow := d1l hm.z
 refine b4z (2 ^ m.Inputs.length) (fun (s : S3) k => (s.1, s.2.1, s.2.2, k)) (fun k => inn m c hd i p k s) _ rfl (fun k hk => ?_) ?_
 ·have hg' := c08 (c := c) (hd := hd) (i := i) hm hp k hg
  have hi' := c1q (c4w (m := m) (c := c) (hd := hd) (i := i) (p := p) k (s := s)) hi
  have hlen := c5h hm hg'.n hg'.o
  have hb := hg'.b; have hin := hg'.i
  conv => rhs; unfold inn
  unfold c2c b9n
  simp only [d2u hm.z, Option.bind_some, Int.ofNat_lt, hk, decide_true, if_true, b1j hi', Option.bind_some]
  rw [g07 hm.z hp.s hc, Option.bind_some, b25 hk (b1w (by omega))]
  cases ha : b4q m p k c with
  | false => simp
  | true =>
   simp only [Bool.not_true, Bool.false_eq_true, if_false, if_true]
   rw [hh k hk, Option.bind_some, g1g hm hp, Option.bind_some, d1k, j1c (by omega), Option.bind_some]
   unfold b5p
   by_cases hq : nxt m p (hd k) ∈ (inn m c hd i p k s).1
   ·rw [if_pos hq, if_pos hq, if_neg (by simp)]
   ·rw [if_neg hq, if_neg hq, if_pos (by simp), b7i (by omega) (by simp) (by omega), Option.bind_some, b7i (by omega) (by simp) (by omega), Option.bind_some, b7i (by omega) (by simp) (by omega), Option.bind_some]
 ·unfold c2c
  simp only [d2u hm.z, Option.bind_some, Int.lt_irrefl, decide_false, Bool.false_eq_true, if_false]
def End (m : Machine) (c : List (List Literal)) (hd : Nat -> Int) (K : Nat) : Prop := K <= 768 /\ (∀ k, k < K -> k < (b09 m c hd k).1.length) /\ (b09 m c hd K).1.length <= K
theorem g6j (hm : OkM m) {ins : Bool} (hc : b2y m ins c) {inp val : Int} (hh : ∀ x : Nat, x < 2 ^ m.Inputs.length -> b71 x inp val = some (hd x)) {K : Nat} (hK : End m c hd K) :
  c2b m c inp val = some ⟨(b09 m c hd K).1, (b09 m c hd K).2.1, (b09 m c hd K).2.2⟩ := by
 obtain ⟨hK0, hK1, hK2⟩ := hK
 unfold c2b c5z
 have := b4z (f := b9m m c inp val) K (fun (s : S3) k => (s.1, s.2.1, s.2.2, k)) (fun k => b09 m c hd k) (b09 m c hd K) (s0 := ([zero], [-1], [0])) rfl (fun k hk => by
   have hlt := hK1 k hk
   obtain ⟨p, hp⟩ := b3v hlt
   have hg := b7x (c := c) (hd := hd) hm k
   unfold b9m c50
   simp only [Int.ofNat_lt, hlt, decide_true, if_true]
   rw [j1e hm hc hh (hg.o p (b1a.2 ⟨k, hp⟩)) hg hp, Option.bind_some, b25 hk (b1w (by omega))]
   conv => rhs; unfold b09
   rw [hp]) (by
   unfold b9m
   have : ¬ K < (b09 m c hd K).1.length := by omega
   simp only [Int.ofNat_lt, this, decide_false, Bool.false_eq_true, if_false])
 show (b0z (b9m m c inp val) ([zero], [-1], [0], 0)).bind _ = _
 rw [this]; rfl
end
end Go.Nw.KM
namespace Go.Nw.KM
noncomputable section
def fnd (l : List Place) : List (Place × Int) := l.zipIdx.map fun p => (p.1, (p.2 : Int))
theorem c88 (l : List Place) : (fnd l).map (·.1) = l := by
 unfold fnd
 rw [List.map_map]
 have : ((fun x : Place × Int => x.1) ∘ fun p : Place × Nat => (p.1, (p.2 : Int))) = Prod.fst := rfl
 rw [this, List.zipIdx_map_fst]
theorem g6q (l : List Place) (q : Place) : fnd (l ++ [q]) = fnd l ++ [(q, (l.length : Int))] := by
 unfold fnd
 rw [List.zipIdx_append]
 simp
theorem g99 {l : List Place} {q : Place} (h : q ∈ l) : l[l.idxOf q]? = some q := by
 have hlt := List.idxOf_lt_length_iff.2 h
 rw [List.getElem?_eq_getElem hlt, List.getElem_idxOf]
theorem g6r {l : List Place} {q : Place} (hn : l.Nodup) (h : q ∈ l) : b2n (fnd l) q 0 = (l.idxOf q : Int) := by
 refine j3k (j := l.idxOf q) (by rw [c88]; exact hn) ?_
 unfold fnd
 rw [List.getElem?_map, List.getElem?_zipIdx, g99 h]
 simp
theorem d4g {l : List Place} {q : Place} : b5y (fnd l) q = true ↔ q ∈ l := by rw [j3m, c88]
theorem j0c {l r : List Place} (h : l <+: r) {q : Place} (hq : q ∈ l) : r.idxOf q = l.idxOf q := by
 obtain ⟨t, rfl⟩ := h
 rw [List.idxOf_append, if_pos hq]
section
variable (m : Machine) (c : List (List Literal)) (hd : Nat -> Int)
def rv (P : List Place) (p : Place) (j : Nat) : Int := if b4q m p j c = true then (P.idxOf (nxt m p (hd j)) : Int) else -1
def b7w (P : List Place) (k : Nat) : List (List Int) := tab k fun i => tab (2 ^ m.Inputs.length) (rv m c hd P (P.getD i zero))
end
variable {m : Machine} {c : List (List Literal)} {hd : Nat -> Int}
theorem d87 {P Q : List Place} (h : P <+: Q) {p : Place} {j : Nat} (hq : b4q m p j c = true -> nxt m p (hd j) ∈ P) : rv m c hd Q p j = rv m c hd P p j := by
 unfold rv
 split
 ·rename_i ha; rw [j0c h (hq ha)]
 ·rfl
theorem g6n {α : Type} {n k : Nat} {f g : Nat -> α} {z : α} (h : ∀ i, i < k -> f i = g i) : fill n f z k = fill n g z k := by
 unfold fill
 refine c2y fun i _ => ?_
 split
 ·exact h i (by assumption)
 ·rfl
theorem j1d (hm : OkM m) {ins : Bool} (hc : b2y m ins c) {heard : Int -> Option Int} (hh : ∀ x : Nat, x < 2 ^ m.Inputs.length -> heard x = some (hd x)) {i : Nat} {p : Place} (hp : OkP m p) {s : S3} (hg : Good m s) :
  b0z (b97 ⟨⟨m⟩⟩ c heard i p (tab (2 ^ m.Inputs.length) fun _ => (0 : Int))) (s.1, s.2.1, s.2.2, fnd s.1, tab (2 ^ m.Inputs.length) (fun _ => (0 : Int)), 0) =
   some ((inn m c hd i p (2 ^ m.Inputs.length) s).1, (inn m c hd i p (2 ^ m.Inputs.length) s).2.1, (inn m c hd i p (2 ^ m.Inputs.length) s).2.2, fnd (inn m c hd i p (2 ^ m.Inputs.length) s).1, tab (2 ^ m.Inputs.length) (rv m c hd (inn m c hd i p (2 ^ m.Inputs.length) s).1 p)) := by
 have hpow := d1l hm.z
 refine b4z (2 ^ m.Inputs.length) (fun (s : S3 × List Int) k => (s.1.1, s.1.2.1, s.1.2.2, fnd s.1.1, s.2, k)) (fun k => (inn m c hd i p k s, fill (2 ^ m.Inputs.length) (rv m c hd (inn m c hd i p k s).1 p) 0 k)) _ (s0 := (s, tab (2 ^ m.Inputs.length) fun _ => (0 : Int))) (by
   rw [show inn m c hd i p 0 s = s from rfl, <- g6p, d2f]) (fun k hk => ?_) ?_
 ·have hg' := c08 (c := c) (hd := hd) (i := i) hm hp k hg
  have hlen := c5h hm hg'.n hg'.o
  have hb := hg'.b; have hin := hg'.i
  have hmem : ∀ j, j < k -> b4q m p j c = true -> nxt m p (hd j) ∈ (inn m c hd i p k s).1 := fun j hj ha => c9n ha k hj
  conv => rhs; unfold inn
  unfold b97 b99 b98
  simp only [b66, Int.ofNat_lt, hk, decide_true, if_true, g7l hk, Option.bind_some, d1k, Int.toNat_natCast]
  rw [g06 hm.z hp.s hc, Option.bind_some, b25 hk (b1w (by omega))]
  have gs : ∀ v : Int, get (List.set (fill (2 ^ m.Inputs.length) (rv m c hd (inn m c hd i p k s).1 p) 0 k) k v) (k : Int) = some v := fun v => by
   refine b1j ?_
   rw [List.getElem?_set, if_pos rfl, if_pos (by rw [g6o]; exact hk)]
  cases ha : b4q m p k c with
  | false =>
   simp only [Bool.not_false, if_true, Bool.false_eq_true, if_false]
   rw [c81 (by unfold rv; rw [if_neg (by simp [ha])])]
  | true =>
   simp only [Bool.not_true, Bool.false_eq_true, if_false, if_true]
   rw [hh k hk, Option.bind_some, g1k hm hp, Option.bind_some]
   unfold b5p
   by_cases hq : nxt m p (hd k) ∈ (inn m c hd i p k s).1
   ·rw [if_pos hq, if_neg (by rw [d4g.2 hq]; simp), gs, Option.bind_some, List.set_set, c81 (by unfold rv; rw [if_pos ha, g6r hg'.n hq])]
   ·have hnh : b5y (fnd (inn m c hd i p k s).1) (nxt m p (hd k)) = false := c3z fun h => hq (d4g.1 h)
    rw [if_neg hq, if_pos (by rw [hnh]; rfl), b7i (by omega) (by simp) (by omega), Option.bind_some, b7i (by omega) (by simp) (by omega), Option.bind_some, b7i (by omega) (by simp) (by omega), Option.bind_some,
     gs, Option.bind_some, List.set_set, d73 (by rw [c88]; exact hq), <- g6q]
    have e1 : fill (2 ^ m.Inputs.length) (rv m c hd (inn m c hd i p k s).1 p) 0 k = fill (2 ^ m.Inputs.length) (rv m c hd ((inn m c hd i p k s).1 ++ [nxt m p (hd k)]) p) 0 k :=
     g6n fun j hj => (d87 (List.prefix_append _ _) (hmem j hj)).symm
    rw [e1, c81 (by
     unfold rv; rw [if_pos ha, List.idxOf_append, if_neg hq]
     simp)]
 ·unfold b97
  simp only [b66, Int.lt_irrefl, decide_false, Bool.false_eq_true, if_false, g6m (Nat.le_refl _)]
theorem closed {k i j : Nat} {p : Place} (hp : (b09 m c hd k).1[i]? = some p) (hi : i < k) (ha : b4q m p j c = true) (hj : j < 2 ^ m.Inputs.length) : nxt m p (hd j) ∈ (b09 m c hd k).1 := by
 induction k with
 | zero => omega
 | succ k ih =>
  have hpre := c1o (m := m) (c := c) (hd := hd) k
  by_cases e : i = k
  ·subst e
   conv at hp => lhs; unfold b09
   cases hq : (b09 m c hd i).1[i]? with
   | none =>
    simp only [hq] at hp
    cases hp
   | some q =>
    have : p = q := by
     have h1 := c1q hpre hq
     conv at h1 => lhs; unfold b09
     rw [h1] at hp; exact (Option.some.inj hp).symm
    subst this
    have hout : b09 m c hd (i + 1) = inn m c hd i p (2 ^ m.Inputs.length) (b09 m c hd i) := by
     conv => lhs; unfold b09
     rw [hq]
    rw [hout]
    exact c9n ha _ hj
  ·by_cases hlt : i < (b09 m c hd k).1.length
   ·obtain ⟨q, hq⟩ := b3v hlt
    have h1 := c1q hpre hq
    rw [h1] at hp
    have : p = q := (Option.some.inj hp).symm
    subst this
    exact hpre.subset (ih hq (by omega))
   ·have hn : (b09 m c hd k).1[k]? = none := List.getElem?_eq_none (by omega)
    conv at hp => lhs; unfold b09
    simp only [hn] at hp
    exact absurd (b1m hp) hlt
theorem j51 {k : Nat} (hk : ∀ j, j <= k -> j < (b09 m c hd j).1.length) : b7w m c hd (b09 m c hd (k + 1)).1 (k + 1) = b7w m c hd (b09 m c hd k).1 k ++ [tab (2 ^ m.Inputs.length) (rv m c hd (b09 m c hd (k + 1)).1 ((b09 m c hd (k + 1)).1.getD k zero))] := by
 unfold b7w
 rw [l0x]
 congr 1
 refine c2y fun i hi => ?_
 have hlt := Nat.lt_of_lt_of_le (hk i (by omega)) (j78 (m := m) (c := c) (hd := hd) (show i <= k by omega)).length_le
 obtain ⟨p, hp⟩ := b3v hlt
 have hp' := c1q (c1o (m := m) (c := c) (hd := hd) k) hp
 simp only [List.getD_eq_getElem?_getD, hp, hp', Option.getD_some]
 exact c2y fun j hj => d87 (c1o k) fun ha => closed hp hi ha hj
def l2n (m : Machine) (c : List (List Literal)) (hd : Nat -> Int) (K : Nat) : control_walk := ⟨(b09 m c hd K).1, (b09 m c hd K).2.1, (b09 m c hd K).2.2, b7w m c hd (b09 m c hd K).1 K⟩
theorem g6i (hm : OkM m) {ins : Bool} (hc : b2y m ins c) {heard : Int -> Option Int} (hh : ∀ x : Nat, x < 2 ^ m.Inputs.length -> heard x = some (hd x)) {K : Nat} (hK : End m c hd K) :
  b96 ⟨⟨m⟩⟩ c heard = some (l2n m c hd K) := by
 obtain ⟨hK0, hK1, hK2⟩ := hK
 have hpow := d1l hm.z
 unfold b96 c3p
 have := b4z (f := b8h ⟨⟨m⟩⟩ c heard) K (fun (s : S3 × List (List Int)) k => (s.1.1, s.1.2.1, s.1.2.2, s.2, fnd s.1.1, k)) (fun k => (b09 m c hd k, b7w m c hd (b09 m c hd k).1 k)) ((b09 m c hd K).1, (b09 m c hd K).2.1, (b09 m c hd K).2.2, b7w m c hd (b09 m c hd K).1 K) (s0 := (([zero], [-1], [0]), [])) rfl (fun k hk => by
   have hlt := hK1 k hk
   obtain ⟨p, hp⟩ := b3v hlt
   have hg := b7x (c := c) (hd := hd) hm k
   have hall : c0a ⟨m⟩ = some ((2 ^ m.Inputs.length : Nat) : Int) := by
    unfold c0a
    have := hm.z.i
    simp only
    rw [c6e (by omega)]; simp
   have hout : b09 m c hd (k + 1) = inn m c hd k p (2 ^ m.Inputs.length) (b09 m c hd k) := by
    conv => lhs; unfold b09
    rw [hp]
   have hg' := b7x (c := c) (hd := hd) hm (k + 1)
   have hp' := c1q (c1o (m := m) (c := c) (hd := hd) k) hp
   rw [j51 fun j hj => hK1 j (by omega), List.getD_eq_getElem?_getD, hp', Option.getD_some]
   unfold b8h c3o c3q
   simp only [Int.ofNat_lt, hlt, decide_true, if_true, b1j hp, Option.bind_some]
   rw [hall, Option.bind_some, j3o (by omega) (by omega), Option.bind_some, j1d hm hc hh (hg.o p (b1a.2 ⟨k, hp⟩)) hg, Option.bind_some, <- hout]
   simp only
   rw [b7i (by unfold b7w; rw [b66]; omega) (by simp) (by omega), Option.bind_some, b25 hk (b1w (by omega))]) (by
   unfold b8h
   have : ¬ K < (b09 m c hd K).1.length := by omega
   simp only [Int.ofNat_lt, this, decide_false, Bool.false_eq_true, if_false])
 have e0 : b3j ([] : List (Place × Int)) (Place.mk 0 (0, 0)) 0 = fnd [zero] := rfl
 rw [e0]
 show (b0z (b8h ⟨⟨m⟩⟩ c heard) ([zero], [-1], [0], [], fnd [zero], 0)).bind _ = _
 rw [this]; rfl
end
end Go.Nw.KM
namespace Go.Nw.KM
noncomputable section
def Few {α : Type} (l : List α) : Prop := l.length <= 1048576
def c8c (c : List (List Literal)) : Prop := Few c /\ ∀ t ∈ c, Few t
structure FewM (m : Machine) : Prop where
 i : Few m.Inputs
 o : Few m.Outputs
 c : Few m.Counters
 s : Few m.States
 r : Few m.Rules
 w : ∀ r ∈ m.Rules, c8c r.When /\ Few r.Sets
 n : ∀ n ∈ b23 m, n.size <= maxLen
theorem b6a {α : Type} {b : Nat} {l m : List α} (hl : l.length <= 1048576) (hm : m.length <= 1048576) (hb : b <= 64) : ap b l m = some (l ++ m) := b7h (by
 have : (l.length + m.length) * b <= 2097152 * 64 := Nat.mul_le_mul (by omega) hb
 omega)
theorem d4d {n : Nat} (h : n <= 1048576) : n <= maxLen := by simp only [maxLen]; omega
theorem d9k {α : Type} {l : List α} {k : Nat} {x : α} (hx : l[k]? = some x) : l.take k ++ [x] = l.take (k + 1) := by
 rw [List.take_add_one, hx]; rfl
theorem d2o {c : List (List Literal)} (h : c8c c) : b9h c = some c := by
 have h1 := h.1
 unfold Few at h1
 unfold b9h c5p
 have := b4z (f := c1z c) c.length (fun (s : List (List Literal)) k => (s, k)) (fun k => c.take k) c (s0 := []) rfl (fun k hk => by
   obtain ⟨x, hx⟩ := b3v hk
   have hf : x.length <= 1048576 := h.2 x (b1a.2 ⟨k, hx⟩)
   unfold c1z
   simp only [Int.ofNat_lt, hk, decide_true, if_true, b1j hx, Option.bind_some]
   rw [b6a (by simp) hf (by omega), Option.bind_some, List.nil_append, b6a (by rw [List.length_take]; omega) (by simp) (by omega), Option.bind_some, b25 hk (d4d h1), d9k hx]) (by
   unfold c1z
   simp only [Int.lt_irrefl, decide_false, Bool.false_eq_true, if_false, List.take_length])
 rw [this]; rfl
theorem j9y (r : Rule) : Rule.mk r.From r.To r.When r.Sets = r := rfl
theorem g1b {m : Machine} (h : FewM m) : c1y m = some m := by
 have hi := h.i; have ho := h.o; have hc := h.c; have hs := h.s; have hr := h.r
 unfold Few at hi ho hc hs hr
 unfold c1y c5q
 rw [b6a (by simp) hi (by omega), Option.bind_some, b6a (by simp) ho (by omega), Option.bind_some, b6a (by simp) hc (by omega), Option.bind_some, b6a (by simp) hs (by omega), Option.bind_some]
 have := b4z (f := c10 m) m.Rules.length (fun (s : List Rule) k => (s, k)) (fun k => m.Rules.take k) m.Rules (s0 := []) rfl (fun k hk => by
   obtain ⟨x, hx⟩ := b3v hk
   obtain ⟨h1, h2⟩ := h.w x (b1a.2 ⟨k, hx⟩)
   unfold c10
   simp only [Int.ofNat_lt, hk, decide_true, if_true, b1j hx, Option.bind_some]
   rw [d2o h1, Option.bind_some, b6a (by simp) h2 (by omega), Option.bind_some, List.nil_append, j9y, b6a (by rw [List.length_take]; omega) (by simp) (by omega), Option.bind_some, b25 hk (d4d hr), d9k hx]) (by
   unfold c10
   simp only [Int.lt_irrefl, decide_false, Bool.false_eq_true, if_false, List.take_length])
 rw [this]; rfl
theorem l0e {a : List Place} (h : a.length <= maxLen) : c1h a a = some true := by
 unfold c1h c40
 rw [if_neg (by simp)]
 have := b4z (f := c1i a a) a.length (fun (_ : Unit) k => k) (fun _ => ()) (.inl ()) (s0 := ()) rfl (fun k hk => by
   obtain ⟨x, hx⟩ := b3v hk
   unfold c1i
   simp only [Int.ofNat_lt, hk, decide_true, if_true, b1j hx, Option.bind_some, Bool.not_true, Bool.false_eq_true, if_false, b25 hk h]) (by
   unfold c1i
   simp only [Int.lt_irrefl, decide_false, Bool.false_eq_true, if_false])
 rw [this]; rfl
def b3t (m : Machine) : Nat -> Int
 | 0 => m.States.length
 | k + 1 => match m.Counters[k]? with | some c => b3t m k * (c.Max + 1) | none => b3t m k
theorem d3j {m : Machine} (hm : OkM m) : ∀ k, 0 <= b3t m k /\ b3t m k <= 12 * 8 ^ k
 | 0 => by have := hm.z.s; unfold b3t; simp; omega
 | k + 1 => by
  obtain ⟨h0, h1⟩ := d3j hm k
  unfold b3t
  have hp : (8 : Int) ^ (k + 1) = 8 ^ k * 8 := Int.pow_succ _ _
  cases hx : m.Counters[k]? with
  | none => simp only; omega
  | some c =>
   have := hm.c c (b1a.2 ⟨k, hx⟩)
   have h2 : b3t m k * (c.Max + 1) <= b3t m k * 8 := Int.mul_le_mul_of_nonneg_left (by omega) h0
   exact ⟨Int.mul_nonneg h0 (by omega), by simp only; omega⟩
theorem g1l {m : Machine} (hf : ∀ n ∈ b23 m, n.size <= maxLen) : (¬ OkM m /\ b7u m = some false) \/ (OkM m /\ b7u m = some (decide (3 < (m.Inputs.length : Int)) || decide (80 < b3t m m.Counters.length))) := by
 unfold b7u
 obtain ⟨e, h1, h2⟩ := d2n hf
 rw [h1, Option.bind_some]
 rcases h2 with ⟨rfl, ho⟩ | ⟨rfl, ho⟩
 case inr => exact .inl ⟨ho, rfl⟩
 refine .inr ⟨ho, ?_⟩
 rw [if_neg (by simp)]
 have hc := ho.z.c
 have hb : ∀ k, k <= m.Counters.length -> 0 <= b3t m k /\ b3t m k <= 768 := fun k hk => by
  obtain ⟨h0, h1⟩ := d3j ho k
  have : k = 0 \/ k = 1 \/ k = 2 := by omega
  rcases this with rfl | rfl | rfl <;> simp at h1 <;> omega
 have := b4z (f := c1g m) m.Counters.length (fun (s : Int) k => (s, k)) (b3t m) (b3t m m.Counters.length) (s0 := (m.States.length : Int)) rfl (fun k hk => by
   obtain ⟨x, hx⟩ := b3v hk
   have hM := ho.c x (b1a.2 ⟨k, hx⟩)
   have h3 := hb k (by omega)
   have h4 := hb (k + 1) (by omega)
   have e : b3t m (k + 1) = b3t m k * (x.Max + 1) := by conv => lhs; unfold b3t; rw [hx]
   unfold c1g
   simp only [Int.ofNat_lt, hk, decide_true, if_true, b1j hx, Option.bind_some]
   rw [b25 hk (b1w (by omega)), b3q (by omega : -9223372036854775808 <= x.Max + 1) (by omega), <- e, b3q (by omega) (by omega)]) (by
   unfold c1g
   simp only [Int.lt_irrefl, decide_false, Bool.false_eq_true, if_false])
 rw [this]; rfl
theorem g1e (x : Int) : b71 x (-1) 0 = some x := by
 unfold b71; simp
end
end Go.Nw.KM
namespace Go.Nw.KM
theorem g4z {m : Machine} {c : List (List Literal)} (h : b92 m [c] 0) : OkM m /\ b2y m true c := by
 rcases h with ⟨_, a, b⟩ | ⟨e, _⟩ | ⟨e, _⟩
 ·exact ⟨a, b c (by simp)⟩
 ·cases e
 ·cases e
theorem j8j {m : Machine} (hm : OkM m) (c : List (List Literal)) (hd : Nat -> Int) (k : Nat) : (b09 m c hd k).1.length <= 768 := by
 have hg := b7x (c := c) (hd := hd) hm k
 exact c5h hm hg.n hg.o
theorem g1i {m : Machine} (hf : ∀ n ∈ b23 m, n.size <= maxLen) (c : List (List Literal)) : ∃ r, c0m m c = some r /\ c17 m c = some r /\ r.1.length <= 768 := by
 obtain ⟨e, h1, h2⟩ := g4v hf (l := [c]) (by simp)
 obtain ⟨e', h3, h4⟩ := g08 hf (l := [c]) (by simp)
 obtain rfl := g40 h2 h4
 unfold c0m c17
 rw [h1, h3, Option.bind_some, Option.bind_some]
 by_cases he : e = 0
 case neg =>
  refine ⟨([], e), ?_, ?_, by simp⟩ <;> rw [if_pos (by simpa using he)]
 subst he
 obtain ⟨hm, hc⟩ := g4z h2
 obtain ⟨K, hK⟩ := j9k (c := c) (hd := fun x => (x : Int)) hm
 rw [if_neg (by simp), if_neg (by simp), g6j hm hc (inp := -1) (val := 0) (fun x _ => g1e x) hK, show b5g m = ⟨⟨m⟩⟩ from rfl, g6i hm hc (heard := fun z7 => some (b8q z7)) (fun x _ => rfl) hK]
 exact ⟨_, rfl, rfl, j8j hm _ _ _⟩
section
variable [Bd]
theorem d9l {c : List (List Literal)} (hB : Bd.B <= 1048576) (h : OkL (OkL b5e) c) : c8c c := ⟨Nat.le_trans h.1 hB, fun t ht => Nat.le_trans (h.2 t ht).1 hB⟩
theorem l0z {m : Machine} (h : b8g m) : ∀ n ∈ b23 m, n.size <= maxLen := by
 obtain ⟨h1, h2, h3, h4, h5⟩ := h
 intro n hn
 have hB := Bd.le
 simp only [b23, List.mem_append, List.mem_map] at hn
 rcases hn with ((hn | hn) | ⟨c, hc, rfl⟩) | ⟨c, hc, rfl⟩
 ·exact Nat.le_trans (h1.2 n hn) hB
 ·exact Nat.le_trans (h2.2 n hn) hB
 ·exact Nat.le_trans (h3.2 c hc).1 hB
 ·exact Nat.le_trans (h4.2 c hc).1 hB
theorem tdm {m : Machine} (hB : Bd.B <= 1048576) (h : b8g m) : FewM m := by
 have hn := l0z h
 obtain ⟨h1, h2, h3, h4, h5⟩ := h
 exact ⟨Nat.le_trans h1.1 hB, Nat.le_trans h2.1 hB, Nat.le_trans h3.1 hB, Nat.le_trans h4.1 hB, Nat.le_trans h5.1 hB, fun r hr => ⟨d9l hB (h5.2 r hr).2.2.1, Nat.le_trans (h5.2 r hr).2.2.2.1 hB⟩, hn⟩
theorem l2p {m : Machine} (hf : ∀ n ∈ b23 m, n.size <= maxLen) : ∃ b, b7u m = some b := by
 rcases g1l hf with ⟨_, h⟩ | ⟨_, h⟩ <;> exact ⟨_, h⟩
theorem j88 (hB : Bd.B <= 1048576) (m : Machine) (c : l04_Conds) (hm : b8g m) (hc : c3m c) : c1f m c = some true := by
 have hf := tdm hB hm
 obtain ⟨b, hb⟩ := l2p hf.n
 unfold c1f
 rw [hb, Option.bind_some]
 cases b with
 | true => rfl
 | false =>
  obtain ⟨r, h1, h2, h3⟩ := g1i hf.n c.Assume
  simp only [Bool.false_eq_true, if_false]
  rw [g1b hf, Option.bind_some, d2o (d9l hB hc.1), Option.bind_some, h1, h2, Option.bind_some, Option.bind_some, l0e (b1w (by omega)), Option.bind_some]
  simp [c41]
end
end Go.Nw.KM
