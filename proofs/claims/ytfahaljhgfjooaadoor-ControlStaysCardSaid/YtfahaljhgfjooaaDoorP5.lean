/- Plain laws on the models. -/
import Derived.Test.YtfahaljhgfjooaaDoorP4
import Derived.Test.YtfahaljhgfjooaaDoorNwMapL
import Derived.Test.YtfahaljhgfjooaaDoorNwPlain
import Derived.Test.YtfahaljhgfjooaaDoorP3
set_option linter.all false
namespace Go.Nw.KM
def In (n : Int) (k : Nat) : Prop := 0 <= n /\ n < (k : Int)
def b5a (m : Machine) (inside : Bool) (l : Literal) : Prop :=
 (l.Kind = 1 /\ In l.Number m.Inputs.length /\ l.Value = 0) \/ (l.Kind = 2 /\ ∃ (n : Nat) (c : Counter), l.Number = n /\ m.Counters[n]? = some c /\ 0 <= l.Value /\ l.Value <= c.Max) \/
 (l.Kind = 3 /\ inside = true /\ In l.Number m.States.length /\ l.Value = 0) \/ (l.Kind = 4 /\ In l.Number m.Outputs.length /\ l.Value = 0)
def b2s (m : Machine) (inside : Bool) (c : List (List Literal)) : Prop := c.length <= 6 /\ ∀ t ∈ c, t.length <= 6 /\ ∀ l ∈ t, b5a m inside l
theorem d2l {α : Type} {l : List α} {n : Int} (h : In n l.length) : ∃ (k : Nat) (x : α), n = k /\ l[k]? = some x /\ get l n = some x := by
 obtain ⟨h0, h1⟩ := h;obtain ⟨k, rfl⟩ := Int.eq_ofNat_of_zero_le h0;obtain ⟨x, hx⟩ := b3b (l := l) (k := k) vf9;exact ⟨k, x, rfl, hx, b1h hx⟩
theorem c2v {n : Int} {k : Nat} (hk : k <= maxLen) : (decide (0 <= n) && decide (n <= wr ((k : Int) - 1))) = true ↔ In n k := by
 rw [c1n hk];simp only [Bool.and_eq_true, decide_eq_true_eq, In];constructor <;> exact fun h => ⟨by omega, by omega⟩
theorem b1o {n : Nat} (h : n <= 1000) : n <= maxLen := by simp only [maxLen]; omega
theorem g1a {m : Machine} (hs : SizesOk m) {l : Literal} {inside : Bool} {β : Type} {g : Bool -> Option β} :
  ∃ b : Bool, (if decide (l.Kind = 1) then g ((b2b l.Number 0 (wr ((List.length m.Inputs : Int) - 1))) && (decide (l.Value = 0)))
   else if decide (l.Kind = 2) then (if (b2b l.Number 0 (wr ((List.length m.Counters : Int) - 1))) then (get m.Counters l.Number).bind fun x30 => some (b2b l.Value 0 x30.Max) else some false).bind fun c31 => g c31
   else if decide (l.Kind = 3) then g ((inside && (b2b l.Number 0 (wr ((List.length m.States : Int) - 1)))) && (decide (l.Value = 0)))
   else if decide (l.Kind = 4) then g ((b2b l.Number 0 (wr ((List.length m.Outputs : Int) - 1))) && (decide (l.Value = 0)))
   else g false) = g b /\ (b = true ↔ b5a m inside l) := by
 have hi := b1o (Nat.le_trans hs.i vf9); have ho := b1o (Nat.le_trans hs.o vf9); have hc := b1o (Nat.le_trans hs.c vf9); have hst := b1o (Nat.le_trans hs.s.2 vf9)
 unfold b2b b5a;by_cases h1 : l.Kind = 1
 ·refine ⟨_, by rw [if_pos (by simpa using h1)], ?_⟩;rw [Bool.and_eq_true, c2v hi];simp [h1]
 by_cases h2 : l.Kind = 2
 ·rw [if_neg (by simpa using h1), if_pos (by simpa using h2)];by_cases hin : In l.Number m.Counters.length
  ·obtain ⟨k, c, hk, hx, hg⟩ := d2l hin;rw [if_pos ((c2v hc).2 hin), hg];refine ⟨_, rfl, ?_⟩;simp only [h2, Int.reduceEq, false_and, true_and, false_or, or_false, Bool.and_eq_true, decide_eq_true_eq];constructor
   ·exact fun h => ⟨k, c, hk, hx, h⟩
   ·rintro ⟨n, c', hn, hx', h⟩;have : n = k := by omega
    subst this;rw [hx] at hx'; cases hx'; exact h
  ·rw [if_neg (fun h => hin ((c2v hc).1 h))];refine ⟨_, rfl, ?_⟩;simp only [h2, Int.reduceEq, false_and, true_and, false_or, or_false, fT9, false_iff, not_exists];rintro n c ⟨hn, hx, _⟩;exact hin ⟨by omega, by have := b1k hx; omega⟩
 by_cases h3 : l.Kind = 3
 ·refine ⟨_, by rw [if_neg (by simpa using h1), if_neg (by simpa using h2), if_pos (by simpa using h3)], ?_⟩;rw [Bool.and_eq_true, Bool.and_eq_true, c2v hst];simp [h3, and_assoc]
 by_cases h4 : l.Kind = 4
 ·refine ⟨_, by rw [if_neg (by simpa using h1), if_neg (by simpa using h2), if_neg (by simpa using h3), if_pos (by simpa using h4)], ?_⟩;rw [Bool.and_eq_true, c2v ho];simp [h4]
 ·refine ⟨false, by rw [if_neg (by simpa using h1), if_neg (by simpa using h2), if_neg (by simpa using h3), if_neg (by simpa using h4)], ?_⟩;simp [h1, h2, h3, h4]
theorem g1b {m : Machine} (hs : SizesOk m) {c : List (List Literal)} {i : Nat} {t : List Literal} (ht : c[i]? = some t) (inside : Bool) (hl : t.length <= 6) :
  ((∀ l ∈ t, b5a m inside l) /\ b0w (b8y m c inside i) 0 = some (.inl ())) \/ ((∃ l ∈ t, ¬ b5a m inside l) /\ b0w (b8y m c inside i) 0 = some (.inr false)) := by
 rcases b4j (f := b8y m c inside i) (l := t) (p := fun _ l => ¬ b5a m inside l) (e := .inr false) (u := .inl ()) (b1o vf9) (fun k x hx => by
   have hk := b1k hx;obtain ⟨b, h1, h2⟩ := g1a hs (l := x) (inside := inside) (g := b7p k);refine ⟨!b, ?_, by rw [<- h2]; simp⟩;unfold b8y;simp only [b1h ht, b1h hx, bS9, Int.ofNat_lt, hk, decide_true, if_true];rw [h1]
   rfl) (by unfold b8y; simp only [b1h ht, bS9, Int.lt_irrefl, decide_false, fT9, if_false]) with ⟨h1, h2⟩ | ⟨⟨k, x, h1, h2⟩, h3⟩
 ·exact .inl ⟨fun l hl => by obtain ⟨k, hk⟩ := b1d.1 hl; exact Classical.not_not.1 (h1 k l hk), h2⟩
 ·exact .inr ⟨⟨x, b1d.2 ⟨k, h1⟩, h2⟩, h3⟩
theorem d6x {m : Machine} (hs : SizesOk m) (c : List (List Literal)) (inside : Bool) : ∃ b, c04 m c inside = some b /\ (b = true ↔ b2s m inside c) := by
 unfold c04;by_cases h6 : c.length <= 6
 case neg => exact ⟨false, by rw [if_pos vi9], by simp [b2s]; intro h; omega⟩
 rw [if_neg vi9]
 rcases c3v (f := c05 m c inside) c (fun _ t => ¬ (t.length <= 6 /\ ∀ l ∈ t, b5a m inside l)) (.inr false) (.inl ()) (fun k t ht hb => by
   have hk := b1k ht;unfold c05;simp only [b1h ht, bS9, Int.ofNat_lt, hk, decide_true, if_true];by_cases hl : t.length <= 6
   ·rw [if_neg vi9];rcases g1b hs ht inside hl with ⟨h1, _⟩ | ⟨_, h2⟩
    ·exact absurd ⟨hl, h1⟩ hb
    ·rw [h2]; rfl
   ·rw [if_pos vi9]) (fun k t ht hb => by
   have hk := b1k ht;obtain ⟨hl, h0⟩ := Classical.not_not.1 hb;unfold c05;simp only [b1h ht, bS9, Int.ofNat_lt, hk, decide_true, if_true];rw [if_neg vi9];rcases g1b hs ht inside hl with ⟨_, h2⟩ | ⟨⟨l, h1, h2⟩, _⟩
   ·rw [h2]; simp only [bS9, c8p]; rw [b2r hk (b1o vf9)]
   ·exact absurd (h0 l h1) h2) (by unfold c05; simp only [Int.lt_irrefl, decide_false, fT9, if_false]) with ⟨h1, h2⟩ | ⟨⟨k, t, h1, h2⟩, h3⟩
 ·rw [h2];exact ⟨true, rfl, by simp only [true_iff]; exact ⟨h6, fun t ht => by obtain ⟨k, hk⟩ := b1d.1 ht; exact Classical.not_not.1 (h1 k t hk)⟩⟩
 ·rw [h3];exact ⟨false, rfl, by simp only [fT9, false_iff]; exact fun h => h2 (h.2 t (b1d.2 ⟨k, h1⟩))⟩
theorem g57 {m : Machine} (hs : SizesOk m) (l : Literal) : ∃ b, c43 m l = some b /\ (b = true ↔ b5a m true l) := by
 obtain ⟨b, h1, h2⟩ := g1a hs (l := l) (inside := true) (g := fun b => some b);refine ⟨b, ?_, h2⟩;rw [<- h1];unfold c43 b2q b2b;simp only [Bool.true_and]
theorem d5p {m : Machine} (hs : SizesOk m) (c : List (List Literal)) : ∃ b, c1h m c = some b /\ (b = true ↔ b2s m true c) := by
 unfold c1h;by_cases h6 : c.length <= 6
 case neg => exact ⟨false, by rw [if_pos vi9], by simp [b2s]; intro h; omega⟩
 rw [if_neg vi9]
 rcases b4j (f := c4u m c) (l := c) (p := fun _ t => ¬ (t.length <= 6 /\ ∀ l ∈ t, b5a m true l)) (e := .inr false) (u := .inl ()) (b1o vf9) (fun k t ht => by
   have hk := b1k ht;unfold c4u;simp only [b1h ht, bS9, Int.ofNat_lt, hk, decide_true, if_true];by_cases hl : t.length <= 6
   ·rw [if_neg vi9]
    obtain ⟨b, h1, h2⟩ := c20 (g := b7t t (fun z14 => b82 z14 m)) (s := t) (f := fun z14 => b82 z14 m) (p := fun l => ¬ b5a m true l) rfl (b1o vf9) (fun x hx => by
     obtain ⟨b, h1, h2⟩ := g57 hs x
     exact ⟨!b, by unfold b82; rw [h1]; rfl, by rw [<- h2]; simp⟩)
    rw [h1];refine ⟨b, rfl, ?_⟩;rw [h2];constructor
    ·rintro ⟨x, hx, h⟩ hh; exact h (hh.2 x hx)
    ·intro h;exact Classical.byContradiction fun hn => h ⟨hl, fun l hl' => Classical.byContradiction fun h' => hn ⟨l, hl', h'⟩⟩
   ·rw [if_pos vi9]
    exact ⟨true, rfl, by simp; intro h; omega⟩) (by unfold c4u; simp only [Int.lt_irrefl, decide_false, fT9, if_false]) with ⟨h1, h2⟩ | ⟨⟨k, t, h1, h2⟩, h3⟩
 ·rw [h2];exact ⟨true, rfl, by simp only [true_iff]; exact ⟨h6, fun t ht => by obtain ⟨k, hk⟩ := b1d.1 ht; exact Classical.not_not.1 (h1 k t hk)⟩⟩
 ·rw [h3];exact ⟨false, rfl, by simp only [fT9, false_iff]; exact fun h => h2 (h.2 t (b1d.2 ⟨k, h1⟩))⟩
end Go.Nw.KM
namespace Go.Nw.KM
def b88 (l : List ByteArray) (k : Nat) (x : ByteArray) : Prop := ¬ c3w x \/ x ∈ l.take k
def c5c (l : List ByteArray) : Prop := ∃ k x, l[k]? = some x /\ b88 l k x
structure OkRule (m : Machine) (r : Rule) : Prop where
 f : -1 <= r.From /\ r.From < (m.States.length : Int)
 t : In r.To m.States.length
 w : b2s m false r.When
 n : r.Sets.length <= 4
 s : ∀ s ∈ r.Sets, (1 <= s.Kind /\ s.Kind <= 3) /\ In s.Counter m.Counters.length
structure OkM (m : Machine) : Prop where
 z : SizesOk m
 n : ¬ c5c (b3g m)
 c : ∀ c ∈ m.Counters, 1 <= c.Max /\ c.Max <= 7
 s : ∀ s ∈ m.States, 0 <= s.Shows /\ s.Shows < 2 ^ m.Outputs.length
 r : ∀ r ∈ m.Rules, OkRule m r
theorem g12 {m : Machine} (h : SizesOk m) : (b3g m).length <= 24 := by
 have := h.i; have := h.o; have := h.c; have := h.s
 simp [b3g]; omega
theorem g11 {s : ByteArray} (hs : s.size <= maxLen) : ∃ b, (if decide (8 < (ByteArray.size s : Int)) then some true else (c02 s).bind fun y70 => some (!y70)) = some b /\ (b = true ↔ ¬ c3w s) := by
 by_cases h8 : s.size <= 8
 ·obtain ⟨b, h1, h2⟩ := g5y s hs;rw [if_neg vi9, h1];exact ⟨!b, rfl, by simp [c3w, h8, <- h2]⟩
 ·rw [if_pos vi9];exact ⟨true, rfl, by simp [c3w]; intro h; omega⟩
theorem j8o {l : List ByteArray} (hl : l.length <= 24) (hf : ∀ n ∈ l, n.size <= maxLen) : (¬ c5c l /\ b0w (b7n l) 0 = some (.inl ())) \/ (c5c l /\ b0w (b7n l) 0 = some (.inr 41)) := by
 have inner : ∀ (i : Nat) x, l[i]? = some x -> (x ∉ l.take i /\ b0w (b8u l i) 0 = some (.inl ())) \/ (x ∈ l.take i /\ b0w (b8u l i) 0 = some (.inr 41)) := fun i x hx => by
  have hi := b1k hx;have htl : (l.take i).length = i := by rw [List.length_take]; omega
  rcases b4j (f := b8u l i) (l := l.take i) (p := fun _ y => y = x) (e := .inr 41) (u := .inl ()) (b1o vf9) (fun k y hy => by
    have hk := b1k hy;rw [htl] at hk;rw [List.getElem?_take, if_pos hk] at hy;refine ⟨decide (y = x), ?_, by simp⟩;unfold b8u
    simp only [b1h hx, b1h hy, bS9, Int.ofNat_lt, hk, decide_true, if_true]) (by rw [htl]; unfold b8u; simp only [Int.lt_irrefl, decide_false, fT9, if_false]) with ⟨h1, h2⟩ | ⟨⟨k, y, h1, h2⟩, h3⟩
  ·exact .inl ⟨fun h => by obtain ⟨k, hk⟩ := b1d.1 h; exact h1 k x hk rfl, h2⟩
  ·exact .inr ⟨b1d.2 ⟨k, h2 ▸ h1⟩, h3⟩
 rcases c3v (f := b7n l) l (b88 l) (.inr 41) (.inl ()) (fun k x hx hb => by
   have hk := b1k hx;obtain ⟨b, h1, h2⟩ := g11 (hf x (b1d.2 ⟨k, hx⟩));unfold b7n;simp only [b1h hx, bS9, Int.ofNat_lt, hk, decide_true, if_true];rw [h1, bS9]
   cases b with
   | true => rfl
   | false =>
    rw [if_neg vh9];rcases inner k x hx with ⟨h3, _⟩ | ⟨_, h4⟩
    ·rcases hb with hb | hb
     ·exact absurd (h2.2 hb) vh9
     ·exact absurd hb h3
    ·rw [h4]; rfl) (fun k x hx hb => by
   have hk := b1k hx;obtain ⟨b, h1, h2⟩ := g11 (hf x (b1d.2 ⟨k, hx⟩));unfold b7n;simp only [b1h hx, bS9, Int.ofNat_lt, hk, decide_true, if_true];rw [h1, bS9];have hbf : b = false := s33 fun h => hb (.inl (h2.1 h));subst hbf;rw [if_neg vh9];rcases inner k x hx with ⟨_, h4⟩ | ⟨h3, _⟩
   ·rw [h4]; simp only [bS9, c8b]; rw [b2r hk (b1o vf9)]
   ·exact absurd (.inr h3) hb) (by unfold b7n; simp only [Int.lt_irrefl, decide_false, fT9, if_false]) with ⟨h1, h2⟩ | ⟨h1, h2⟩
 ·exact .inl ⟨fun ⟨k, x, a, b⟩ => h1 k x a b, h2⟩
 ·exact .inr ⟨h1, h2⟩
theorem b6g {n a b : Int} : b2b n a b = true ↔ a <= n /\ n <= b := by unfold b2b; simp
theorem b6t {n a b : Int} : b2q n a b = true ↔ a <= n /\ n <= b := by unfold b2q; simp
theorem c83 {n : Nat} (h : n <= 6) : shl .i64 1 (n : Int) = some (2 ^ n) := by
 rw [l5j vf9 vf9]; simp
theorem g3y {n : Nat} (h : n <= 6) : wr ((2 : Int) ^ n - 1) = 2 ^ n - 1 := by
 have h2 : (2 : Int) ^ n <= 64 := by
  have := Nat.pow_le_pow_right (n := 2) vf9 h;have e : ((2 ^ n : Nat) : Int) = (2 : Int) ^ n := by simp
  omega
 have h1 : (0 : Int) < 2 ^ n := Int.pow_pos vf9;exact b3t vf9 vf9
theorem d5t {m : Machine} (hf : ∀ n ∈ b3g m, n.size <= maxLen) : ∃ e, c0u m = some e /\ ((e = 0 /\ OkM m) \/ (e = 41 /\ ¬ OkM m)) := by
 unfold c0u;by_cases hz : SizesOk m
 case neg =>
  refine ⟨41, ?_, .inr ⟨rfl, fun h => hz h.z⟩⟩;rw [if_pos];refine Classical.byContradiction fun hc => hz ?_;simp only [Bool.or_eq_true, decide_eq_true_eq, Bool.not_eq_true', not_or, Bool.not_eq_false, b6g] at hc;obtain ⟨⟨⟨⟨h1, h2⟩, h3⟩, h4⟩, h5⟩ := hc;exact ⟨by omega, by omega, by omega, by omega, by omega⟩
 have hi := hz.i; have ho := hz.o; have hc := hz.c; have hs := hz.s; have hr := hz.r
 rw [if_neg (by
  simp only [Bool.or_eq_true, decide_eq_true_eq, Bool.not_eq_true', not_or, Bool.not_eq_false, b6g]
  omega), j8q hz, bS9]
 rcases j8o (g12 hz) hf with ⟨hn, h2⟩ | ⟨hn, h2⟩
 case inr => rw [h2]; exact ⟨41, rfl, .inr ⟨rfl, fun h => h.n hn⟩⟩
 rw [h2, bS9];simp only;unfold c77
 rcases b4j (f := p6x m) (l := m.Counters) (p := fun _ c => ¬ (1 <= c.Max /\ c.Max <= 7)) (e := .inr 41) (u := .inl ()) (b1o vf9) (fun k x hx => by
   have hk := b1k hx;refine ⟨!(b2b x.Max 1 7), ?_, by rw [<- b6g]; simp⟩;unfold p6x
   simp only [b1h hx, bS9, Int.ofNat_lt, hk, decide_true, if_true]) (by unfold p6x; simp only [Int.lt_irrefl, decide_false, fT9, if_false]) with ⟨h1, h2⟩ | ⟨⟨k, x, h1, h2⟩, h3⟩
 case inr => rw [h3]; exact ⟨41, rfl, .inr ⟨rfl, fun h => h2 (h.c x (b1d.2 ⟨k, h1⟩))⟩⟩
 have hC : ∀ c ∈ m.Counters, 1 <= c.Max /\ c.Max <= 7 := fun c hc => by obtain ⟨k, hk⟩ := b1d.1 hc; exact Classical.not_not.1 (h1 k c hk)
 rw [h2, bS9];simp only;unfold c78
 rcases b4j (f := r8g m) (l := m.States) (p := fun _ s => ¬ (0 <= s.Shows /\ s.Shows < 2 ^ m.Outputs.length)) (e := .inr 41) (u := .inl ()) (b1o vf9) (fun k x hx => by
   have hk := b1k hx;refine ⟨!(b2b x.Shows 0 (2 ^ m.Outputs.length - 1)), ?_, by simp only [Bool.not_eq_true', <- Bool.not_eq_true, b6g]; omega⟩;unfold r8g;simp only [b1h hx, bS9, Int.ofNat_lt, hk, decide_true, if_true]
   rw [c9p vf9 vf9, c83 ho, bS9, g3y ho]) (by unfold r8g; simp only [Int.lt_irrefl, decide_false, fT9, if_false]) with ⟨h1, h2⟩ | ⟨⟨k, x, h1, h2⟩, h3⟩
 case inr => rw [h3]; exact ⟨41, rfl, .inr ⟨rfl, fun h => h2 (h.s x (b1d.2 ⟨k, h1⟩))⟩⟩
 have hS : ∀ s ∈ m.States, 0 <= s.Shows /\ s.Shows < 2 ^ m.Outputs.length := fun c hc => by obtain ⟨k, hk⟩ := b1d.1 hc; exact Classical.not_not.1 (h1 k c hk)
 rw [h2, bS9];simp only;unfold c79;have wrs : wr ((m.States.length : Int) - 1) = (m.States.length : Int) - 1 := c1n (b1o vf9);have wrc : wr ((m.Counters.length : Int) - 1) = (m.Counters.length : Int) - 1 := c1n (b1o vf9)
 have rule : ∀ (k : Nat) x, m.Rules[k]? = some x -> (OkRule m x /\ b8v m k = some (.nx ((k : Int) + 1))) \/ (¬ OkRule m x /\ b8v m k = some (.br (.inr 41))) := fun k x hx => by
  have hk := b1k hx;unfold b8v;simp only [b1h hx, bS9, Int.ofNat_lt, hk, decide_true, if_true, wrs];by_cases hft : b2b x.From (-1) ((m.States.length : Int) - 1) = true /\ b2b x.To 0 ((m.States.length : Int) - 1) = true
  case neg =>
   rw [if_pos (by simp only [Bool.or_eq_true, Bool.not_eq_true', <- Bool.not_eq_true]; exact Classical.not_and_iff_not_or_not.1 hft), bS9, Bool.true_or];refine .inr ⟨fun h => hft ?_, rfl⟩;rw [b6g, b6g];have := h.f; have := h.t
   unfold In at this;exact ⟨by omega, by omega⟩
  rw [if_neg (by simp only [Bool.or_eq_true, Bool.not_eq_true', <- Bool.not_eq_true]; exact fun h => h.elim (fun h => h hft.1) fun h => h hft.2)];rw [b6g, b6g] at hft;obtain ⟨b, h1, h2⟩ := d6x hz x.When false;rw [h1, bS9, bS9];by_cases hb : b = true /\ x.Sets.length <= 4
  case neg =>
   rw [if_pos (by
    simp only [Bool.or_eq_true, Bool.not_eq_true', decide_eq_true_eq];rcases Classical.not_and_iff_not_or_not.1 hb with h | h
    ·exact .inl (s33 h)
    ·exact .inr vf9)]
   exact .inr ⟨fun h => hb ⟨h2.2 h.w, h.n⟩, rfl⟩
  rw [if_neg (by
    simp only [Bool.or_eq_true, Bool.not_eq_true', decide_eq_true_eq, hb.1];have := hb.2
    simp; omega)]
  rcases b4j (f := c39 m x) (l := x.Sets) (p := fun _ s => ¬ ((1 <= s.Kind /\ s.Kind <= 3) /\ In s.Counter m.Counters.length)) (e := .inr 41) (u := .inl ()) (b1o vf9) (fun k s hs => by
    have hk := b1k hs;refine ⟨!(b2b s.Kind 1 3) || !(b2b s.Counter 0 ((m.Counters.length : Int) - 1)), ?_, ?_⟩
    ·unfold c39;simp only [b1h hs, bS9, Int.ofNat_lt, hk, decide_true, if_true, wrc]
    ·simp only [Bool.or_eq_true, Bool.not_eq_true', <- Bool.not_eq_true, b6g, In]; omega) (by unfold c39; simp only [Int.lt_irrefl, decide_false, fT9, if_false]) with ⟨h3, h4⟩ | ⟨⟨j, s, h3, h4⟩, h5⟩
  ·rw [h4];refine .inl ⟨⟨by omega, by unfold In; omega, h2.1 hb.1, hb.2, fun s hs => by obtain ⟨k, hk⟩ := b1d.1 hs; exact Classical.not_not.1 (h3 k s hk)⟩, ?_⟩;simp only [bS9, c8a]; rw [b2r hk (b1o vf9)]
  ·rw [h5];exact .inr ⟨fun h => h4 (h.s s (b1d.2 ⟨j, h3⟩)), rfl⟩
 rcases c3v (f := b8v m) m.Rules (fun _ r => ¬ OkRule m r) (.inr 41) (.inl ()) (fun k x hx hb => (rule k x hx).elim (fun h => absurd h.1 hb) fun h => h.2) (fun k x hx hb => (rule k x hx).elim (fun h => h.2) fun h => absurd h.1 hb)
   (by unfold b8v; simp only [Int.lt_irrefl, decide_false, fT9, if_false]) with ⟨h1, h2⟩ | ⟨⟨k, x, h1, h2⟩, h3⟩
 ·rw [h2];exact ⟨0, rfl, .inl ⟨rfl, hz, hn, hC, hS, fun r hr => by obtain ⟨k, hk⟩ := b1d.1 hr; exact Classical.not_not.1 (h1 k r hk)⟩⟩
 ·rw [h3];exact ⟨41, rfl, .inr ⟨rfl, fun h => h2 (h.r x (b1d.2 ⟨k, h1⟩))⟩⟩
end Go.Nw.KM
namespace Go.Nw.KM
theorem j8n {m : Machine} (hz : SizesOk m) (hf : ∀ n ∈ b3g m, n.size <= maxLen) : ∃ b, c44 m = some b /\ (b = true ↔ ¬ c5c (b3g m)) := by
 unfold c44;rw [j8p hz, bS9];have hl := g12 hz;generalize b3g m = l at hf hl;have keys : ∀ k, (((l.take k).map fun n => (n, (1 : Int))).map (·.1)) = l.take k := fun k => by rw [List.map_map]; simp [Function.comp_def]
 have stepb : ∀ (k : Nat) x, l[k]? = some x -> ∃ b, c1i l ((l.take k).map fun n => (n, (1 : Int)), (k : Int)) = (if b = true then some (.br (.inr false)) else some (.nx ((b3w ((l.take k).map fun n => (n, (1 : Int))) x (wr ((b2w ((l.take k).map fun n => (n, (1 : Int))) x 0) + 1))), (k : Int) + 1))) /\ (b = true ↔ b88 l k x) := fun k x hx => by
  have hk := b1k hx;obtain ⟨b, h1, h2⟩ := g5r x (hf x (b1d.2 ⟨k, hx⟩))
  refine ⟨_, by
   unfold c1i;simp only [b1h hx, bS9, Int.ofNat_lt, hk, decide_true, if_true, h1]
   rw [b2r hk (b1o vf9)], ?_⟩
  rw [j77];by_cases hin : x ∈ l.take k
  ·obtain ⟨d, hd⟩ := g1n (z := (0 : Int)) (l := (l.take k).map fun n => (n, (1 : Int))) (k := x) (by rw [keys]; exact hin);rw [List.getElem?_map] at hd;obtain ⟨y, _, hy⟩ := mE9.1 hd;simp only [Prod.mk.injEq] at hy;rw [<- hy.2, show wr ((1 : Int) + 1) = 2 from by decide];simp [b88, hin]
  ·rw [g1o (by rw [keys]; exact hin), show wr ((0 : Int) + 1) = 1 from by decide];simp only [Bool.or_eq_true, Bool.not_eq_true', <- Bool.not_eq_true, h2, g5s, decide_eq_true_eq, b88, hin, or_false, c3w, c0m, Int.lt_irrefl];have e8 : ¬ (8 : Int) < (x.size : Int) ↔ x.size <= 8 := by omega
   rw [<- e8]
   exact ⟨fun h hh => h.elim (fun h => h.elim (fun h => h hh.2.2) fun h => hh.1 h) fun h => hh.2.1 h, fun h => by
    refine Classical.byContradiction fun hn => h ?_;simp only [not_or, Classical.not_not] at hn
    exact ⟨hn.1.2, hn.2, hn.1.1⟩⟩
 rcases g1j (f := c1i l) l (fun s k => (s, k)) (fun k => (l.take k).map fun n => (n, (1 : Int))) (b88 l) (.inr false) (.inl ()) (fun k x _ hx hb => by
   obtain ⟨b, h1, h2⟩ := stepb k x hx
   rw [h1, if_pos (h2.2 hb)]) (fun k x _ hx hb => by
   obtain ⟨b, h1, h2⟩ := stepb k x hx;rw [h1, if_neg (fun h => hb (h2.1 h))];have hin : x ∉ l.take k := fun h => hb (.inr h);rw [g1w (by rw [keys]; exact hin), g1o (by rw [keys]; exact hin), show wr ((0 : Int) + 1) = 1 from by decide, List.take_add_one, hx]
   simp) (by unfold c1i; simp only [Int.lt_irrefl, decide_false, fT9, if_false]) (s0 := []) vh9 with ⟨h1, h2⟩ | ⟨h1, h2⟩
 ·rw [h2];exact ⟨true, rfl, by simp only [true_iff]; exact fun ⟨k, x, a, b⟩ => h1 k x a b⟩
 ·rw [h2];exact ⟨false, rfl, by simp only [fT9, false_iff, Classical.not_not]; exact h1⟩
theorem d1i {m : Machine} {c : List (List Literal)} : b2s m false c ↔ b2s m true c /\ ∀ t ∈ c, ¬ ∃ l ∈ t, l.Kind = 3 := by
 unfold b2s b5a;constructor
 ·intro h;refine ⟨⟨h.1, fun t ht => ⟨(h.2 t ht).1, fun l hl => ?_⟩⟩, fun t ht ⟨l, hl, h3⟩ => ?_⟩
  ·rcases (h.2 t ht).2 l hl with h | h | h | h
   ·exact .inl h
   ·exact .inr (.inl h)
   ·simp at h
   ·exact .inr (.inr (.inr h))
  ·rcases (h.2 t ht).2 l hl with h | h | h | h
   ·omega
   ·omega
   ·simp at h
   ·omega
 ·rintro ⟨h, h3⟩;refine ⟨h.1, fun t ht => ⟨(h.2 t ht).1, fun l hl => ?_⟩⟩;rcases (h.2 t ht).2 l hl with h | h | h | h
  ·exact .inl h
  ·exact .inr (.inl h)
  ·exact absurd ⟨l, hl, h.1⟩ (h3 t ht)
  ·exact .inr (.inr (.inr h))
theorem g5l {m : Machine} (hf : ∀ n ∈ b3g m, n.size <= maxLen) : ∃ e, c4v m = some e /\ ((e = 0 /\ OkM m) \/ (e = 41 /\ ¬ OkM m)) := by
 unfold c4v;by_cases hz : SizesOk m
 case neg =>
  refine ⟨41, ?_, .inr ⟨rfl, fun h => hz h.z⟩⟩;rw [if_pos, bS9, if_pos rfl];refine Classical.byContradiction fun hc => hz ?_;simp only [Bool.or_eq_true, decide_eq_true_eq, Bool.not_eq_true', not_or, Bool.not_eq_false, b6t] at hc;obtain ⟨⟨⟨⟨h1, h2⟩, h3⟩, h4⟩, h5⟩ := hc;exact ⟨by omega, by omega, by omega, by omega, by omega⟩
 have hi := hz.i; have ho := hz.o; have hc := hz.c; have hs := hz.s; have hr := hz.r
 obtain ⟨b, h1, h2⟩ := j8n hz hf
 rw [if_neg (by
  simp only [Bool.or_eq_true, decide_eq_true_eq, Bool.not_eq_true', not_or, Bool.not_eq_false, b6t]
  omega), h1, bS9, bS9]
 cases b with
 | false => exact ⟨41, rfl, .inr ⟨rfl, fun h => absurd (h2.2 h.n) vh9⟩⟩
 | true =>
 have hn := h2.1 rfl;rw [if_neg vh9];clear h1 h2
 rcases b4j (f := c4z m) (l := m.Counters) (p := fun _ c => ¬ (1 <= c.Max /\ c.Max <= 7)) (e := .inr 41) (u := .inl ()) (b1o vf9) (fun k x hx => by
   have hk := b1k hx;refine ⟨!(b2q x.Max 1 7), ?_, by rw [<- b6t]; simp⟩;unfold c4z
   simp only [b1h hx, bS9, Int.ofNat_lt, hk, decide_true, if_true]) (by unfold c4z; simp only [Int.lt_irrefl, decide_false, fT9, if_false]) with ⟨h1, h2⟩ | ⟨⟨k, x, h1, h2⟩, h3⟩
 case inr => rw [h3]; exact ⟨41, rfl, .inr ⟨rfl, fun h => h2 (h.c x (b1d.2 ⟨k, h1⟩))⟩⟩
 have hC : ∀ c ∈ m.Counters, 1 <= c.Max /\ c.Max <= 7 := fun c hc => by obtain ⟨k, hk⟩ := b1d.1 hc; exact Classical.not_not.1 (h1 k c hk)
 rw [h2, bS9];simp only;unfold p84
 rcases b4j (f := c4w m) (l := m.States) (p := fun _ s => ¬ (0 <= s.Shows /\ s.Shows < 2 ^ m.Outputs.length)) (e := .inr 41) (u := .inl ()) (b1o vf9) (fun k x hx => by
   have hk := b1k hx;refine ⟨!(b2q x.Shows 0 (2 ^ m.Outputs.length - 1)), ?_, by simp only [Bool.not_eq_true', <- Bool.not_eq_true, b6t]; omega⟩;unfold c4w;simp only [b1h hx, bS9, Int.ofNat_lt, hk, decide_true, if_true]
   rw [c83 ho, bS9, g3y ho]) (by unfold c4w; simp only [Int.lt_irrefl, decide_false, fT9, if_false]) with ⟨h1, h2⟩ | ⟨⟨k, x, h1, h2⟩, h3⟩
 case inr => rw [h3]; exact ⟨41, rfl, .inr ⟨rfl, fun h => h2 (h.s x (b1d.2 ⟨k, h1⟩))⟩⟩
 have hS : ∀ s ∈ m.States, 0 <= s.Shows /\ s.Shows < 2 ^ m.Outputs.length := fun c hc => by obtain ⟨k, hk⟩ := b1d.1 hc; exact Classical.not_not.1 (h1 k c hk)
 rw [h2, bS9];simp only;unfold c85;have wrs : wr ((m.States.length : Int) - 1) = (m.States.length : Int) - 1 := c1n (b1o vf9);have wrc : wr ((m.Counters.length : Int) - 1) = (m.Counters.length : Int) - 1 := c1n (b1o vf9)
 have rule : ∀ (k : Nat) x, m.Rules[k]? = some x -> (OkRule m x /\ b83 m k = some (.nx ((k : Int) + 1))) \/ (¬ OkRule m x /\ b83 m k = some (.br (.inr 41))) := fun k x hx => by
  have hk := b1k hx;unfold b83;simp only [b1h hx, bS9, Int.ofNat_lt, hk, decide_true, if_true, wrs];by_cases hft : b2q x.From (-1) ((m.States.length : Int) - 1) = true /\ b2q x.To 0 ((m.States.length : Int) - 1) = true
  case neg =>
   rw [if_pos (by simp only [Bool.or_eq_true, Bool.not_eq_true', <- Bool.not_eq_true]; exact Classical.not_and_iff_not_or_not.1 hft), bS9, Bool.true_or];refine .inr ⟨fun h => hft ?_, rfl⟩;rw [b6t, b6t];have := h.f; have := h.t
   unfold In at this;exact ⟨by omega, by omega⟩
  rw [if_neg (by simp only [Bool.or_eq_true, Bool.not_eq_true', <- Bool.not_eq_true]; exact fun h => h.elim (fun h => h hft.1) fun h => h hft.2)];rw [b6t, b6t] at hft;obtain ⟨b, h1, h2⟩ := d5p hz x.When;rw [h1, bS9, bS9];by_cases hb : b = true /\ x.Sets.length <= 4
  case neg =>
   rw [if_pos (by
    simp only [Bool.or_eq_true, Bool.not_eq_true', decide_eq_true_eq];rcases Classical.not_and_iff_not_or_not.1 hb with h | h
    ·exact .inl (s33 h)
    ·exact .inr vf9)]
   exact .inr ⟨fun h => hb ⟨h2.2 (d1i.1 h.w).1, h.n⟩, rfl⟩
  rw [if_neg (by
    simp only [Bool.or_eq_true, Bool.not_eq_true', decide_eq_true_eq, hb.1];have := hb.2
    simp; omega)]
  have hw := h2.1 hb.1
  rcases b4j (f := c4x x) (l := x.When) (p := fun _ t => ∃ l ∈ t, l.Kind = 3) (e := .inr 41) (u := .inl ()) (b1o (by have := hw.1; omega)) (fun k t ht => by
    have hk := b1k ht;obtain ⟨b, h1, h2⟩ := c20 (g := b7t t (fun z53 => some (b7s z53))) (s := t) (f := fun z53 => some (b7s z53)) (p := fun l => l.Kind = 3) rfl (b1o (by have := (hw.2 t (b1d.2 ⟨k, ht⟩)).1; omega)) (fun x hx => ⟨_, rfl, by unfold b7s; simp⟩);refine ⟨b, ?_, h2⟩;unfold c4x;simp only [b1h ht, bS9, Int.ofNat_lt, hk, decide_true, if_true]
    rw [h1]; rfl) (by unfold c4x; simp only [Int.lt_irrefl, decide_false, fT9, if_false]) with ⟨h3, h4⟩ | ⟨⟨j, s, h3, h4⟩, h5⟩
  case inr =>
   rw [h5];exact .inr ⟨fun h => (d1i.1 h.w).2 s (b1d.2 ⟨j, h3⟩) h4, rfl⟩
  have hw' : b2s m false x.When := d1i.2 ⟨hw, fun t ht => by obtain ⟨k, hk⟩ := b1d.1 ht; exact h3 k t hk⟩;rw [h4];simp only [bS9];unfold c87;clear h3 h4
  rcases b4j (f := c4y m x) (l := x.Sets) (p := fun _ s => ¬ ((1 <= s.Kind /\ s.Kind <= 3) /\ In s.Counter m.Counters.length)) (e := .inr 41) (u := .inl ()) (b1o vf9) (fun k s hs => by
    have hk := b1k hs;refine ⟨!(b2q s.Kind 1 3) || !(b2q s.Counter 0 ((m.Counters.length : Int) - 1)), ?_, ?_⟩
    ·unfold c4y;simp only [b1h hs, bS9, Int.ofNat_lt, hk, decide_true, if_true, wrc]
    ·simp only [Bool.or_eq_true, Bool.not_eq_true', <- Bool.not_eq_true, b6t, In]; omega) (by unfold c4y; simp only [Int.lt_irrefl, decide_false, fT9, if_false]) with ⟨h3, h4⟩ | ⟨⟨j, s, h3, h4⟩, h5⟩
  ·rw [h4];refine .inl ⟨⟨by omega, by unfold In; omega, hw', hb.2, fun s hs => by obtain ⟨k, hk⟩ := b1d.1 hs; exact Classical.not_not.1 (h3 k s hk)⟩, ?_⟩;simp only [bS9, c86]; rw [b2r hk (b1o vf9)]
  ·rw [h5];exact .inr ⟨fun h => h4 (h.s s (b1d.2 ⟨j, h3⟩)), rfl⟩
 rcases c3v (f := b83 m) m.Rules (fun _ r => ¬ OkRule m r) (.inr 41) (.inl ()) (fun k x hx hb => (rule k x hx).elim (fun h => absurd h.1 hb) fun h => h.2) (fun k x hx hb => (rule k x hx).elim (fun h => h.2) fun h => absurd h.1 hb)
   (by unfold b83; simp only [Int.lt_irrefl, decide_false, fT9, if_false]) with ⟨h1, h2⟩ | ⟨⟨k, x, h1, h2⟩, h3⟩
 ·rw [h2];exact ⟨0, rfl, .inl ⟨rfl, hz, hn, hC, hS, fun r hr => by obtain ⟨k, hk⟩ := b1d.1 hr; exact Classical.not_not.1 (h1 k r hk)⟩⟩
 ·rw [h3];exact ⟨41, rfl, .inr ⟨rfl, fun h => h2 (h.r x (b1d.2 ⟨k, h1⟩))⟩⟩
theorem g5k {m : Machine} (hf : ∀ n ∈ b3g m, n.size <= maxLen) : ∃ e, c2f m = some e /\ ((e = 0 /\ OkM m) \/ (e = 41 /\ ¬ OkM m)) := by
 obtain ⟨e, h1, h2⟩ := g5l hf;exact ⟨e, by unfold c2f; rw [h1]; rfl, h2⟩
def b7w (m : Machine) (l : List (List (List Literal))) (e : Int) : Prop := (e = 0 /\ OkM m /\ ∀ c ∈ l, b2s m true c) \/ (e = 41 /\ ¬ OkM m) \/ (e = 42 /\ OkM m /\ ∃ c ∈ l, ¬ b2s m true c)
theorem d6z {m : Machine} {l : List (List (List Literal))} {e f : Int} (h : b7w m l e) (h' : b7w m l f) : e = f := by
 rcases h with ⟨rfl, a, b⟩ | ⟨rfl, a⟩ | ⟨rfl, a, b⟩ <;> rcases h' with ⟨rfl, a', b'⟩ | ⟨rfl, a'⟩ | ⟨rfl, a', b'⟩
 ·rfl
 ·exact absurd a a'
 ·obtain ⟨c, hc, hn⟩ := b'; exact absurd (b c hc) hn
 ·exact absurd a' a
 ·rfl
 ·exact absurd a' a
 ·obtain ⟨c, hc, hn⟩ := b; exact absurd (b' c hc) hn
 ·exact absurd a a'
 ·rfl
theorem d6t {m : Machine} (hf : ∀ n ∈ b3g m, n.size <= maxLen) {l : List (List (List Literal))} (hl : l.length <= 1000) : ∃ e, b9x m l = some e /\ b7w m l e := by
 unfold b9x;obtain ⟨e, h1, h2⟩ := g5k hf;rw [h1, bS9];rcases h2 with ⟨rfl, ho⟩ | ⟨rfl, ho⟩
 case inr => exact ⟨41, rfl, .inr (.inl ⟨rfl, ho⟩)⟩
 rw [if_neg vh9]
 rcases b4j (f := c2i m l) (l := l) (p := fun _ c => ¬ b2s m true c) (e := .inr 42) (u := .inl ()) (b1o hl) (fun k x hx => by
   have hk := b1k hx;obtain ⟨b, h1, h2⟩ := d5p ho.z x;refine ⟨!b, ?_, by rw [<- h2]; simp⟩;unfold c2i
   simp only [b1h hx, bS9, Int.ofNat_lt, hk, decide_true, if_true, h1]) (by unfold c2i; simp only [Int.lt_irrefl, decide_false, fT9, if_false]) with ⟨h3, h4⟩ | ⟨⟨j, s, h3, h4⟩, h5⟩
 ·rw [h4];exact ⟨0, rfl, .inl ⟨rfl, ho, fun c hc => by obtain ⟨k, hk⟩ := b1d.1 hc; exact Classical.not_not.1 (h3 k c hk)⟩⟩
 ·rw [h5];exact ⟨42, rfl, .inr (.inr ⟨rfl, ho, s, b1d.2 ⟨j, h3⟩, h4⟩)⟩
theorem d5s {m : Machine} (hf : ∀ n ∈ b3g m, n.size <= maxLen) {l : List (List (List Literal))} (hl : l.length <= 1000) : ∃ e, c0v m l = some e /\ b7w m l e := by
 unfold c0v;obtain ⟨e, h1, h2⟩ := d5t hf;rw [h1, bS9];rcases h2 with ⟨rfl, ho⟩ | ⟨rfl, ho⟩
 case inr => exact ⟨41, rfl, .inr (.inl ⟨rfl, ho⟩)⟩
 rw [if_neg vh9]
 rcases b4j (f := p5t m l) (l := l) (p := fun _ c => ¬ b2s m true c) (e := .inr 42) (u := .inl ()) (b1o hl) (fun k x hx => by
   have hk := b1k hx;obtain ⟨b, h1, h2⟩ := d6x ho.z x true;refine ⟨!b, ?_, by rw [<- h2]; simp⟩;unfold p5t
   simp only [b1h hx, bS9, Int.ofNat_lt, hk, decide_true, if_true, h1]) (by unfold p5t; simp only [Int.lt_irrefl, decide_false, fT9, if_false]) with ⟨h3, h4⟩ | ⟨⟨j, s, h3, h4⟩, h5⟩
 ·rw [h4];exact ⟨0, rfl, .inl ⟨rfl, ho, fun c hc => by obtain ⟨k, hk⟩ := b1d.1 hc; exact Classical.not_not.1 (h3 k c hk)⟩⟩
 ·rw [h5];exact ⟨42, rfl, .inr (.inr ⟨rfl, ho, s, b1d.2 ⟨j, h3⟩, h4⟩)⟩
end Go.Nw.KM
namespace Go.Nw.KM
noncomputable section
def b56 (m : Machine) (i : Nat) : Int := match m.Counters[i]? with | some c => c.Max | none => 0
structure OkP (m : Machine) (p : Place) : Prop where
 s : In p.State m.States.length
 a : 0 <= p.Values.1 /\ p.Values.1 <= b56 m 0
 b : 0 <= p.Values.2 /\ p.Values.2 <= b56 m 1
def OkX (m : Machine) (x : Int) : Prop := In x (2 ^ m.Inputs.length)
def lit (m : Machine) (p : Place) (x : Int) (l : Literal) : Bool := (b77 ⟨m⟩ l p x).getD false
def b46 (m : Machine) (p : Place) (x : Int) (c : List (List Literal)) : Bool := c.any fun t => t.all (lit m p x)
def b22 (m : Machine) (p : Place) (x : Int) (c : List (List Literal)) : Bool := c.isEmpty || b46 m p x c
theorem c74 (p : Place) : Place.mk p.State (p.Values.1, p.Values.2) = p := rfl
theorem c2x {a b n : Int} (h : In n 2) : get [a, b] n = some (if n = 0 then a else b) := by
 obtain ⟨h0, h1⟩ := h;have : n = 0 \/ n = 1 := by omega
 rcases this with rfl | rfl <;> rfl
theorem g09 {m : Machine} (hs : SizesOk m) {p : Place} (hp : In p.State m.States.length) {x : Int} {l : Literal} {ins : Bool} (hl : b5a m ins l) :
  b77 ⟨m⟩ l p x = some (lit m p x l) /\ c1a m p x l = some (lit m p x l) := by
 have key : ∃ b, b77 ⟨m⟩ l p x = some b /\ c1a m p x l = some b := by
  have hi := hs.i; have ho := hs.o; have hc := hs.c
  unfold b77 c1a b6w b7q;rcases hl with ⟨hk, hn, _⟩ | ⟨hk, n, c, hn, hx, _⟩ | ⟨hk, _⟩ | ⟨hk, hn, _⟩
  ·obtain ⟨h0, h1⟩ := hn;simp only [hk, decide_true, if_true];rw [c9p h0 vf9, g29 h0];exact ⟨_, rfl, rfl⟩
  ·have hlt := b1k hx
   simp only [hk, Int.reduceEq, decide_false, fT9, if_false, decide_true, if_true];rw [c2x ⟨by omega, by omega⟩];exact ⟨_, rfl, rfl⟩
  ·simp only [hk, Int.reduceEq, decide_false, fT9, if_false, decide_true, if_true];exact ⟨_, rfl, rfl⟩
  ·obtain ⟨h0, h1⟩ := hn;obtain ⟨k, s, _, _, hg⟩ := d2l hp;simp only [hk, Int.reduceEq, decide_false, fT9, if_false, decide_true, if_true];rw [hg, bS9, bS9, c9p h0 vf9, g29 h0];exact ⟨_, rfl, rfl⟩
 obtain ⟨b, h1, h2⟩ := key;have : lit m p x l = b := by unfold lit; rw [h1]; rfl
 rw [this]; exact ⟨h1, h2⟩
theorem c5w {m : Machine} (hs : SizesOk m) {p : Place} (hp : In p.State m.States.length) {x : Int} {c : List (List Literal)} {ins : Bool} (hc : b2s m ins c) : b6v ⟨m⟩ c p x = some (b46 m p x c) := by
 unfold b6v
 obtain ⟨b, h1, h2⟩ := c20 (g := c9k c (fun z3 => b74 z3 ⟨m⟩ p x)) (s := c) (f := fun z3 => b74 z3 ⟨m⟩ p x) (p := fun t => t.all (lit m p x) = true) rfl (b1o (by have := hc.1; omega)) (fun t ht => by
  obtain ⟨b, h1, h2⟩ := c20 (g := b7t t (fun z3 => b76 z3 ⟨m⟩ p x)) (s := t) (f := fun z3 => b76 z3 ⟨m⟩ p x) (p := fun l => lit m p x l = false) rfl (b1o (by have := (hc.2 t ht).1; omega)) (fun l hl => by
   refine ⟨!(lit m p x l), ?_, by simp⟩;unfold b76
   rw [(g09 hs hp ((hc.2 t ht).2 l hl)).1]; rfl)
  refine ⟨!b, by unfold b74; rw [h1]; rfl, ?_⟩;rw [List.all_eq_true, Bool.not_eq_true', <- Bool.not_eq_true, h2];constructor
  ·exact fun h l hl => by
    cases hq : lit m p x l with
    | true => rfl
    | false => exact absurd ⟨l, hl, hq⟩ h
  ·rintro h ⟨l, hl, hq⟩; rw [h l hl] at hq; cases hq)
 rw [h1, bS9];congr 1;rw [Bool.eq_iff_iff, h2];unfold b46;rw [List.any_eq_true]
theorem c5x {m : Machine} (hs : SizesOk m) {p : Place} (hp : In p.State m.States.length) {x : Int} {c : List (List Literal)} {ins : Bool} (hc : b2s m ins c) : b7o m p x c = some (b46 m p x c) := by
 have inner : ∀ (i : Nat) t, c[i]? = some t -> b0w (c4e m p x c i) (true, 0) = some (t.all (lit m p x)) := fun i t ht => by
  have htm := hc.2 t (b1d.2 ⟨i, ht⟩);refine b4h t.length (fun s k => (s, k)) (fun k => (t.take k).all (lit m p x)) _ vh9 (fun k hk => ?_) ?_
  ·obtain ⟨l, hl⟩ := b3b hk;unfold c4e;simp only [b1h ht, b1h hl, bS9, Int.ofNat_lt, hk, decide_true, if_true];rw [(g09 hs hp (htm.2 l (b1d.2 ⟨k, hl⟩))).2, b2r hk (b1o vf9), List.take_add_one, hl];simp only [Option.toList_some, List.all_append, List.all_cons, List.all_nil, Bool.and_true]
   cases (t.take k).all (lit m p x) <;> simp
  ·unfold c4e;simp only [b1h ht, bS9, Int.lt_irrefl, decide_false, fT9, if_false, List.take_length]
 unfold b7o
 rcases b4j (f := c4d m p x c) (l := c) (p := fun _ t => t.all (lit m p x) = true) (e := .inr true) (u := .inl ()) (b1o (by have := hc.1; omega)) (fun k t ht => by
   have hk := b1k ht;refine ⟨t.all (lit m p x), ?_, Iff.rfl⟩;unfold c4d c8f c8e;simp only [Int.ofNat_lt, hk, decide_true, if_true]
   rw [inner k t ht]; rfl) (by unfold c4d; simp only [Int.lt_irrefl, decide_false, fT9, if_false]) with ⟨h1, h2⟩ | ⟨⟨k, t, h1, h2⟩, h3⟩
 ·rw [h2, bS9];show some false = _
  congr 1;symm;unfold b46;rw [List.any_eq_false];intro t ht;obtain ⟨k, hk⟩ := b1d.1 ht;exact h1 k t hk
 ·rw [h3, bS9];show some true = _
  congr 1;symm;unfold b46;exact List.any_eq_true.2 ⟨t, b1d.2 ⟨k, h1⟩, h2⟩
theorem g5i {m : Machine} (hs : SizesOk m) {p : Place} (hp : In p.State m.States.length) {x : Int} {c : List (List Literal)} {ins : Bool} (hc : b2s m ins c) : c1z ⟨m⟩ c p x = some (b22 m p x c) := by
 unfold c1z b22
 cases c with
 | nil => rfl
 | cons t r =>
  rw [if_neg vi9, c5w hs hp hc]; rfl
theorem d5o {m : Machine} (hs : SizesOk m) {p : Place} (hp : In p.State m.States.length) {x : Int} {c : List (List Literal)} {ins : Bool} (hc : b2s m ins c) : c0t m p x c = some (b22 m p x c) := by
 unfold c0t b22
 cases c with
 | nil => rfl
 | cons t r =>
  rw [if_neg vi9, c5x hs hp hc]; rfl
theorem d71 {α β : Type} {f : Int -> Option (Out Int β)} {l : List α} {p : α -> Bool} {e : α -> β} {u : β} (hl : l.length <= maxLen)
  (h : ∀ (k : Nat) x, l[k]? = some x -> f k = (if p x = true then some (.br (e x)) else some (.nx (wr ((k : Int) + 1))))) (fin : f (l.length : Int) = some (.br u)) :
  b0w f 0 = some (match l.find? p with | some x => e x | none => u) := by
 refine j7v (σ := Unit) l (fun _ k => k) (fun r _ => match r.find? p with | some x => e x | none => u) (fun _ _ => True) (fun _ k x r hd hx hlt hm _ => ?_) (fun _ _ => fin) (s := ()) trivial
 have hxk : l[k]? = some x := by
  have := b8j hx; simpa using this
 rw [h k x hxk]
 cases hp : p x with
 | true => exact .inr (by simp [List.find?, hp])
 | false => exact .inl ⟨(), by rw [if_neg vh9, b2r (b1k hxk) hl], trivial, by simp [List.find?, hp]⟩
def b7e (m : Machine) (p : Place) (x : Int) (r : Rule) : Bool := (decide (r.From = -1) || decide (r.From = p.State)) && b46 m p x r.When
def b5v (m : Machine) (s : Set) (old : Int) : Int := if s.Kind = 1 then 0 else if s.Kind = 2 then mn (old + 1) (b56 m s.Counter.toNat) else mx (old - 1) 0
def b38 (m : Machine) (v : Int × Int) (s : Set) : Int × Int := if s.Counter = 0 then (b5v m s v.1, v.2) else (v.1, b5v m s v.2)
def nxt (m : Machine) (p : Place) (x : Int) : Place := match m.Rules.find? (b7e m p x) with
 | some r => ⟨r.To, r.Sets.foldl (b38 m) p.Values⟩
 | none => p
def OkV (m : Machine) (v : Int × Int) : Prop := (0 <= v.1 /\ v.1 <= b56 m 0) /\ (0 <= v.2 /\ v.2 <= b56 m 1)
theorem b57 {m : Machine} (hc : ∀ c ∈ m.Counters, 1 <= c.Max /\ c.Max <= 7) (i : Nat) : 0 <= b56 m i /\ b56 m i <= 7 := by
 unfold b56
 cases h : m.Counters[i]? with
 | none => simp
 | some c => have := hc c (b1d.2 ⟨i, h⟩); simp only; omega
def c1s (m : Machine) (s : Set) : Prop := (1 <= s.Kind /\ s.Kind <= 3) /\ In s.Counter m.Counters.length
theorem l5e {m : Machine} (hm : OkM m) {s : Set} (hs : c1s m s) {v : Int × Int} (hv : OkV m v) : OkV m (b38 m v s) := by
 obtain ⟨⟨h1, h2⟩, h3⟩ := hv;have m0 := b57 hm.c 0; have m1 := b57 hm.c 1
 have hc := hm.z.c;obtain ⟨⟨k1, k2⟩, c0, c1⟩ := hs;unfold b38;have hcn : s.Counter = 0 \/ s.Counter = 1 := by omega
 rcases hcn with e | e
 ·rw [if_pos e];refine ⟨?_, h3⟩;unfold b5v;rw [e, g1r, g10];simp only [Int.toNat_zero];split
  ·omega
  ·split <;> omega
 ·rw [if_neg vf9];refine ⟨⟨h1, h2⟩, ?_⟩;unfold b5v;rw [e, g1r, g10];simp only [show Int.toNat 1 = 1 from rfl];split
  ·omega
  ·split <;> omega
theorem c63 {m : Machine} (hm : OkM m) : ∀ (l : List Set), (∀ s ∈ l, c1s m s) -> ∀ {v : Int × Int}, OkV m v -> OkV m (l.foldl (b38 m) v)
 | [], _, v, hv => hv
 | s :: l, hl, v, hv => c63 hm l (fun x hx => hl x (List.mem_cons_of_mem _ hx)) (l5e hm (hl s List.mem_cons_self) hv)
theorem s1f {m : Machine} (hm : OkM m) {p : Place} (hp : OkP m p) (x : Int) : OkP m (nxt m p x) := by
 unfold nxt
 cases h : m.Rules.find? (b7e m p x) with
 | none => exact hp
 | some r =>
  have hr := hm.r r (List.mem_of_find?_eq_some h);have hv := c63 hm r.Sets hr.s (v := p.Values) ⟨hp.a, hp.b⟩;exact ⟨hr.t, hv.1, hv.2⟩
theorem g26 {m : Machine} (hm : OkM m) {s : Set} (hs : c1s m s) {v : Int × Int} (hv : OkV m v) (w : Int) (hw : w = b5v m s (if s.Counter = 0 then v.1 else v.2)) : (b1n s.Counter 0 w v.1, b1n s.Counter 1 w v.2) = b38 m v s := by
 have hc := hm.z.c;obtain ⟨_, c0, c1⟩ := hs;have hcn : s.Counter = 0 \/ s.Counter = 1 := by omega
 subst hw;unfold b38 b1n;rcases hcn with e | e <;> simp [e]
theorem d61 {m : Machine} {s : Set} (hs : c1s m s) : ∃ c, get m.Counters s.Counter = some c /\ b56 m s.Counter.toNat = c.Max := by
 obtain ⟨k, c, hk, hx, hg⟩ := d2l hs.2;refine ⟨c, hg, ?_⟩;rw [hk]; unfold b56;simp [hx]
theorem l5i {m : Machine} (hm : OkM m) {s : Set} (hs : c1s m s) {p : Place} (hv : OkV m p.Values) : r1b ⟨m⟩ s p = some ⟨p.State, b38 m p.Values s⟩ := by
 have hc := hm.z.c;obtain ⟨⟨h1, h2⟩, h3, h4⟩ := hv;have m0 := b57 hm.c 0; have m1 := b57 hm.c 1
 have hin : In s.Counter 2 := by have := hs.2; unfold In at *; omega
 have hold : -1 < (if s.Counter = 0 then p.Values.1 else p.Values.2) /\ (if s.Counter = 0 then p.Values.1 else p.Values.2) < 8 := by split <;> omega
 have key := fun w hw => g26 hm hs (v := p.Values) ⟨⟨h1, h2⟩, h3, h4⟩ w hw;unfold r1b;rw [c2x hin, bS9];obtain ⟨c, hg, hmx⟩ := d61 hs;obtain ⟨⟨k1, k2⟩, _⟩ := hs;have hk : s.Kind = 1 \/ s.Kind = 2 \/ s.Kind = 3 := by omega
 rcases hk with e | e | e
 ·simp only [e, decide_true, if_true];rw [key 0 (by unfold b5v; rw [if_pos e])]
 ·simp only [e, Int.reduceEq, decide_false, fT9, if_false, decide_true, if_true];rw [hg, bS9, b3t vf9 vf9, key _ (by unfold b5v; rw [if_neg (show ¬ s.Kind = 1 by omega), if_pos e, hmx])]
 ·simp only [e, Int.reduceEq, decide_false, fT9, if_false, decide_true, if_true];rw [b3t vf9 vf9, key _ (by unfold b5v; rw [if_neg (show ¬ s.Kind = 1 by omega), if_neg (show ¬ s.Kind = 2 by omega)])]
theorem j06 {m : Machine} {r : Rule} (hr : OkRule m r) {p : Place} : (decide (¬r.From = (-1)) && decide (¬r.From = p.State)) = !(decide (r.From = -1) || decide (r.From = p.State)) := by
 by_cases h1 : r.From = -1 <;> by_cases h2 : r.From = p.State <;> simp [h1, h2]
theorem g5u {m : Machine} (hm : OkM m) {p : Place} (hp : OkP m p) (x : Int) : r7y ⟨m⟩ p x = some (nxt m p x) := by
 have hr := hm.z.r
 have inner : ∀ r ∈ m.Rules, b0w (c11 ⟨m⟩ r) (p.State, p.Values.1, p.Values.2, 0) = some (p.State, (r.Sets.foldl (b38 m) p.Values).1, (r.Sets.foldl (b38 m) p.Values).2) := fun r hrm => by
  have ho := hm.r r hrm;refine b4h r.Sets.length (fun (s : Int × Int) k => (p.State, s.1, s.2, k)) (fun k => (r.Sets.take k).foldl (b38 m) p.Values) _ vh9 (fun k hk => ?_) ?_
  ·obtain ⟨s, hs⟩ := b3b hk;have hv := c63 hm (r.Sets.take k) (fun s hs => ho.s s (List.mem_of_mem_take hs)) (v := p.Values) ⟨hp.a, hp.b⟩;unfold c11;simp only [b1h hs, bS9, Int.ofNat_lt, hk, decide_true, if_true];rw [l5i hm (ho.s s (b1d.2 ⟨k, hs⟩)) hv, bS9, b2r hk (b1o (by have := ho.n; omega)), List.take_add_one, hs];simp
  ·unfold c11;simp only [Int.lt_irrefl, decide_false, fT9, if_false, List.take_length]
 unfold r7y c6h
 rw [d71 (l := m.Rules) (p := b7e m p x) (e := fun r => (r.To, (r.Sets.foldl (b38 m) p.Values).1, (r.Sets.foldl (b38 m) p.Values).2)) (u := (p.State, p.Values.1, p.Values.2)) (b1o vf9) (fun k r hrk => by
   have hk := b1k hrk;have hrm := b1d.2 ⟨k, hrk⟩;unfold c6f c6i c6g;simp only [b1h hrk, bS9, Int.ofNat_lt, hk, decide_true, if_true];rw [j06 (hm.r r hrm), c74, c5w hm.z hp.s (hm.r r hrm).w];unfold b7e
   cases hfr : (decide (r.From = -1) || decide (r.From = p.State)) with
   | false => simp
   | true =>
    cases hh : b46 m p x r.When with
    | false => simp
    | true => simp [inner r hrm]) (by unfold c6f; simp only [Int.lt_irrefl, decide_false, fT9, if_false])]
 unfold nxt
 cases m.Rules.find? (b7e m p x) <;> rfl
theorem d5u {m : Machine} (hm : OkM m) {p : Place} (hp : OkP m p) (x : Int) : c0w m p x = some (nxt m p x) := by
 have hr := hm.z.r
 have inner : ∀ r ∈ m.Rules, b0w (c4f m r) (p.Values.1, p.Values.2, 0) = some ((r.Sets.foldl (b38 m) p.Values).1, (r.Sets.foldl (b38 m) p.Values).2) := fun r hrm => by
  have ho := hm.r r hrm;refine b4h r.Sets.length (fun (s : Int × Int) k => (s.1, s.2, k)) (fun k => (r.Sets.take k).foldl (b38 m) p.Values) _ vh9 (fun k hk => ?_) ?_
  ·obtain ⟨s, hs⟩ := b3b hk;have hv := c63 hm (r.Sets.take k) (fun s hs => ho.s s (List.mem_of_mem_take hs)) (v := p.Values) ⟨hp.a, hp.b⟩;have hso := ho.s s (b1d.2 ⟨k, hs⟩);have hin : In s.Counter 2 := by have := hso.2; have := hm.z.c; unfold In at *; omega
   rw [List.take_add_one, hs];simp only [Option.toList_some, List.foldl_append, List.foldl_cons, List.foldl_nil];generalize (r.Sets.take k).foldl (b38 m) p.Values = v at hv;have m0 := b57 hm.c 0; have m1 := b57 hm.c 1
   have key := fun w hw => g26 hm hso hv w hw;obtain ⟨⟨h1, h2⟩, h3, h4⟩ := hv;have hold : -1 < (if s.Counter = 0 then v.1 else v.2) /\ (if s.Counter = 0 then v.1 else v.2) < 8 := by split <;> omega
   obtain ⟨c, hg, hmx⟩ := d61 hso;obtain ⟨⟨k1, k2⟩, _⟩ := hso;have hk3 : s.Kind = 1 \/ s.Kind = 2 \/ s.Kind = 3 := by omega
   unfold c4f b8x;simp only [b1h hs, bS9, Int.ofNat_lt, hk, decide_true, if_true];rw [b2r hk (b1o (by have := ho.n; omega))];rcases hk3 with e | e | e
   ·simp only [e, decide_true, if_true];rw [c2x hin, bS9, <- key 0 (by unfold b5v; rw [if_pos e])]
   ·simp only [e, Int.reduceEq, decide_false, fT9, if_false, decide_true, if_true];rw [c2x hin, bS9, hg, bS9, b3t vf9 vf9, <- key _ (by unfold b5v; rw [if_neg (show ¬ s.Kind = 1 by omega), if_pos e, hmx])]
   ·simp only [e, Int.reduceEq, decide_false, fT9, if_false, decide_true, if_true];rw [c2x hin, bS9, b3t vf9 vf9, <- key _ (by unfold b5v; rw [if_neg (show ¬ s.Kind = 1 by omega), if_neg (show ¬ s.Kind = 2 by omega)])]
  ·unfold c4f;simp only [Int.lt_irrefl, decide_false, fT9, if_false, List.take_length]
 unfold c0w c8i
 rw [d71 (l := m.Rules) (p := b7e m p x) (e := fun r => .inr ⟨r.To, r.Sets.foldl (b38 m) p.Values⟩) (u := .inl ()) (b1o vf9) (fun k r hrk => by
   have hk := b1k hrk;have hrm := b1d.2 ⟨k, hrk⟩;have hfr0 := (hm.r r hrm).f;unfold c8g c8j c8h;simp only [b1h hrk, bS9, Int.ofNat_lt, hk, decide_true, if_true]
   have e0 : (decide (0 <= r.From) && decide (¬r.From = p.State)) = !(decide (r.From = -1) || decide (r.From = p.State)) := by
    by_cases h1 : r.From = -1
    ·simp [h1]
    ·by_cases h2 : r.From = p.State
     ·simp [h2]
     ·have : 0 <= r.From := by omega
      simp [h1, h2, this]
   rw [e0, c5x hm.z hp.s (hm.r r hrm).w];unfold b7e
   cases hfr : (decide (r.From = -1) || decide (r.From = p.State)) with
   | false => simp
   | true =>
    cases hh : b46 m p x r.When with
    | false => simp
    | true => simp [inner r hrm]) (by unfold c8g; simp only [Int.lt_irrefl, decide_false, fT9, if_false])]
 unfold nxt
 cases m.Rules.find? (b7e m p x) <;> rfl
end
end Go.Nw.KM
namespace Go.Nw.KM
noncomputable section
theorem d4k : ∀ (n : Nat) (l : List Nat), l.Nodup -> (∀ x ∈ l, x < n) -> l.length <= n
 | 0, l, _, h => by
  cases l with
  | nil => simp
  | cons a l => exact absurd (h a List.mem_cons_self) vf9
 | n + 1, l, hn, h => by
  by_cases hm : n ∈ l
  ·have h1 := d4k n (l.erase n) (hn.erase n) (fun x hx => by
    have := (hn.mem_erase_iff).1 hx;have := h x this.2
    omega)
   rw [List.length_erase_of_mem hm] at h1;omega
  ·have := d4k n l hn (fun x hx => by
    have := h x hx;have : x ≠ n := fun e => hm (e ▸ hx)
    omega)
   omega
theorem l1z {α β : Type} {f : α -> β} {l : List α} (hn : l.Nodup) (hf : ∀ a ∈ l, ∀ b ∈ l, f a = f b -> a = b) : (l.map f).Nodup := by
 unfold List.Nodup at *
 rw [List.pairwise_map];refine List.Pairwise.imp_of_mem ?_ hn;intro a b ha hb hne e;exact hne (hf a ha b hb e)
def zero : Place := ⟨0, (0, 0)⟩
theorem o5b {m : Machine} (hm : OkM m) : OkP m zero := by
 have := hm.z.s;exact ⟨⟨by simp [zero], by simp [zero]; omega⟩, ⟨Int.le_refl _, (b57 hm.c 0).1⟩, ⟨Int.le_refl _, (b57 hm.c 1).1⟩⟩
theorem c0q {m : Machine} (hm : OkM m) {l : List Place} (hn : l.Nodup) (ho : ∀ p ∈ l, OkP m p) : l.length <= 768 := by
 have hb : ∀ p ∈ l, 0 <= p.State /\ p.State < 12 /\ 0 <= p.Values.1 /\ p.Values.1 <= 7 /\ 0 <= p.Values.2 /\ p.Values.2 <= 7 := fun p hp => by
  have h := ho p hp;have hs := hm.z.s;have := h.s; have := h.a; have := h.b; have := b57 hm.c 0; have := b57 hm.c 1
  unfold In at *
  omega
 have h1 := d4k 768 (l.map fun p => (p.State * 64 + p.Values.1 * 8 + p.Values.2).toNat) (l1z hn fun p hp q hq e => by
   have := hb p hp; have := hb q hq
   obtain ⟨s, a, b⟩ := p; obtain ⟨s', a', b'⟩ := q;simp only at *
   have e1 : s = s' := by omega
   have e2 : a = a' := by omega
   have e3 : b = b' := by omega
   subst e1; subst e2; subst e3; rfl) (fun x hx => by
   obtain ⟨p, hp, rfl⟩ := List.mem_map.1 hx;have := hb p hp
   omega)
 simpa using h1
abbrev S3 := List Place × List Int × List Int
def b5l (s : S3) (i x : Nat) (q : Place) : S3 := if q ∈ s.1 then s else (s.1 ++ [q], s.2.1 ++ [(i : Int)], s.2.2 ++ [(x : Int)])
section
variable (m : Machine) (c : List (List Literal)) (hd : Nat -> Int)
def inn (i : Nat) (p : Place) : Nat -> S3 -> S3
 | 0, s => s
 | x + 1, s => if b22 m p x c = true then b5l (inn i p x s) i x (nxt m p (hd x)) else inn i p x s
def b0h : Nat -> S3
 | 0 => ([zero], [-1], [0])
 | k + 1 => match (b0h k).1[k]? with | some p => inn m c hd k p (2 ^ m.Inputs.length) (b0h k) | none => b0h k
end
variable {m : Machine} {c : List (List Literal)} {hd : Nat -> Int}
structure Good (m : Machine) (s : S3) : Prop where
 n : s.1.Nodup
 o : ∀ p ∈ s.1, OkP m p
 b : s.2.1.length = s.1.length
 i : s.2.2.length = s.1.length
theorem g5z {s : S3} (h : Good m s) {i x : Nat} {q : Place} (hq : OkP m q) : Good m (b5l s i x q) := by
 unfold b5l;split
 ·exact h
 ·rename_i hn;refine ⟨?_, fun p hp => ?_, by simp [h.b], by simp [h.i]⟩
  ·rw [List.nodup_append];exact ⟨h.n, by simp, fun a ha b hb e => by simp at hb; subst hb; exact hn (e ▸ ha)⟩
  ·rcases List.mem_append.1 hp with hp | hp
   ·exact h.o p hp
   ·simp at hp; subst hp; exact hq
theorem d5y (s : S3) (i x : Nat) (q : Place) : s.1 <+: (b5l s i x q).1 := by
 unfold b5l; split
 ·exact List.prefix_refl _
 ·exact List.prefix_append _ _
theorem g50 (s : S3) (i x : Nat) (q : Place) : q ∈ (b5l s i x q).1 := by
 unfold b5l; split
 ·assumption
 ·simp
theorem c0g (hm : OkM m) {i : Nat} {p : Place} (hp : OkP m p) : ∀ (x : Nat) {s : S3}, Good m s -> Good m (inn m c hd i p x s)
 | 0, s, h => h
 | x + 1, s, h => by
  unfold inn; split
  ·exact g5z (c0g hm hp x h) (s1f hm hp _)
  ·exact c0g hm hp x h
theorem c3a {i : Nat} {p : Place} : ∀ (x : Nat) {s : S3}, s.1 <+: (inn m c hd i p x s).1
 | 0, s => List.prefix_refl _
 | x + 1, s => by
  unfold inn; split
  ·exact (c3a x).trans (d5y _ _ _ _)
  ·exact c3a x
theorem d2m {i : Nat} {p : Place} {j : Nat} (ha : b22 m p j c = true) : ∀ (x : Nat) {s : S3}, j < x -> nxt m p (hd j) ∈ (inn m c hd i p x s).1
 | 0, s, h => by omega
 | x + 1, s, h => by
  by_cases e : j = x
  ·subst e; unfold inn; rw [if_pos ha]; exact g50 _ _ _ _
  ·have ih := d2m (i := i) ha x (s := s) vf9
   unfold inn; split
   ·exact (d5y _ _ _ _).subset ih
   ·exact ih
theorem s3t (hm : OkM m) : ∀ k, Good m (b0h m c hd k)
 | 0 => ⟨by simp [b0h], fun p hp => by simp [b0h] at hp; subst hp; exact o5b hm, rfl, rfl⟩
 | k + 1 => by
  have ih := s3t hm k;unfold b0h;split
  ·rename_i p hp; exact c0g hm (ih.o p (b1d.2 ⟨k, hp⟩)) _ ih
  ·exact ih
theorem c3y (k : Nat) : (b0h m c hd k).1 <+: (b0h m c hd (k + 1)).1 := by
 conv => rhs; unfold b0h
 split
 ·exact c3a _
 ·exact List.prefix_refl _
theorem d4g {j k : Nat} (h : j <= k) : (b0h m c hd j).1 <+: (b0h m c hd k).1 := by
 induction k with
 | zero => have : j = 0 := by omega
           subst this; exact List.prefix_refl _
 | succ k ih =>
  by_cases e : j = k + 1
  ·subst e; exact List.prefix_refl _
  ·exact (ih vf9).trans (c3y k)
theorem g2u (hm : OkM m) : ∃ K, K <= 768 /\ (∀ k, k < K -> k < (b0h m c hd k).1.length) /\ (b0h m c hd K).1.length <= K := by
 have hb : ∀ k, (b0h m c hd k).1.length <= 768 := fun k => c0q hm (s3t hm k).n (s3t hm k).o
 have key : ∀ d, (∃ K, K <= d /\ (∀ k, k < K -> k < (b0h m c hd k).1.length) /\ (b0h m c hd K).1.length <= K) \/ ∀ k, k <= d -> k < (b0h m c hd k).1.length := by
  intro d;induction d with
  | zero =>
   by_cases h : (b0h m c hd 0).1.length <= 0
   ·exact .inl ⟨0, Nat.le_refl _, fun k hk => by omega, h⟩
   ·exact .inr fun k hk => by have : k = 0 := by omega
                              subst this; omega
  | succ d ih =>
   rcases ih with ⟨K, h1, h2⟩ | h
   ·exact .inl ⟨K, by omega, h2⟩
   ·by_cases h' : (b0h m c hd (d + 1)).1.length <= d + 1
    ·exact .inl ⟨d + 1, Nat.le_refl _, fun k hk => h k vf9, h'⟩
    ·exact .inr fun k hk => by
      by_cases e : k = d + 1
      ·subst e; omega
      ·exact h k vf9
 rcases key 768 with h | h
 ·exact h
 ·have := h 768 (Nat.le_refl _); have := hb 768; omega
theorem c0r {α : Type} {l r : List α} (h : l <+: r) {k : Nat} {x : α} (hx : l[k]? = some x) : r[k]? = some x := by
 obtain ⟨t, rfl⟩ := h;rw [List.getElem?_append_left (b1k hx)]; exact hx
theorem g0i {l : List Place} (hl : l.length <= 1000) (q : Place) : c08 l q = some (if q ∈ l then (l.idxOf q : Int) else -1) := by
 unfold c08
 rcases g1j (f := c09 l q) l (fun (_ : Unit) k => k) (fun _ => ()) (fun _ x => x = q) (.inr (l.idxOf q : Int)) (.inl ()) (fun k x hprev hx hb => by
   have hk := b1k hx;subst hb;unfold c09;simp only [b1h hx, bS9, Int.ofNat_lt, hk, decide_true, if_true];have hm : x ∈ l := b1d.2 ⟨k, hx⟩;have hlt := List.idxOf_lt_length_iff.2 hm
   have e : l.idxOf x = k := by
    rcases Nat.lt_trichotomy (l.idxOf x) k with h | h | h
    ·have h2 : l[l.idxOf x]? = some x := by rw [gG9 hlt, List.getElem_idxOf]
     exact absurd rfl (hprev _ _ h h2)
    ·exact h
    ·exfalso;have hxx : l[k] = x := by have := gG9 hk; rw [hx] at this; exact (Option.some.inj this).symm
     have hh := List.not_of_lt_findIdx (p := (· == x)) (xs := l) h;rw [hxx] at hh;simp at hh
   rw [e]) (fun k x hprev hx hb => by
   have hk := b1k hx;unfold c09;simp only [b1h hx, bS9, Int.ofNat_lt, hk, decide_true, if_true, hb, decide_false, fT9, if_false]
   rw [b2r hk (b1o hl)]) (by unfold c09; simp only [Int.lt_irrefl, decide_false, fT9, if_false]) (s0 := ()) rfl with ⟨h1, h2⟩ | ⟨⟨k, x, h1, h2⟩, h3⟩
 ·rw [h2, if_neg (fun h => by obtain ⟨k, hk⟩ := b1d.1 h; exact h1 k q hk rfl)]; rfl
 ·rw [h3, if_pos (b1d.2 ⟨k, h2 ▸ h1⟩)]; rfl
theorem b9j {m : Machine} (hs : SizesOk m) : c03 m = some ((2 ^ m.Inputs.length : Nat) : Int) := by
 have := hs.i;unfold c03;rw [c9p vf9 vf9, c83 vf9];simp
theorem p2a {m : Machine} (hs : SizesOk m) : 2 ^ m.Inputs.length <= 16 := Nat.pow_le_pow_right (n := 2) vf9 hs.i
theorem b6d {α : Type} {b : Nat} {l m : List α} (hl : l.length <= 1000) (hm : m.length <= 1000) (hb : b <= 1000) : ap b l m = some (l ++ m) := b9k (by
 have : (l.length + m.length) * b <= 2000 * 1000 := Nat.mul_le_mul vf9 hb
 omega)
theorem j50 (hm : OkM m) {ins : Bool} (hc : b2s m ins c) {inp val : Int} (hh : ∀ x : Nat, x < 2 ^ m.Inputs.length -> b6a x inp val = some (hd x)) {i : Nat} {p : Place} (hp : OkP m p) {s : S3} (hg : Good m s) (hi : s.1[i]? = some p) :
  b0w (c4k m c inp val i) (s.1, s.2.1, s.2.2, 0) = some (inn m c hd i p (2 ^ m.Inputs.length) s) := by
 have hpow := p2a hm.z;refine b4h (2 ^ m.Inputs.length) (fun (s : S3) k => (s.1, s.2.1, s.2.2, k)) (fun k => inn m c hd i p k s) _ rfl (fun k hk => ?_) ?_
 ·have hg' := c0g (c := c) (hd := hd) (i := i) hm hp k hg
  have hi' := c0r (c3a (m := m) (c := c) (hd := hd) (i := i) (p := p) k (s := s)) hi;have hlen := c0q hm hg'.n hg'.o;have hb := hg'.b; have hin := hg'.i
  conv => rhs; unfold inn
  unfold c4k c07;simp only [b9j hm.z, bS9, Int.ofNat_lt, hk, decide_true, if_true, b1h hi', bS9];rw [d5o hm.z hp.s hc, bS9, b2r hk (b1o vf9)]
  cases ha : b22 m p k c with
  | false => simp
  | true =>
   simp only [Bool.not_true, fT9, if_false, if_true];rw [hh k hk, bS9, d5u hm hp, bS9, c74, g0i vf9, bS9];unfold b5l;by_cases hq : nxt m p (hd k) ∈ (inn m c hd i p k s).1
   ·rw [if_pos hq, if_pos hq, if_neg vh9]
   ·rw [if_neg hq, if_neg hq, if_pos vh9, b6d vf9 vh9 vf9, bS9, b6d vf9 vh9 vf9, bS9, b6d vf9 vh9 vf9, bS9]
 ·unfold c4k;simp only [b9j hm.z, bS9, Int.lt_irrefl, decide_false, fT9, if_false]
def End (m : Machine) (c : List (List Literal)) (hd : Nat -> Int) (K : Nat) : Prop := K <= 768 /\ (∀ k, k < K -> k < (b0h m c hd k).1.length) /\ (b0h m c hd K).1.length <= K
theorem d7v (hm : OkM m) {ins : Bool} (hc : b2s m ins c) {inp val : Int} (hh : ∀ x : Nat, x < 2 ^ m.Inputs.length -> b6a x inp val = some (hd x)) {K : Nat} (hK : End m c hd K) :
  b8z m c inp val = some ⟨(b0h m c hd K).1, (b0h m c hd K).2.1, (b0h m c hd K).2.2⟩ := by
 obtain ⟨hK0, hK1, hK2⟩ := hK;unfold b8z c8q
 have := b4h (f := c06 m c inp val) K (fun (s : S3) k => (s.1, s.2.1, s.2.2, k)) (fun k => b0h m c hd k) (b0h m c hd K) (s0 := ([zero], [-1], [0])) rfl (fun k hk => by
   have hlt := hK1 k hk;obtain ⟨p, hp⟩ := b3b hlt;have hg := s3t (c := c) (hd := hd) hm k;unfold c06 c8r;simp only [Int.ofNat_lt, hlt, decide_true, if_true];rw [j50 hm hc hh (hg.o p (b1d.2 ⟨k, hp⟩)) hg hp, bS9, b2r hk (b1o vf9)]
   conv => rhs; unfold b0h
   rw [hp]) (by
   unfold c06;have : ¬ K < (b0h m c hd K).1.length := by omega
   simp only [Int.ofNat_lt, this, decide_false, fT9, if_false])
 show (b0w (c06 m c inp val) ([zero], [-1], [0], 0)).bind _ = _
 rw [this]; rfl
end
end Go.Nw.KM
namespace Go.Nw.KM
noncomputable section
def fnd (l : List Place) : List (Place × Int) := l.zipIdx.map fun p => (p.1, (p.2 : Int))
theorem d12 (l : List Place) : (fnd l).map (·.1) = l := by
 unfold fnd;rw [List.map_map];have : ((fun x : Place × Int => x.1) ∘ fun p : Place × Nat => (p.1, (p.2 : Int))) = Prod.fst := rfl;rw [this, List.zipIdx_map_fst]
theorem j02 (l : List Place) (q : Place) : fnd (l ++ [q]) = fnd l ++ [(q, (l.length : Int))] := by
 unfold fnd;rw [List.zipIdx_append];simp
theorem d2b {l : List Place} {q : Place} (h : q ∈ l) : l[l.idxOf q]? = some q := by
 have hlt := List.idxOf_lt_length_iff.2 h;rw [gG9 hlt, List.getElem_idxOf]
theorem j03 {l : List Place} {q : Place} (hn : l.Nodup) (h : q ∈ l) : b2w (fnd l) q 0 = (l.idxOf q : Int) := by
 refine j76 (j := l.idxOf q) (by rw [d12]; exact hn) ?_;unfold fnd;rw [List.getElem?_map, List.getElem?_zipIdx, d2b h];simp
theorem d74 {l : List Place} {q : Place} : b6m (fnd l) q = true ↔ q ∈ l := by rw [j78, d12]
theorem j4z {l r : List Place} (h : l <+: r) {q : Place} (hq : q ∈ l) : r.idxOf q = l.idxOf q := by
 obtain ⟨t, rfl⟩ := h;rw [List.idxOf_append, if_pos hq]
section
variable (m : Machine) (c : List (List Literal)) (hd : Nat -> Int)
def rv (P : List Place) (p : Place) (j : Nat) : Int := if b22 m p j c = true then (P.idxOf (nxt m p (hd j)) : Int) else -1
def b8r (P : List Place) (k : Nat) : List (List Int) := tab k fun i => tab (2 ^ m.Inputs.length) (rv m c hd P (P.getD i zero))
end
variable {m : Machine} {c : List (List Literal)} {hd : Nat -> Int}
theorem g24 {P Q : List Place} (h : P <+: Q) {p : Place} {j : Nat} (hq : b22 m p j c = true -> nxt m p (hd j) ∈ P) : rv m c hd Q p j = rv m c hd P p j := by
 unfold rv;split
 ·rename_i ha; rw [j4z h (hq ha)]
 ·rfl
theorem j0z {α : Type} {n k : Nat} {f g : Nat -> α} {z : α} (h : ∀ i, i < k -> f i = g i) : fill n f z k = fill n g z k := by
 unfold fill;refine c1m fun i _ => ?_;split
 ·exact h i (by assumption)
 ·rfl
theorem j5z (hm : OkM m) {ins : Bool} (hc : b2s m ins c) {heard : Int -> Option Int} (hh : ∀ x : Nat, x < 2 ^ m.Inputs.length -> heard x = some (hd x)) {i : Nat} {p : Place} (hp : OkP m p) {s : S3} (hg : Good m s) :
  b0w (c1u ⟨⟨m⟩⟩ c heard i p (tab (2 ^ m.Inputs.length) fun _ => (0 : Int))) (s.1, s.2.1, s.2.2, fnd s.1, tab (2 ^ m.Inputs.length) (fun _ => (0 : Int)), 0) =
   some ((inn m c hd i p (2 ^ m.Inputs.length) s).1, (inn m c hd i p (2 ^ m.Inputs.length) s).2.1, (inn m c hd i p (2 ^ m.Inputs.length) s).2.2, fnd (inn m c hd i p (2 ^ m.Inputs.length) s).1, tab (2 ^ m.Inputs.length) (rv m c hd (inn m c hd i p (2 ^ m.Inputs.length) s).1 p)) := by
 have hpow := p2a hm.z
 refine b4h (2 ^ m.Inputs.length) (fun (s : S3 × List Int) k => (s.1.1, s.1.2.1, s.1.2.2, fnd s.1.1, s.2, k)) (fun k => (inn m c hd i p k s, fill (2 ^ m.Inputs.length) (rv m c hd (inn m c hd i p k s).1 p) 0 k)) _ (s0 := (s, tab (2 ^ m.Inputs.length) fun _ => (0 : Int))) (by
   rw [show inn m c hd i p 0 s = s from rfl, <- d1w, p6y]) (fun k hk => ?_) ?_
 ·have hg' := c0g (c := c) (hd := hd) (i := i) hm hp k hg
  have hlen := c0q hm hg'.n hg'.o;have hb := hg'.b; have hin := hg'.i
  have hmem : ∀ j, j < k -> b22 m p j c = true -> nxt m p (hd j) ∈ (inn m c hd i p k s).1 := fun j hj ha => d2m ha k hj
  conv => rhs; unfold inn
  unfold c1u c1w c1v;simp only [b3y, Int.ofNat_lt, hk, decide_true, if_true, d15 hk, bS9, c74, Int.toNat_natCast];rw [g5i hm.z hp.s hc, bS9, b2r hk (b1o vf9)]
  have gs : ∀ v : Int, get (List.set (fill (2 ^ m.Inputs.length) (rv m c hd (inn m c hd i p k s).1 p) 0 k) k v) (k : Int) = some v := fun v => by
   refine b1h ?_;rw [List.getElem?_set, if_pos rfl, if_pos (by rw [d7z]; exact hk)]
  cases ha : b22 m p k c with
  | false =>
   simp only [Bool.not_false, if_true, fT9, if_false];rw [c2r (by unfold rv; rw [if_neg (by simp [ha])])]
  | true =>
   simp only [Bool.not_true, fT9, if_false, if_true];rw [hh k hk, bS9, g5u hm hp, bS9];unfold b5l;by_cases hq : nxt m p (hd k) ∈ (inn m c hd i p k s).1
   ·rw [if_pos hq, if_neg (by rw [d74.2 hq]; simp), gs, bS9, List.set_set, c2r (by unfold rv; rw [if_pos ha, j03 hg'.n hq])]
   ·have hnh : b6m (fnd (inn m c hd i p k s).1) (nxt m p (hd k)) = false := s33 fun h => hq (d74.1 h)
    rw [if_neg hq, if_pos (by rw [hnh]; rfl), b6d vf9 vh9 vf9, bS9, b6d vf9 vh9 vf9, bS9, b6d vf9 vh9 vf9, bS9,
     gs, bS9, List.set_set, g1w (by rw [d12]; exact hq), <- j02]
    have e1 : fill (2 ^ m.Inputs.length) (rv m c hd (inn m c hd i p k s).1 p) 0 k = fill (2 ^ m.Inputs.length) (rv m c hd ((inn m c hd i p k s).1 ++ [nxt m p (hd k)]) p) 0 k :=
     j0z fun j hj => (g24 (List.prefix_append _ _) (hmem j hj)).symm
    rw [e1, c2r (by
     unfold rv; rw [if_pos ha, List.idxOf_append, if_neg hq]
     simp)]
 ·unfold c1u;simp only [b3y, Int.lt_irrefl, decide_false, fT9, if_false, d1u (Nat.le_refl _)]
theorem closed {k i j : Nat} {p : Place} (hp : (b0h m c hd k).1[i]? = some p) (hi : i < k) (ha : b22 m p j c = true) (hj : j < 2 ^ m.Inputs.length) : nxt m p (hd j) ∈ (b0h m c hd k).1 := by
 induction k with
 | zero => omega
 | succ k ih =>
  have hpre := c3y (m := m) (c := c) (hd := hd) k;by_cases e : i = k
  ·subst e
   conv at hp => lhs; unfold b0h
   cases hq : (b0h m c hd i).1[i]? with
   | none =>
    simp only [hq] at hp
    cases hp
   | some q =>
    have : p = q := by
     have h1 := c0r hpre hq
     conv at h1 => lhs; unfold b0h
     rw [h1] at hp; exact (Option.some.inj hp).symm
    subst this
    have hout : b0h m c hd (i + 1) = inn m c hd i p (2 ^ m.Inputs.length) (b0h m c hd i) := by
     conv => lhs; unfold b0h
     rw [hq]
    rw [hout];exact d2m ha _ hj
  ·by_cases hlt : i < (b0h m c hd k).1.length
   ·obtain ⟨q, hq⟩ := b3b hlt;have h1 := c0r hpre hq;rw [h1] at hp;have : p = q := (Option.some.inj hp).symm;subst this;exact hpre.subset (ih hq vf9)
   ·have hn : (b0h m c hd k).1[k]? = none := List.getElem?_eq_none vf9
    conv at hp => lhs; unfold b0h
    simp only [hn] at hp;exact absurd (b1k hp) hlt
theorem l0o {k : Nat} (hk : ∀ j, j <= k -> j < (b0h m c hd j).1.length) : b8r m c hd (b0h m c hd (k + 1)).1 (k + 1) = b8r m c hd (b0h m c hd k).1 k ++ [tab (2 ^ m.Inputs.length) (rv m c hd (b0h m c hd (k + 1)).1 ((b0h m c hd (k + 1)).1.getD k zero))] := by
 unfold b8r;rw [l5w];congr 1;refine c1m fun i hi => ?_;have hlt := Nat.lt_of_lt_of_le (hk i vf9) (d4g (m := m) (c := c) (hd := hd) (show i <= k by omega)).length_le;obtain ⟨p, hp⟩ := b3b hlt;have hp' := c0r (c3y (m := m) (c := c) (hd := hd) k) hp;simp only [List.getD_eq_getElem?_getD, hp, hp', Option.getD_some];exact c1m fun j hj => g24 (c3y k) fun ha => closed hp hi ha hj
def b4a (m : Machine) (c : List (List Literal)) (hd : Nat -> Int) (K : Nat) : control_walk := ⟨(b0h m c hd K).1, (b0h m c hd K).2.1, (b0h m c hd K).2.2, b8r m c hd (b0h m c hd K).1 K⟩
theorem d7u (hm : OkM m) {ins : Bool} (hc : b2s m ins c) {heard : Int -> Option Int} (hh : ∀ x : Nat, x < 2 ^ m.Inputs.length -> heard x = some (hd x)) {K : Nat} (hK : End m c hd K) :
  b9h ⟨⟨m⟩⟩ c heard = some (b4a m c hd K) := by
 obtain ⟨hK0, hK1, hK2⟩ := hK;have hpow := p2a hm.z;unfold b9h c6a
 have := b4h (f := b9i ⟨⟨m⟩⟩ c heard) K (fun (s : S3 × List (List Int)) k => (s.1.1, s.1.2.1, s.1.2.2, s.2, fnd s.1.1, k)) (fun k => (b0h m c hd k, b8r m c hd (b0h m c hd k).1 k)) ((b0h m c hd K).1, (b0h m c hd K).2.1, (b0h m c hd K).2.2, b8r m c hd (b0h m c hd K).1 K) (s0 := (([zero], [-1], [0]), [])) rfl (fun k hk => by
   have hlt := hK1 k hk;obtain ⟨p, hp⟩ := b3b hlt;have hg := s3t (c := c) (hd := hd) hm k
   have hall : c1y ⟨m⟩ = some ((2 ^ m.Inputs.length : Nat) : Int) := by
    unfold c1y;have := hm.z.i;simp only;rw [c83 vf9]; simp
   have hout : b0h m c hd (k + 1) = inn m c hd k p (2 ^ m.Inputs.length) (b0h m c hd k) := by
    conv => lhs; unfold b0h
    rw [hp]
   have hg' := s3t (c := c) (hd := hd) hm (k + 1);have hp' := c0r (c3y (m := m) (c := c) (hd := hd) k) hp;rw [l0o fun j hj => hK1 j vf9, List.getD_eq_getElem?_getD, hp', Option.getD_some];unfold b9i c59 c6b;simp only [Int.ofNat_lt, hlt, decide_true, if_true, b1h hp, bS9];rw [hall, bS9, g1q vf9 vf9, bS9, j5z hm hc hh (hg.o p (b1d.2 ⟨k, hp⟩)) hg, bS9, <- hout];simp only
   rw [b6d (by unfold b8r; rw [b3y]; omega) vh9 vf9, bS9, b2r hk (b1o vf9)]) (by
   unfold b9i;have : ¬ K < (b0h m c hd K).1.length := by omega
   simp only [Int.ofNat_lt, this, decide_false, fT9, if_false])
 have e0 : b3w ([] : List (Place × Int)) (Place.mk 0 (0, 0)) 0 = fnd [zero] := rfl;rw [e0];show (b0w (b9i ⟨⟨m⟩⟩ c heard) ([zero], [-1], [0], [], fnd [zero], 0)).bind _ = _
 rw [this]; rfl
end
end Go.Nw.KM
namespace Go.Nw.KM
noncomputable section
def Few {α : Type} (l : List α) : Prop := l.length <= 1048576
def d02 (c : List (List Literal)) : Prop := Few c /\ ∀ t ∈ c, Few t
structure FewM (m : Machine) : Prop where
 i : Few m.Inputs
 o : Few m.Outputs
 c : Few m.Counters
 s : Few m.States
 r : Few m.Rules
 w : ∀ r ∈ m.Rules, d02 r.When /\ Few r.Sets
 n : ∀ n ∈ b3g m, n.size <= maxLen
def count (m : Machine) : Nat -> Int
 | 0 => m.States.length
 | k + 1 => match m.Counters[k]? with | some c => count m k * (c.Max + 1) | none => count m k
theorem d62 {m : Machine} (hm : OkM m) : ∀ k, 0 <= count m k /\ count m k <= 12 * 8 ^ k
 | 0 => by have := hm.z.s; unfold count; simp; omega
 | k + 1 => by
  obtain ⟨h0, h1⟩ := d62 hm k;unfold count;have hp : (8 : Int) ^ (k + 1) = 8 ^ k * 8 := Int.pow_succ _ _
  cases hx : m.Counters[k]? with
  | none => simp only; omega
  | some c =>
   have := hm.c c (b1d.2 ⟨k, hx⟩);have h2 : count m k * (c.Max + 1) <= count m k * 8 := Int.mul_le_mul_of_nonneg_left vf9 h0;exact ⟨Int.mul_nonneg h0 vf9, by simp only; omega⟩
theorem g5x {m : Machine} (hf : ∀ n ∈ b3g m, n.size <= maxLen) : (¬ OkM m /\ b8o m = some false) \/ (OkM m /\ b8o m = some (decide (3 < (m.Inputs.length : Int)) || decide (80 < count m m.Counters.length))) := by
 unfold b8o;obtain ⟨e, h1, h2⟩ := d5t hf;rw [h1, bS9];rcases h2 with ⟨rfl, ho⟩ | ⟨rfl, ho⟩
 case inr => exact .inl ⟨ho, rfl⟩
 refine .inr ⟨ho, ?_⟩;rw [if_neg vh9];have hc := ho.z.c
 have hb : ∀ k, k <= m.Counters.length -> 0 <= count m k /\ count m k <= 768 := fun k hk => by
  obtain ⟨h0, h1⟩ := d62 ho k;have : k = 0 \/ k = 1 \/ k = 2 := by omega
  rcases this with rfl | rfl | rfl <;> simp at h1 <;> omega
 have := b4h (f := c3s m) m.Counters.length (fun (s : Int) k => (s, k)) (count m) (count m m.Counters.length) (s0 := (m.States.length : Int)) rfl (fun k hk => by
   obtain ⟨x, hx⟩ := b3b hk;have hM := ho.c x (b1d.2 ⟨k, hx⟩);have h3 := hb k vf9;have h4 := hb (k + 1) vf9;have e : count m (k + 1) = count m k * (x.Max + 1) := by conv => lhs; unfold count; rw [hx]
   unfold c3s;simp only [Int.ofNat_lt, hk, decide_true, if_true, b1h hx, bS9]
   rw [b2r hk (b1o vf9), b3t (by omega : -9223372036854775808 <= x.Max + 1) vf9, <- e, b3t vf9 vf9]) (by
   unfold c3s
   simp only [Int.lt_irrefl, decide_false, fT9, if_false])
 rw [this]; rfl
end
end Go.Nw.KM
namespace Go.Nw.KM
section
variable [Bd]
theorem l5y {m : Machine} (h : b9d m) : ∀ n ∈ b3g m, n.size <= maxLen := by
 obtain ⟨h1, h2, h3, h4, h5⟩ := h;intro n hn;have hB := Bd.le;simp only [b3g, List.mem_append, List.mem_map] at hn;rcases hn with ((hn | hn) | ⟨c, hc, rfl⟩) | ⟨c, hc, rfl⟩
 ·exact Nat.le_trans (h1.2 n hn) hB
 ·exact Nat.le_trans (h2.2 n hn) hB
 ·exact Nat.le_trans (h3.2 c hc).1 hB
 ·exact Nat.le_trans (h4.2 c hc).1 hB
theorem l7h {m : Machine} (hf : ∀ n ∈ b3g m, n.size <= maxLen) : ∃ b, b8o m = some b := by
 rcases g5x hf with ⟨_, h⟩ | ⟨_, h⟩ <;> exact ⟨_, h⟩
end
end Go.Nw.KM
namespace Go.Nw.KM
noncomputable section
theorem o8t {m : Machine} {p : Place} : OkP m p ↔ In p.State m.States.length /\ b5q 2 (fun k => !(b2q (if (k : Int) = 0 then p.Values.1 else p.Values.2) 0 (b56 m k))) = none := by
 rw [d72];constructor
 ·intro h;refine ⟨h.s, fun t ht => ?_⟩;have : t = 0 \/ t = 1 := by omega
  rcases this with rfl | rfl
  ·have := b6t.2 h.a; simp [this]
  ·have := b6t.2 h.b; simp [this]
 ·rintro ⟨h1, h2⟩;have h3 := h2 0 vf9;have h4 := h2 1 vf9;simp only [Bool.not_eq_false', Int.natCast_zero, if_true, b6t] at h3;simp only [Bool.not_eq_false', show ¬ ((1 : Nat) : Int) = 0 by decide, if_false, b6t] at h4;exact ⟨h1, h3, h4⟩
theorem o8q {m : Machine} (hm : OkM m) {p : Place} : ∃ b, b2q p.State 0 (wr ((List.length m.States : Int) - 1)) = b /\ (b = true ↔ In p.State m.States.length) := by
 have := hm.z.s;rw [c1n (b1o vf9)];refine ⟨_, rfl, ?_⟩;rw [b6t];unfold In;omega
theorem o8s {m : Machine} {k : Nat} : (k < m.Counters.length /\ ∃ c, get m.Counters k = some c /\ c.Max = b56 m k) \/ (¬ k < m.Counters.length /\ b56 m k = 0) := by
 by_cases h : k < m.Counters.length
 ·obtain ⟨c, hc⟩ := b3b h;exact .inl ⟨h, c, b1h hc, by unfold b56; rw [hc]⟩
 ·exact .inr ⟨h, by unfold b56; rw [List.getElem?_eq_none vf9]⟩
theorem o8o {m : Machine} (hm : OkM m) (p : Place) : ∃ b, o7s ⟨m⟩ p = some b /\ (b = true ↔ OkP m p) := by
 unfold o7s o73
 have step : ∀ k : Nat, k < 2 -> o7t ⟨m⟩ p k = (if (!(b2q (if (k : Int) = 0 then p.Values.1 else p.Values.2) 0 (b56 m k))) = true then some (.br (.inr false)) else some (.nx ((k : Int) + 1))) := fun k hk => by
  have h2 : (k : Int) < 2 := by omega
  unfold o7t o7u;simp only [h2, decide_true, if_true, c2x (show In (k : Int) 2 from ⟨by omega, by omega⟩), bS9, Int.ofNat_lt];rcases o8s (m := m) (k := k) with ⟨h3, c, h4, h5⟩ | ⟨h3, h4⟩
  ·simp only [h3, decide_true, if_true, h4, bS9, h5, b2r hk (show 2 <= maxLen by decide)]
  ·simp only [h3, decide_false, fT9, if_false, h4, b2r hk (show 2 <= maxLen by decide)]
 rw [c7s (f := o7t ⟨m⟩ p) (n := 2) (p := fun k => !(b2q (if (k : Int) = 0 then p.Values.1 else p.Values.2) 0 (b56 m k))) (e := fun _ => .inr false) (u := .inl ()) (fun t ht hp => by rw [step t ht, if_pos hp]) (fun t ht hp => by rw [step t ht, if_neg (by rw [hp]; simp)]) (by rfl), o8t];obtain ⟨b, h1, h2⟩ := o8q hm (p := p)
 cases b5q 2 (fun k => !(b2q (if (k : Int) = 0 then p.Values.1 else p.Values.2) 0 (b56 m k))) with
 | none => exact ⟨b, by simp only [bS9, h1], by rw [h2]; simp⟩
 | some t => exact ⟨false, rfl, by simp⟩
theorem o83 {m : Machine} (hm : OkM m) (p : Place) : ∃ b, o7y m p = some b /\ (b = true ↔ OkP m p) := by
 unfold o7y o77
 have step : ∀ k : Nat, k < 2 -> o7z m p k = (if (!(b2q (if (k : Int) = 0 then p.Values.1 else p.Values.2) 0 (b56 m k))) = true then some (.br (.inr false)) else some (.nx ((k : Int) + 1))) := fun k hk => by
  have h2 : (k : Int) < 2 := by omega
  have e : ∀ x y : Int, b2b x 0 y = b2q x 0 y := fun x y => by rw [Bool.eq_iff_iff, b6g, b6t]
  unfold o7z o70;simp only [h2, decide_true, if_true, c2x (show In (k : Int) 2 from ⟨by omega, by omega⟩), bS9, Int.ofNat_lt, e];rcases o8s (m := m) (k := k) with ⟨h3, c, h4, h5⟩ | ⟨h3, h4⟩
  ·simp only [h3, decide_true, if_true, h4, bS9, h5, b2r hk (show 2 <= maxLen by decide)]
  ·simp only [h3, decide_false, fT9, if_false, h4, b2r hk (show 2 <= maxLen by decide)]
 rw [c7s (f := o7z m p) (n := 2) (p := fun k => !(b2q (if (k : Int) = 0 then p.Values.1 else p.Values.2) 0 (b56 m k))) (e := fun _ => .inr false) (u := .inl ()) (fun t ht hp => by rw [step t ht, if_pos hp]) (fun t ht hp => by rw [step t ht, if_neg (by rw [hp]; simp)]) (by rfl), o8t];obtain ⟨b, h1, h2⟩ := o8q hm (p := p);have e : b2b p.State 0 (wr ((List.length m.States : Int) - 1)) = b := by rw [<- h1, Bool.eq_iff_iff, b6g, b6t]
 rw [e]
 cases b with
 | false => exact ⟨false, rfl, by rw [<- h2]; simp⟩
 | true =>
  rw [if_neg vh9, <- h2]
  cases b5q 2 (fun k => !(b2q (if (k : Int) = 0 then p.Values.1 else p.Values.2) 0 (b56 m k))) with
  | none => exact ⟨true, rfl, by simp⟩
  | some t => exact ⟨false, rfl, by simp⟩
theorem o82 {m : Machine} (hs : SizesOk m) : c1y ⟨m⟩ = some ((2 ^ m.Inputs.length : Nat) : Int) := by
 unfold c1y;have := hs.i;simp only;rw [c83 vf9]; simp
theorem p3i {m : Machine} (hm : OkM m) (x : Int) : ∃ b, p2c ⟨m⟩ x = some b /\ (b = true ↔ OkX m x) := by
 unfold p2c;have := p2a hm.z;rw [o82 hm.z, bS9, c1n (b1o vf9)];refine ⟨_, rfl, ?_⟩;rw [b6t];unfold OkX In;omega
theorem p3v {m : Machine} (hm : OkM m) (x : Int) : ∃ b, b2b x 0 (wr (((2 ^ m.Inputs.length : Nat) : Int) - 1)) = b /\ (b = true ↔ OkX m x) := by
 have := p2a hm.z;rw [c1n (b1o vf9)];refine ⟨_, rfl, ?_⟩;rw [b6g];unfold OkX In;omega
theorem p3k {m : Machine} (hf : ∀ n ∈ b3g m, n.size <= maxLen) (p : Place) (x : Int) : ∃ r, p2f m p x = some r /\ p3f m p x = some r /\
  ((OkM m /\ OkP m p /\ OkX m x /\ r = (nxt m p x, 0)) \/ (OkM m /\ ¬ (OkP m p /\ OkX m x) /\ r = (zero, 1)) \/ (¬ OkM m /\ r = (zero, 41))) := by
 obtain ⟨e, h1, h2⟩ := g5k hf;obtain ⟨e', h3, h4⟩ := d5t hf;unfold p2f p3f;rw [h1, h3, bS9, bS9];rcases h2 with ⟨rfl, hm⟩ | ⟨rfl, hm⟩ <;> rcases h4 with ⟨rfl, hm'⟩ | ⟨rfl, hm'⟩
 ·obtain ⟨b, a1, a2⟩ := o8o hm p;obtain ⟨b', a3, a4⟩ := o83 hm p;obtain ⟨d, a5, a6⟩ := p3i hm x;obtain ⟨d', a7, a8⟩ := p3v hm x;have eb : b' = b := by rw [Bool.eq_iff_iff, a2, a4]
  have ed : d' = d := by rw [Bool.eq_iff_iff, a6, a8]
  subst eb; subst ed;rw [if_neg vh9, if_neg vh9, show b3h m = ⟨⟨m⟩⟩ from rfl];simp only;rw [a1, a3, a5, b9j hm.z, bS9, bS9, bS9, bS9, a7]
  cases b' with
  | false => exact ⟨(zero, 1), rfl, rfl, .inr (.inl ⟨hm, fun h => by simpa using a2.2 h.1, rfl⟩)⟩
  | true =>
   cases d' with
   | false => exact ⟨(zero, 1), rfl, rfl, .inr (.inl ⟨hm, fun h => by simpa using a6.2 h.2, rfl⟩)⟩
   | true =>
    have ho := a2.1 rfl;refine ⟨(nxt m p x, 0), ?_, ?_, .inl ⟨hm, ho, a6.1 rfl, rfl⟩⟩
    ·simp only [Bool.not_true, fT9, if_false, bS9];rw [g5u hm ho]; rfl
    ·simp only [Bool.not_true, fT9, if_false, bS9];rw [d5u hm ho]; rfl
 ·exact absurd hm hm'
 ·exact absurd hm' hm
 ·exact ⟨(zero, 41), rfl, rfl, .inr (.inr ⟨hm, rfl⟩)⟩
theorem o8p {α : Type} {l : List α} {k : Nat} {x z : α} (h : l[k]? = some x) : l.getD k z = x := by
 rw [List.getD_eq_getElem?_getD, h]; rfl
section
variable [Bd]
end
end
end Go.Nw.KM
namespace Go.Nw.KM
noncomputable section
def o8f (m : Machine) (c : List (List Literal)) (hd : Nat -> Int) : Place -> List Nat -> Place -> Prop
 | p, [], q => p = q
 | p, x :: l, q => x < 2 ^ m.Inputs.length /\ b22 m p x c = true /\ o8f m c hd (nxt m p (hd x)) l q
theorem d8d {m : Machine} {c : List (List Literal)} {hd : Nat -> Int} : ∀ {l : List Nat} {p q : Place} {x : Nat}, o8f m c hd p l q -> x < 2 ^ m.Inputs.length -> b22 m q x c = true -> o8f m c hd p (l ++ [x]) (nxt m q (hd x))
 | [], p, q, x, h, h1, h2 => by cases h; exact ⟨h1, h2, rfl⟩
 | y :: l, p, q, x, h, h1, h2 => ⟨h.1, h.2.1, d8d h.2.2 h1 h2⟩
structure Tr (m : Machine) (c : List (List Literal)) (hd : Nat -> Int) (s : S3) : Prop where
 z : s.1[0]? = some zero
 b : s.2.1[0]? = some (-1)
 t : ∀ (k : Nat) q, 1 <= k -> s.1[k]? = some q -> ∃ (b x : Nat) (p : Place), s.2.1[k]? = some (b : Int) /\ s.2.2[k]? = some (x : Int) /\ b < k /\ x < 2 ^ m.Inputs.length /\ s.1[b]? = some p /\ b22 m p x c = true /\ q = nxt m p (hd x)
section
variable {m : Machine} {c : List (List Literal)} {hd : Nat -> Int}
theorem b99 {α : Type} {l : List α} {k : Nat} {x y : α} (h : l[k]? = some x) : (l ++ [y])[k]? = some x := by
 rw [List.getElem?_append_left (b1k h)]; exact h
theorem g51 {s : S3} (hg : Good m s) (ht : Tr m c hd s) {i x : Nat} {p : Place} (hp : s.1[i]? = some p) (hx : x < 2 ^ m.Inputs.length) (ha : b22 m p x c = true) : Tr m c hd (b5l s i x (nxt m p (hd x))) := by
 unfold b5l;split
 ·exact ht
 ·refine ⟨b99 ht.z, b99 ht.b, fun k q hk hq => ?_⟩;by_cases hlt : k < s.1.length
  ·rw [List.getElem?_append_left hlt] at hq;obtain ⟨b, x', p', h1, h2, h3, h4, h5, h6⟩ := ht.t k q hk hq;exact ⟨b, x', p', b99 h1, b99 h2, h3, h4, b99 h5, h6⟩
  ·have hkl := b1k hq
   simp only [List.length_append, List.length_cons, List.length_nil] at hkl;have e : k = s.1.length := by omega
   subst e;simp only [List.getElem?_append_right (Nat.le_refl _), Nat.sub_self, List.getElem?_cons_zero, iE9] at hq;subst hq;refine ⟨i, x, p, ?_, ?_, b1k hp, hx, b99 hp, ha, rfl⟩
   ·rw [<- hg.b]; simp
   ·rw [<- hg.i]; simp
theorem d2n (hm : OkM m) {i : Nat} {p : Place} (hp : OkP m p) : ∀ (x : Nat) {s : S3}, x <= 2 ^ m.Inputs.length -> Good m s -> Tr m c hd s -> s.1[i]? = some p -> Tr m c hd (inn m c hd i p x s)
 | 0, s, _, hg, ht, hi => ht
 | x + 1, s, hx, hg, ht, hi => by
  unfold inn; split
  ·rename_i ha;exact g51 (c0g hm hp x hg) (d2n hm hp x vf9 hg ht hi) (c0r (c3a x) hi) vf9 ha
  ·exact d2n hm hp x vf9 hg ht hi
theorem d4h (hm : OkM m) : ∀ k, Tr m c hd (b0h m c hd k)
 | 0 => by
  refine ⟨rfl, rfl, fun k q hk hq => ?_⟩;have := b1k hq;simp only [b0h, List.length_cons, List.length_nil] at this;omega
 | k + 1 => by
  have hg := s3t (c := c) (hd := hd) hm k;have ht := d4h hm k;unfold b0h
  cases hp : (b0h m c hd k).1[k]? with
  | none => exact ht
  | some p => exact d2n hm (hg.o p (b1d.2 ⟨k, hp⟩)) _ (Nat.le_refl _) hg ht hp
def b27 (l : List Nat) : List Int := l.map fun x : Nat => (x : Int)
theorem g0o {l : List Nat} : (b27 l).length = l.length := by simp [b27]
theorem g0n {l r : List Nat} : b27 (l ++ r) = b27 l ++ b27 r := by simp [b27]
theorem g0p {x : Nat} : b27 [x] = [(x : Int)] := rfl
theorem g5t {l : List Int} (hl : l.length <= maxLen) : c48 l = some l.reverse := by
 unfold c48 c9l;have hml : (maxLen : Int) <= 9223372036854775807 := by decide
 rw [c1n hl]
 have key : ∀ d i : Nat, l.length - 2 * i <= d -> 2 * i <= l.length + 1 -> b0w c1j (tab l.length (fun q => if q < i \/ l.length - 1 - i < q then l.getD (l.length - 1 - q) 0 else l.getD q 0), (i : Int), (l.length : Int) - 1 - i) = some l.reverse := by
  intro d;induction d with
  | zero =>
   intro i hd hi;refine b3d ?_;unfold c1j;have : ¬ ((i : Int) < (l.length : Int) - 1 - i) := by omega
   simp only [this, decide_false, fT9, if_false, iE9, Out.br.injEq];apply List.ext_getElem
   ·rw [b3y, List.length_reverse]
   ·intro q h1 h2;rw [b3y] at h1;simp only [tab, List.getElem_map, List.getElem_range, List.getElem_reverse];split
    ·rw [List.getD_eq_getElem?_getD, gG9 vf9]; rfl
    ·have : l.length - 1 - q = q := by omega
     rw [List.getD_eq_getElem?_getD, gG9 vf9];simp only [this]; rfl
  | succ d ih =>
   intro i hd hi;by_cases hlt : 2 * i + 1 < l.length
   case neg =>
    refine b3d ?_;unfold c1j;have : ¬ ((i : Int) < (l.length : Int) - 1 - i) := by omega
    simp only [this, decide_false, fT9, if_false, iE9, Out.br.injEq];apply List.ext_getElem
    ·rw [b3y, List.length_reverse]
    ·intro q h1 h2;rw [b3y] at h1;simp only [tab, List.getElem_map, List.getElem_range, List.getElem_reverse];split
     ·rw [List.getD_eq_getElem?_getD, gG9 vf9]; rfl
     ·have : l.length - 1 - q = q := by omega
      rw [List.getD_eq_getElem?_getD, gG9 vf9];simp only [this]; rfl
   case pos =>
    have hj : (l.length : Int) - 1 - i = ((l.length - 1 - i : Nat) : Int) := by omega
    rw [<- ih (i + 1) vf9 vf9];refine b32 ?_;unfold c1j;have : (i : Int) < ((l.length - 1 - i : Nat) : Int) := by omega
    simp only [hj, this, decide_true, if_true, c2y (show l.length - 1 - i < l.length by omega), c2y (show i < l.length by omega), bS9, Int.toNat_natCast];rw [if_neg vf9, if_neg vf9, d5i, c2y vf9, bS9, d5i, b3t vf9 vf9, b3t vf9 vf9];congr 2;refine Prod.ext ?_ (Prod.ext ?_ ?_)
    ·refine c1m fun q hq => ?_;by_cases e1 : q = l.length - 1 - i
     ·rw [if_pos e1, if_pos vf9]; congr 1; omega
     ·rw [if_neg e1];by_cases e2 : q = i
      ·rw [if_pos e2, if_pos vf9]; congr 1; omega
      ·rw [if_neg e2];by_cases e3 : q < i \/ l.length - 1 - i < q
       ·rw [if_pos e3, if_pos vf9]
       ·rw [if_neg e3, if_neg vf9]
    ·simp
    ·simp only; omega
 have h0 := key l.length 0 vf9 vf9
 have e : tab l.length (fun q => if q < 0 \/ l.length - 1 - 0 < q then l.getD (l.length - 1 - q) 0 else l.getD q 0) = l := by
  apply List.ext_getElem
  ·rw [b3y]
  ·intro q h1 h2;simp only [tab, List.getElem_map, List.getElem_range];rw [if_neg vf9, List.getD_eq_getElem?_getD, gG9 h2]; rfl
 rw [e] at h0;simp only [Int.natCast_zero, Int.sub_zero] at h0;rw [h0]; rfl
theorem g2z {s : S3} (hg : Good m s) (ht : Tr m c hd s) (hl : s.1.length <= 768) (w : control_walk) (g : r04_graph) (hw : w.from_ = s.2.1 /\ w.by_ = s.2.2) (hgr : g.back = s.2.1 /\ g.input = s.2.2) (k : Nat) (hk : k < s.1.length) :
  ∃ P : List Nat, b71 w k = some (b27 P) /\ b4c g k = some (b27 P) /\ P.length <= k /\ ∃ q, s.1[k]? = some q /\ o8f m c hd zero P q := by
 have key : ∀ d k : Nat, k <= d -> k < s.1.length -> ∃ P : List Nat, P.length <= k /\ (∃ q, s.1[k]? = some q /\ o8f m c hd zero P q) /\
   (∀ l : List Int, l.length + k <= 768 -> b0w (b72 w) ((k : Int), l) = some (l ++ (b27 P).reverse)) /\
   (∀ l : List Int, l.length + k <= 768 -> b0w (b73 g) ((k : Int), l) = some ((b27 P) ++ l)) := by
  intro d;induction d with
  | zero =>
   intro k h1 h2;obtain rfl : k = 0 := by omega
   refine ⟨[], Nat.le_refl _, ⟨zero, ht.z, rfl⟩, fun l hl => ?_, fun l hl => ?_⟩
   ·refine b3d ?_;unfold b72;simp only [hw.1];have := b1h ht.b;simp only [Int.natCast_zero] at this ⊢
    rw [this]; simp [b27]
   ·refine b3d ?_;unfold b73; simp [b27]
  | succ d ih =>
   intro k h1 h2;by_cases hz : k = 0
   ·exact ih k vf9 h2
   obtain ⟨q, hq⟩ := b3b h2;obtain ⟨b, x, p, e1, e2, e3, e4, e5, e6, rfl⟩ := ht.t k q vf9 hq;obtain ⟨P, p1, ⟨q', p2, p3⟩, p4, p5⟩ := ih b vf9 (b1k e5);rw [e5] at p2; cases p2;refine ⟨P ++ [x], by simp; omega, ⟨_, hq, d8d p3 e4 e6⟩, fun l hl => ?_, fun l hl => ?_⟩
   ·have : b0w (b72 w) ((k : Int), l) = b0w (b72 w) ((b : Int), l ++ [(x : Int)]) := b32 (by
     unfold b72;simp only [hw.1, hw.2, b1h e1, b1h e2, bS9, Int.natCast_nonneg, decide_true, if_true]
     rw [b6d vf9 vh9 vf9, bS9])
    rw [this, p4 _ vi9, g0n, g0p];simp
   ·have : b0w (b73 g) ((k : Int), l) = b0w (b73 g) ((b : Int), (x : Int) :: l) := b32 (by
     unfold b73;have : 0 < (k : Int) := by omega
     simp only [hgr.1, hgr.2, b1h e1, b1h e2, bS9, this, decide_true, if_true]
     rw [b6d vh9 vf9 vf9, bS9]; rfl)
    rw [this, p5 _ vi9, g0n, g0p];simp
 obtain ⟨P, p1, p2, p3, p4⟩ := key k k (Nat.le_refl _) hk;refine ⟨P, ?_, ?_, p1, p2⟩
 ·unfold b71 c57;rw [p3 [] vi9, bS9, List.nil_append, g5t (by rw [List.length_reverse, g0o]; exact b1o vf9), bS9, List.reverse_reverse]
 ·unfold b4c c6e;rw [p4 [] vi9, bS9, List.append_nil]
end
end
end Go.Nw.KM
namespace Go.Nw.KM
noncomputable section
section
variable {m : Machine} {c : List (List Literal)} {hd : Nat -> Int}
theorem d73 {s : S3} (hg : Good m s) (ht : Tr m c hd s) (hl : s.1.length <= 768) {w : control_walk} {g : r04_graph} (hw : w.from_ = s.2.1 /\ w.by_ = s.2.2) (hwp : w.places = s.1) (hgr : g.back = s.2.1 /\ g.input = s.2.2) (hgp : g.places = s.1)
  {wanted : Int -> Option Bool} {p : Nat -> Bool} (hwant : ∀ k : Nat, k < s.1.length -> wanted k = some (p k)) :
  ∃ r, b9e w wanted = some r /\ r.1.length <= 768 /\
   (∀ (f : Int -> Option (Out Int (Unit ⊕ ((List Int) × Bool)))), (∀ k : Nat, k < s.1.length -> f k = (if p k = true then (b4c g k).bind fun y => some (.br (.inr (y, true))) else some (.nx ((k : Int) + 1)))) -> f (s.1.length : Int) = some (.br (.inl ())) ->
    (b0w f 0).bind (fun | (.inl ()) => some ([], false) | (.inr r') => some r') = some r) /\
   ((r = ([], false) /\ ∀ k, k < s.1.length -> p k = false) \/ ∃ (k : Nat) (q : Place) (P : List Nat), r = (b27 P, true) /\ s.1[k]? = some q /\ p k = true /\ (∀ j, j < k -> p j = false) /\ o8f m c hd zero P q /\ P.length <= k /\ b4c g k = some (b27 P)) := by
 have hrun := g2z hg ht hl w g hw hgr;have run2 : ∀ k : Nat, k < s.1.length -> ∃ P : List Nat, b71 w k = some (b27 P) /\ b4c g k = some (b27 P) /\ P.length <= k /\ ∃ q, s.1[k]? = some q /\ o8f m c hd zero P q := hrun
 obtain ⟨R, hR⟩ : ∃ R : Nat -> List Nat, ∀ k : Nat, k < s.1.length -> b71 w k = some (b27 (R k)) /\ b4c g k = some (b27 (R k)) /\ (R k).length <= k /\ ∃ q, s.1[k]? = some q /\ o8f m c hd zero (R k) q :=
  ⟨fun k => if h : k < s.1.length then (run2 k h).choose else [], fun k h => by dsimp only; rw [dif_pos h]; exact (run2 k h).choose_spec⟩
 have e1 := c7s (f := b9f w wanted) (n := s.1.length) (p := p) (e := fun k => .inr (b27 (R k), true)) (u := .inl ()) (fun t h hp => by
   unfold b9f
   simp only [hwp, Int.ofNat_lt, h, decide_true, if_true, hwant t h, bS9, hp, (hR t h).1]) (fun t h hp => by
   unfold b9f
   simp only [hwp, Int.ofNat_lt, h, decide_true, if_true, hwant t h, bS9, hp, fT9, if_false, b2r h (b1o vf9)]) (by
   unfold b9f
   simp only [hwp, Int.lt_irrefl, decide_false, fT9, if_false])
 have e2 : ∀ (f : Int -> Option (Out Int (Unit ⊕ ((List Int) × Bool)))), (∀ k : Nat, k < s.1.length -> f k = (if p k = true then (b4c g k).bind fun y => some (.br (.inr (y, true))) else some (.nx ((k : Int) + 1)))) -> f (s.1.length : Int) = some (.br (.inl ())) ->
   b0w f 0 = some (match b5q s.1.length p with | some t => .inr (b27 (R t), true) | none => .inl ()) := fun f hf hfin => c7s (p := p) (fun t h hp => by
   rw [hf t h, if_pos hp, (hR t h).2.1]; rfl) (fun t h hp => by rw [hf t h, if_neg (by rw [hp]; simp)]) hfin
 unfold b9e c56;rw [e1, bS9]
 cases hf : b5q s.1.length p with
 | none =>
  refine ⟨([], false), rfl, by simp, fun f h1 h2 => by rw [e2 f h1 h2, hf]; rfl, .inl ⟨rfl, d72.1 hf⟩⟩
 | some k =>
  obtain ⟨h1, h2, h3⟩ := j00 hf;obtain ⟨_, r2, r3, q, r4, r5⟩ := hR k h1;exact ⟨(b27 (R k), true), rfl, by rw [g0o]; omega, fun f h1 h2 => by rw [e2 f h1 h2, hf]; rfl, .inr ⟨k, q, R k, rfl, r4, h2, h3, r5, r3, r2⟩⟩
def d5x (m : Machine) (c never : List (List Literal)) (hd : Nat -> Int) (r : List Int × Bool) : Prop :=
 ∃ K, End m c hd K /\ ((r = ([], false) /\ ∀ q ∈ (b0h m c hd K).1, b46 m q 0 never = false) \/
  ∃ (k : Nat) (q : Place) (P : List Nat), r = (b27 P, true) /\ (b0h m c hd K).1[k]? = some q /\ b46 m q 0 never = true /\ (∀ (j : Nat) q', j < k -> (b0h m c hd K).1[j]? = some q' -> b46 m q' 0 never = false) /\ o8f m c hd zero P q /\ P.length <= k /\ b4c ⟨(b0h m c hd K).1, (b0h m c hd K).2.1, (b0h m c hd K).2.2⟩ k = some (b27 P))
theorem g6v (hm : OkM m) {ins ins' : Bool} (hc : b2s m ins c) {never : List (List Literal)} (hn : b2s m ins' never) {heard : Int -> Option Int} (hh : ∀ x : Nat, x < 2 ^ m.Inputs.length -> heard x = some (hd x)) {inp val : Int} (hh' : ∀ x : Nat, x < 2 ^ m.Inputs.length -> b6a x inp val = some (hd x)) :
  ∃ r g, c1t ⟨⟨m⟩⟩ c never heard = some r /\ b8z m c inp val = some g /\ c1x g m never = some r /\ r.1.length <= 768 /\ d5x m c never hd r := by
 obtain ⟨K, hK⟩ := g2u (c := c) (hd := hd) hm;have hg := s3t (c := c) (hd := hd) hm K;have ht := d4h (c := c) (hd := hd) hm K;have hl := c0q hm hg.n hg.o
 have hp : ∀ k : Nat, k < (b0h m c hd K).1.length -> ∃ q, (b0h m c hd K).1[k]? = some q /\ OkP m q := fun k hk => by
  obtain ⟨q, hq⟩ := b3b hk;exact ⟨q, hq, hg.o q (b1d.2 ⟨k, hq⟩)⟩
 obtain ⟨r, h1, h2, h3, h4⟩ := d73 (w := b4a m c hd K) (g := ⟨(b0h m c hd K).1, (b0h m c hd K).2.1, (b0h m c hd K).2.2⟩) hg ht hl ⟨rfl, rfl⟩ rfl ⟨rfl, rfl⟩ rfl
  (wanted := fun z5 => b9g z5 ⟨⟨m⟩⟩ never (b4a m c hd K)) (p := fun k => b46 m ((b0h m c hd K).1.getD k zero) 0 never) (fun k hk => by
   obtain ⟨q, hq, ho⟩ := hp k hk;unfold b9g b4a
   simp only [b1h hq, bS9, c5w hm.z ho.s hn, List.getD_eq_getElem?_getD, hq, Option.getD_some])
 refine ⟨r, _, ?_, d7v hm hc hh' hK, ?_, h2, K, hK, ?_⟩
 ·unfold c1t;rw [d7u hm hc hh hK, bS9, h1]; rfl
 ·unfold c1x c6d;refine h3 _ (fun k hk => ?_) ?_
  ·obtain ⟨q, hq, ho⟩ := hp k hk;unfold c6c;simp only [Int.ofNat_lt, hk, decide_true, if_true, b1h hq, bS9, c5x hm.z ho.s hn, List.getD_eq_getElem?_getD, hq, Option.getD_some, b2r hk (b1o vf9)]
  ·unfold c6c;simp only [Int.lt_irrefl, decide_false, fT9, if_false]
 ·rcases h4 with ⟨rfl, h5⟩ | ⟨k, q, P, rfl, h6, h7, h8, h9, h10, h11⟩
  ·refine .inl ⟨rfl, fun q hq => ?_⟩;obtain ⟨k, hk⟩ := b1d.1 hq;have := h5 k (b1k hk);simpa only [List.getD_eq_getElem?_getD, hk, Option.getD_some] using this
  ·refine .inr ⟨k, q, P, rfl, h6, ?_, fun j q' hj hq' => ?_, h9, h10, h11⟩
   ·simpa only [List.getD_eq_getElem?_getD, h6, Option.getD_some] using h7
   ·have := h8 j hj
    simpa only [List.getD_eq_getElem?_getD, hq', Option.getD_some] using this
end
end
end Go.Nw.KM
namespace Go.Nw.KM
noncomputable section
abbrev idn : Nat -> Int := fun x => (x : Int)
section
variable (m : Machine) (c : List (List Literal)) (P : List Place)
def hit (cur : List Bool) (i : Nat) : Bool := (List.range (2 ^ m.Inputs.length)).any fun j => b22 m (P.getD i zero) j c && cur.getD (P.idxOf (nxt m (P.getD i zero) (idn j))) false
end
section
variable {m : Machine} {c : List (List Literal)} {P : List Place}
end
def d17 (m : Machine) (c rest : List (List Literal)) (p : Place) : Prop := ∃ l q, o8f m c idn p l q /\ b46 m q 0 rest = true
structure Calm (m : Machine) (c rest : List (List Literal)) (P : List Place) (cur : List Bool) : Prop where
 n : cur.length = P.length
 s : ∀ i, i < P.length -> cur.getD i false = true -> d17 m c rest (P.getD i zero)
 r : ∀ i, i < P.length -> b46 m (P.getD i zero) 0 rest = true -> cur.getD i false = true
section
variable {m : Machine} {c rest : List (List Literal)} {P : List Place}
end
section
variable {m : Machine} {c rest : List (List Literal)} {K : Nat}
end
end
end Go.Nw.KM
namespace Go.Nw.KM
noncomputable section
theorem o6k : ((List.range 16).all fun x => (List.range 4).all fun i => (List.range 2).all fun v => decide (b15 (x : Int) (i : Int) (v : Int) = b6a (x : Int) (i : Int) (v : Int)) && (b6a (x : Int) (i : Int) (v : Int)).isSome) = true := by decide +kernel
theorem o6l {x i v : Nat} (hx : x < 16) (hi : i < 4) (hv : v < 2) : b15 x i v = b6a x i v /\ ∃ y, b6a x i v = some y := by
 have h := List.all_eq_true.1 o6k x (List.mem_range.2 hx);have h := List.all_eq_true.1 h i (List.mem_range.2 hi);have h := List.all_eq_true.1 h v (List.mem_range.2 hv);simp only [Bool.and_eq_true, decide_eq_true_eq] at h;exact ⟨h.1, Option.isSome_iff_exists.1 h.2⟩
def hs (i v : Nat) (x : Nat) : Int := (b6a x i v).getD 0
theorem o54 {x i v : Nat} (hx : x < 16) (hi : i < 4) (hv : v < 2) : b6a x i v = some (hs i v x) /\ b15 x i v = some (hs i v x) := by
 obtain ⟨h1, y, h2⟩ := o6l hx hi hv;unfold hs;rw [h1, h2]; exact ⟨rfl, rfl⟩
theorem o6j {n : Nat} (h : n <= 4) : 2 ^ n <= 16 := by
 have : n = 0 \/ n = 1 \/ n = 2 \/ n = 3 \/ n = 4 := by omega
 rcases this with rfl | rfl | rfl | rfl | rfl <;> decide
theorem d6y {m : Machine} {c n : List (List Literal)} (h : b7w m [c, n] 0) : OkM m /\ b2s m true c /\ b2s m true n := by
 rcases h with ⟨_, a, b⟩ | ⟨e, _⟩ | ⟨e, _⟩
 ·exact ⟨a, b c vh9, b n vh9⟩
 ·cases e
 ·cases e
theorem o59 {m : Machine} (hf : ∀ n ∈ b3g m, n.size <= maxLen) (c never : List (List Literal)) : ∃ r, b35 m c never = some r /\ c38 m c never = some r /\ r.2.2.1.length <= 768 /\
  b7w m [c, never] r.2.2.2.2 /\ (r.2.2.2.2 = 0 ->
   (r = (0, 0, [], false, 0) /\ ∀ i v, i < m.Inputs.length -> v < 2 -> ∃ b, d5x m c never (hs i v) b /\ b.2 = false) \/
   ∃ (i v : Nat) (b : List Int × Bool), i < m.Inputs.length /\ v < 2 /\ d5x m c never (hs i v) b /\ b.2 = true /\ r = ((i : Int), (v : Int), b.1, true, 0)) := by
 obtain ⟨e, h1, h2⟩ := d6t hf (l := [c, never]) vh9;obtain ⟨e', h3, h4⟩ := d5s hf (l := [c, never]) vh9;obtain rfl := d6z h2 h4;unfold b35 c38 c58 o5v;rw [h1, h3, bS9, bS9];by_cases he : e = 0
 case neg =>
  refine ⟨(0, 0, [], false, e), ?_, ?_, by simp, h2, fun h => absurd h he⟩ <;> rw [if_pos (by simpa using he)]
 subst he;obtain ⟨hm, hc, hn⟩ := d6y h2;have hi4 : m.Inputs.length <= 4 := hm.z.i;have hp16 := o6j hi4;rw [if_neg vh9, if_neg vh9]
 have ex : ∀ i v : Nat, i < m.Inputs.length /\ v < 2 -> ∃ b : (List Int × Bool) × r04_graph, c1t ⟨⟨m⟩⟩ c never (fun z18 => b15 z18 i v) = some b.1 /\ b8z m c i v = some b.2 /\ c1x b.2 m never = some b.1 /\ b.1.1.length <= 768 /\ d5x m c never (hs i v) b.1 := fun i v ⟨hi, hv⟩ => by
  obtain ⟨r, g, a1, a2, a3, a4, a5⟩ := g6v (hd := hs i v) hm hc hn (heard := fun z18 => b15 z18 i v) (fun x hx => (o54 vf9 vf9 hv).2) (inp := i) (val := v) (fun x hx => (o54 vf9 vf9 hv).1);exact ⟨(r, g), a1, a2, a3, a4, a5⟩
 obtain ⟨Bf, hB⟩ : ∃ Bf : Nat -> Nat -> (List Int × Bool) × r04_graph, ∀ i v : Nat, i < m.Inputs.length -> v < 2 -> c1t ⟨⟨m⟩⟩ c never (fun z18 => b15 z18 i v) = some (Bf i v).1 /\ b8z m c i v = some (Bf i v).2 /\ c1x (Bf i v).2 m never = some (Bf i v).1 /\ (Bf i v).1.1.length <= 768 /\ d5x m c never (hs i v) (Bf i v).1 :=
  ⟨fun i v => if h : i < m.Inputs.length /\ v < 2 then (ex i v h).choose else default, fun i v hi hv => by dsimp only; rw [dif_pos ⟨hi, hv⟩]; exact (ex i v ⟨hi, hv⟩).choose_spec⟩
 have inner1 : ∀ i : Nat, i < m.Inputs.length -> b0w (b19 m c never i) 0 = some (match b5q 2 (fun v => (Bf i v).1.2) with | some v => .inr ((i : Int), (v : Int), (Bf i v).1.1, true, 0) | none => .inl ()) := fun i hi =>
  c7s (f := b19 m c never i) (n := 2) (p := fun v => (Bf i v).1.2) (e := fun v => .inr ((i : Int), (v : Int), (Bf i v).1.1, true, 0)) (fun v hv hp => by
   unfold b19;have : (v : Int) < 2 := by omega
   simp only [this, decide_true, if_true, show b3h m = ⟨⟨m⟩⟩ from rfl, (hB i v hi hv).1, bS9]
   rw [if_pos hp]) (fun v hv hp => by
   unfold b19;have : (v : Int) < 2 := by omega
   simp only [this, decide_true, if_true, show b3h m = ⟨⟨m⟩⟩ from rfl, (hB i v hi hv).1, bS9]
   rw [if_neg (by rw [hp]; simp), b2r hv (by decide)]) (by
   unfold b19; rfl)
 have inner2 : ∀ i : Nat, i < m.Inputs.length -> b0w (b24 m c never i) 0 = some (match b5q 2 (fun v => (Bf i v).1.2) with | some v => .inr ((i : Int), (v : Int), (Bf i v).1.1, true, 0) | none => .inl ()) := fun i hi =>
  c7s (f := b24 m c never i) (n := 2) (p := fun v => (Bf i v).1.2) (e := fun v => .inr ((i : Int), (v : Int), (Bf i v).1.1, true, 0)) (fun v hv hp => by
   unfold b24;have : (v : Int) < 2 := by omega
   simp only [this, decide_true, if_true, (hB i v hi hv).2.1, (hB i v hi hv).2.2.1, bS9]
   rw [if_pos hp]) (fun v hv hp => by
   unfold b24;have : (v : Int) < 2 := by omega
   simp only [this, decide_true, if_true, (hB i v hi hv).2.1, (hB i v hi hv).2.2.1, bS9]
   rw [if_neg (by rw [hp]; simp), b2r hv (by decide)]) (by
   unfold b24; rfl)
 have hp2 : ∀ i, (b5q 2 (fun v => (Bf i v).1.2)).isSome = false ↔ ∀ v, v < 2 -> (Bf i v).1.2 = false := fun i => by
  rw [Option.isSome_eq_false_iff, Option.isNone_iff_eq_none, d72]
 have outer1 := c7s (f := b25 m c never) (n := m.Inputs.length) (p := fun i => (b5q 2 (fun v => (Bf i v).1.2)).isSome) (e := fun i => .inr ((i : Int), (((b5q 2 (fun v => (Bf i v).1.2)).getD 0 : Nat) : Int), (Bf i ((b5q 2 (fun v => (Bf i v).1.2)).getD 0)).1.1, true, 0)) (u := .inl ()) (fun i hi hp => by
   obtain ⟨v, hv⟩ := Option.isSome_iff_exists.1 hp;unfold b25;simp only [Int.ofNat_lt, hi, decide_true, if_true, inner1 i hi, bS9]
   rw [hv]; rfl) (fun i hi hp => by
   have := Option.isNone_iff_eq_none.1 (Option.isSome_eq_false_iff.1 hp);unfold b25 c41;simp only [Int.ofNat_lt, hi, decide_true, if_true, inner1 i hi, bS9]
   rw [this]; simp only; rw [b2r hi (b1o vf9)]) (by
   unfold b25
   simp only [Int.lt_irrefl, decide_false, fT9, if_false])
 have outer2 := c7s (f := b30 m c never) (n := m.Inputs.length) (p := fun i => (b5q 2 (fun v => (Bf i v).1.2)).isSome) (e := fun i => .inr ((i : Int), (((b5q 2 (fun v => (Bf i v).1.2)).getD 0 : Nat) : Int), (Bf i ((b5q 2 (fun v => (Bf i v).1.2)).getD 0)).1.1, true, 0)) (u := .inl ()) (fun i hi hp => by
   obtain ⟨v, hv⟩ := Option.isSome_iff_exists.1 hp;unfold b30;simp only [Int.ofNat_lt, hi, decide_true, if_true, inner2 i hi, bS9]
   rw [hv]; rfl) (fun i hi hp => by
   have := Option.isNone_iff_eq_none.1 (Option.isSome_eq_false_iff.1 hp);unfold b30 o5u;simp only [Int.ofNat_lt, hi, decide_true, if_true, inner2 i hi, bS9]
   rw [this]; simp only; rw [b2r hi (b1o vf9)]) (by
   unfold b30
   simp only [Int.lt_irrefl, decide_false, fT9, if_false])
 rw [outer1, outer2, bS9]
 cases hfi : b5q m.Inputs.length (fun i => (b5q 2 (fun v => (Bf i v).1.2)).isSome) with
 | none =>
  refine ⟨(0, 0, [], false, 0), rfl, rfl, by simp, h2, fun _ => .inl ⟨rfl, fun i v hi hv => ?_⟩⟩;exact ⟨_, (hB i v hi hv).2.2.2.2, (hp2 i).1 (d72.1 hfi i hi) v hv⟩
 | some i =>
  obtain ⟨hi, hp, _⟩ := j00 hfi;obtain ⟨v, hv⟩ := Option.isSome_iff_exists.1 hp;obtain ⟨hv2, hvp, _⟩ := j00 hv;refine ⟨((i : Int), (v : Int), (Bf i v).1.1, true, 0), by simp only [hv]; rfl, by simp only [hv]; rfl, (hB i v hi hv2).2.2.2.1, h2, fun _ => .inr ⟨i, v, (Bf i v).1, hi, hv2, (hB i v hi hv2).2.2.2.2, hvp, rfl⟩⟩
section
variable [Bd]
end
end
end Go.Nw.KM
namespace Go.Nw.KM
noncomputable section
section
variable {m : Machine} {c rest : List (List Literal)} {K : Nat}
end
section
variable [Bd]
end
end
end Go.Nw.KM
namespace Go.Nw.KM
noncomputable section
section
variable [Bd]
end
end
end Go.Nw.KM
namespace Go.Nw.KM
noncomputable section
def plc (m : Machine) (hd : Nat -> Int) (p : Place) (l : List Int) : Nat -> Place
 | 0 => p
 | k + 1 => nxt m (plc m hd p l k) (hd (l.getD k 0).toNat)
section
variable {m : Machine} {c never : List (List Literal)} {hd : Nat -> Int}
theorem p2n (hm : OkM m) {p : Place} (hp : OkP m p) (l : List Int) : ∀ k, OkP m (plc m hd p l k)
 | 0 => hp
 | k + 1 => s1f hm (p2n hm hp l k) _
theorem p22 {p : Place} {x : Int} {l : List Int} : ∀ k, plc m hd p (x :: l) (k + 1) = plc m hd (nxt m p (hd x.toNat)) l k
 | 0 => by simp [plc]
 | k + 1 => by
  have e : plc m hd p (x :: l) (k + 1 + 1) = nxt m (plc m hd p (x :: l) (k + 1)) (hd ((x :: l).getD (k + 1) 0).toNat) := rfl;rw [e, p22 k]
  conv => rhs; unfold plc
  simp
def p2u (m : Machine) (c : List (List Literal)) (hd : Nat -> Int) (l : List Int) : Prop := ∀ (k : Nat) x, l[k]? = some x -> OkX m x /\ b22 m (plc m hd zero l k) x c = true
theorem p3b : ∀ {P : List Nat} {p q : Place}, o8f m c hd p P q -> (∀ (k : Nat) x, (b27 P)[k]? = some x -> OkX m x /\ b22 m (plc m hd p (b27 P) k) x c = true) /\ plc m hd p (b27 P) P.length = q
 | [], p, q, h => by cases h; exact ⟨fun k x hx => by simp [b27] at hx, rfl⟩
 | y :: P, p, q, ⟨h1, h2, h3⟩ => by
  obtain ⟨h4, h5⟩ := p3b h3;have e : b27 (y :: P) = (y : Int) :: b27 P := rfl;refine ⟨fun k x hx => ?_, ?_⟩
  ·cases k with
   | zero =>
    rw [e] at hx;simp only [List.getElem?_cons_zero, iE9] at hx;subst hx
    exact ⟨⟨by omega, by have : ((2 ^ m.Inputs.length : Nat) : Int) = 2 ^ m.Inputs.length := by simp
                         omega⟩, h2⟩
   | succ k =>
    rw [e] at hx ⊢
    rw [p22];exact h4 k x (by simpa using hx)
  ·rw [e, List.length_cons, p22]; exact h5
theorem p3e (l : List Int) (hf : p2u m c hd l) : ∀ k, k <= l.length -> ∃ P : List Nat, P.length = k /\ o8f m c hd zero P (plc m hd zero l k)
 | 0, _ => ⟨[], rfl, rfl⟩
 | k + 1, hk => by
  obtain ⟨P, h1, h2⟩ := p3e l hf k vf9;obtain ⟨x, hx⟩ := b3b (l := l) (k := k) vf9;obtain ⟨h3, h4⟩ := hf k x hx;obtain ⟨h5, h6⟩ := h3;refine ⟨P ++ [x.toNat], by simp [h1], ?_⟩;have e : plc m hd zero l (k + 1) = nxt m (plc m hd zero l k) (hd x.toNat) := by conv => lhs; unfold plc; rw [o8p hx]
  rw [e];refine d8d h2 ?_ (by rw [Int.toNat_of_nonneg h5]; exact h4);have : ((2 ^ m.Inputs.length : Nat) : Int) = 2 ^ m.Inputs.length := by simp
  omega
theorem p3d (hf : ∀ n ∈ b3g m, n.size <= maxLen) (hm : OkM m) {ins : Bool} (hc : b2s m ins c) {inp val : Int} (hh : ∀ x : Nat, x < 2 ^ m.Inputs.length -> b6a x inp val = some (hd x) /\ OkX m (hd x)) {l : List Int} (hl : l.length <= 900) :
  (p2u m c hd l /\ p16 m l c inp val = some (tab (l.length + 1) (plc m hd zero l), true)) \/ (¬ p2u m c hd l /\ p16 m l c inp val = some ([], false)) := by
 have hi := hm.z.i;have hpow : ((2 ^ m.Inputs.length : Nat) : Int) = 2 ^ m.Inputs.length := by simp
 have hw : IntKind.wrap .u64 ((m.Inputs.length : Nat) : Int) = (m.Inputs.length : Nat) := c9p vf9 vf9
 have pre : ∀ (k : Nat) x, l[k]? = some x -> ∃ b, (if decide (x < 0) = true then some true else (shl .i64 1 (IntKind.wrap .u64 (List.length m.Inputs : Int))).bind fun q15 => some (decide (q15 <= x))) = some b /\ (b = true ↔ ¬ OkX m x) := fun k x hx => by
  unfold OkX In;by_cases h : x < 0
  ·exact ⟨true, by simp [h], by simp; omega⟩
  ·rw [if_neg (by simpa using h), hw, c83 vf9];refine ⟨_, rfl, ?_⟩;simp only [decide_eq_true_eq];omega
 have := g1j (f := p19 m l c inp val) l (fun (s : List Place) k => (s, k)) (fun k => tab (k + 1) (plc m hd zero l)) (fun k x => ¬ (OkX m x /\ b22 m (plc m hd zero l k) x c = true)) (.inr ([], false)) (.inl (tab (l.length + 1) (plc m hd zero l))) (fun k x _ hx hb => by
   have hk := b1k hx;obtain ⟨b, b1, b2⟩ := pre k x hx;unfold p19;simp only [Int.ofNat_lt, hk, decide_true, if_true, c2y (show k < k + 1 by omega), b1h hx, bS9, c74];rw [b1, bS9]
   cases b with
   | true => rfl
   | false =>
    have hx' : OkX m x := Classical.byContradiction fun h => by simpa using b2.2 h
    have ha : b22 m (plc m hd zero l k) x c = false := s33 fun h => hb ⟨hx', h⟩;rw [if_neg vh9, d5o hm.z (p2n hm (o5b hm) l k).s hc, bS9, ha]
    rfl) (fun k x _ hx hb => by
   have hk := b1k hx;have hb := Classical.not_not.1 hb;obtain ⟨b, b1, b2⟩ := pre k x hx;have hbf : b = false := s33 fun h => b2.1 h hb.1;subst hbf;obtain ⟨h0, h1⟩ := hb.1;have hx' : x.toNat < 2 ^ m.Inputs.length := by omega
   have ex : ((x.toNat : Nat) : Int) = x := Int.toNat_of_nonneg h0;obtain ⟨hd1, hd2⟩ := hh x.toNat hx';rw [ex] at hd1;have hok := p2n (hd := hd) hm (o5b hm) l k;unfold p19;simp only [Int.ofNat_lt, hk, decide_true, if_true, c2y (show k < k + 1 by omega), b1h hx, bS9, c74];rw [b1, bS9, if_neg vh9, d5o hm.z hok.s hc, bS9, hb.2, bS9, if_neg vh9, hd1, bS9];obtain ⟨r, r1, _, r3⟩ := p3k hf (plc m hd zero l k) (hd x.toNat)
   have hr : r = (nxt m (plc m hd zero l k) (hd x.toNat), 0) := by
    rcases r3 with ⟨_, _, _, e⟩ | ⟨_, h, _⟩ | ⟨h, _⟩
    ·exact e
    ·exact absurd ⟨hok, hd2⟩ h
    ·exact absurd hm h
   subst hr;obtain ⟨b', c1, c2⟩ := o83 hm (nxt m (plc m hd zero l k) (hd x.toNat));have hb' : b' = true := c2.2 (s1f hm hok _);subst hb';rw [r1, bS9];simp only [not_true_eq_false, decide_false, fT9, if_false, c74, c1, bS9, Bool.not_true];rw [b6d (by rw [b3y]; omega) vh9 vf9, bS9, b2r hk (b1o vf9)];have e : plc m hd zero l (k + 1) = nxt m (plc m hd zero l k) (hd x.toNat) := by conv => lhs; unfold plc; rw [o8p hx]
   rw [<- e, <- l5w]) (by
   unfold p19
   simp only [Int.lt_irrefl, decide_false, fT9, if_false]) (s0 := [zero]) rfl
 unfold p16 p2l;rw [show [Place.mk 0 (0, 0)] = [zero] from rfl];rcases this with ⟨h1, h2⟩ | ⟨⟨k, x, h1, h2⟩, h3⟩
 ·rw [h2];exact .inl ⟨fun k x hx => Classical.not_not.1 (h1 k x hx), rfl⟩
 ·rw [h3];exact .inr ⟨fun h => h2 (h k x h1), rfl⟩
theorem p2w {K : Nat} (hK : End m c hd K) : ∀ {P : List Nat} {p q : Place}, p ∈ (b0h m c hd K).1 -> o8f m c hd p P q -> q ∈ (b0h m c hd K).1
 | [], p, q, hp, h => by cases h; exact hp
 | x :: P, p, q, hp, ⟨h1, h2, h3⟩ => by
  obtain ⟨k, hk⟩ := b1d.1 hp;exact p2w hK (closed hk (by have := b1k hk; have := hK.2.2; omega) h2 h1) h3
theorem p24 (k : Nat) : zero ∈ (b0h m c hd k).1 := (d4g (m := m) (c := c) (hd := hd) (Nat.zero_le k)).subset (by simp [b0h])
inductive Dp (s : S3) : Nat -> Nat -> Prop
 | z : Dp s 0 0
 | s {k b n : Nat} (hk : 1 <= k) (hb : s.2.1[k]? = some (b : Int)) (h : Dp s b n) : Dp s k (n + 1)
structure Bo (i : Int) (s : S3) : Prop where
 l : ∀ (j : Nat) b, s.2.1[j]? = some b -> b <= i
 m : ∀ (j j' : Nat) b b', j <= j' -> s.2.1[j]? = some b -> s.2.1[j']? = some b' -> b <= b'
theorem Bo.up {i i' : Int} {s : S3} (h : Bo i s) (hi : i <= i') : Bo i' s := ⟨fun j b hb => Int.le_trans (h.l j b hb) hi, h.m⟩
theorem p3l {i x : Nat} {q : Place} {s : S3} (h : Bo i s) : Bo i (b5l s i x q) := by
 unfold b5l;split
 ·exact h
 ·have key : ∀ (j : Nat) b, (s.2.1 ++ [(i : Int)])[j]? = some b -> (j < s.2.1.length /\ s.2.1[j]? = some b) \/ (j = s.2.1.length /\ b = i) := fun j b hb => by
   by_cases hj : j < s.2.1.length
   ·rw [List.getElem?_append_left hj] at hb; exact .inl ⟨hj, hb⟩
   ·have := b1k hb
    simp only [List.length_append, List.length_cons, List.length_nil] at this;have e : j = s.2.1.length := by omega
    subst e;simp only [List.getElem?_append_right (Nat.le_refl _), Nat.sub_self, List.getElem?_cons_zero, iE9] at hb;exact .inr ⟨rfl, hb.symm⟩
  refine ⟨fun j b hb => ?_, fun j j' b b' hj hb hb' => ?_⟩
  ·rcases key j b hb with ⟨_, h1⟩ | ⟨_, rfl⟩
   ·exact h.l j b h1
   ·exact Int.le_refl _
  ·rcases key j b hb with ⟨h1, h2⟩ | ⟨h1, rfl⟩ <;> rcases key j' b' hb' with ⟨h3, h4⟩ | ⟨h3, rfl⟩
   ·exact h.m j j' b b' hj h2 h4
   ·exact h.l j b h2
   ·omega
   ·exact Int.le_refl _
theorem p2x {i : Nat} {p : Place} : ∀ (x : Nat) {s : S3}, Bo i s -> Bo i (inn m c hd i p x s)
 | 0, s, h => h
 | x + 1, s, h => by
  unfold inn; split
  ·exact p3l (p2x x h)
  ·exact p2x x h
theorem p2m : ∀ k : Nat, Bo ((k : Int) - 1) (b0h m c hd k)
 | 0 => by
  have key : ∀ (j : Nat) b, ([(-1)] : List Int)[j]? = some b -> b = -1 := fun j b hb => by
   cases j with
   | zero => simpa using hb.symm
   | succ j => simp at hb
  exact ⟨fun j b hb => by have := key j b hb; omega, fun j j' b b' _ hb hb' => by have := key j b hb; have := key j' b' hb'; omega⟩
 | k + 1 => by
  have h := p2m k;unfold b0h
  cases hp : (b0h m c hd k).1[k]? with
  | none => exact h.up vf9
  | some p => exact (p2x (p := p) _ (h.up vf9)).up vf9
theorem p3m (k : Nat) : (b0h m c hd k).2.1 <+: (b0h m c hd (k + 1)).2.1 := by
 have add : ∀ (s : S3) (i x : Nat) (q : Place), s.2.1 <+: (b5l s i x q).2.1 := fun s i x q => by
  unfold b5l; split
  ·exact List.prefix_refl _
  ·exact List.prefix_append _ _
 have inner : ∀ (i : Nat) (p : Place) (x : Nat) (s : S3), s.2.1 <+: (inn m c hd i p x s).2.1 := fun i p x s => by
  induction x with
  | zero => exact List.prefix_refl _
  | succ x ih =>
   unfold inn; split
   ·exact ih.trans (add _ _ _ _)
   ·exact ih
 conv => rhs; unfold b0h
 cases (b0h m c hd k).1[k]? with
 | none => exact List.prefix_refl _
 | some p => exact inner _ _ _ _
theorem p3n {k k' : Nat} (h : k <= k') : (b0h m c hd k).2.1 <+: (b0h m c hd k').2.1 := by
 induction k' with
 | zero => have : k = 0 := by omega
           subst this; exact List.prefix_refl _
 | succ n ih =>
  by_cases e : k = n + 1
  ·subst e; exact List.prefix_refl _
  ·exact (ih vf9).trans (p3m n)
theorem p26 {s : S3} (hb : ∀ (j j' : Nat) b b', j <= j' -> s.2.1[j]? = some b -> s.2.1[j']? = some b' -> b <= b') : ∀ {k n : Nat}, Dp s k n -> ∀ {k' n' : Nat}, Dp s k' n' -> k <= k' -> n <= n' := by
 intro k n h;induction h with
 | z => intro k' n' _ _; omega
 | s hk hb1 h ih =>
  intro k' n' h' hkk
  cases h' with
  | z => omega
  | s hk' hb1' h'' =>
   have := hb _ _ _ _ hkk hb1 hb1';have := ih h'' vf9;omega
theorem p2t {s : S3} (ht : Tr m c hd s) : ∀ (d k : Nat), k <= d -> k < s.1.length -> ∃ n, Dp s k n
 | 0, k, h1, h2 => by
  have : k = 0 := by omega
  subst this; exact ⟨0, .z⟩
 | d + 1, k, h1, h2 => by
  by_cases e : k = 0
  ·subst e; exact ⟨0, .z⟩
  ·obtain ⟨q, hq⟩ := b3b h2;obtain ⟨b, x, p, e1, _, e3, _, e5, _⟩ := ht.t k q vf9 hq;obtain ⟨n, hn⟩ := p2t ht d b vf9 (b1k e5);exact ⟨n + 1, .s vf9 e1 hn⟩
theorem p3t {s : S3} (ht : Tr m c hd s) : ∀ {k n : Nat}, Dp s k n -> k < s.1.length -> ∀ l : List Int, l.length + k <= 768 -> ∃ r, b0w (b73 ⟨s.1, s.2.1, s.2.2⟩) ((k : Int), l) = some r /\ r.length = n + l.length := by
 intro k n h;induction h with
 | z => exact fun _ l _ => ⟨l, b3d (by unfold b73; simp), by omega⟩
 | @s k b n hk hb h ih =>
  intro hlt l hl;obtain ⟨q, hq⟩ := b3b hlt;obtain ⟨b', x, p, e1, e2, e3, e4, e5, _⟩ := ht.t k q hk hq;have eb : b' = b := by rw [hb] at e1; have := Option.some.inj e1; omega
  subst eb;obtain ⟨r, h1, h2⟩ := ih (b1k e5) ((x : Int) :: l) vi9;refine ⟨r, ?_, by rw [h2]; simp; omega⟩;rw [<- h1];refine b32 ?_;unfold b73;have : 0 < (k : Int) := by omega
  simp only [b1h e1, b1h e2, bS9, this, decide_true, if_true];rw [b6d vh9 vf9 vf9, bS9]; rfl
theorem p27 (hm : OkM m) {K : Nat} (hK : End m c hd K) : ∀ {P : List Nat} {i n : Nat} {p q : Place}, (b0h m c hd K).1[i]? = some p -> Dp (b0h m c hd K) i n -> o8f m c hd p P q -> ∃ n', Dp (b0h m c hd K) ((b0h m c hd K).1.idxOf q) n' /\ n' <= n + P.length
 | [], i, n, p, q, hp, hd0, h => by
  cases h
  have hn := (s3t (c := c) (hd := hd) hm K).n
  have e : (b0h m c hd K).1.idxOf p = i := by
   have h1 := d2b (b1d.2 ⟨i, hp⟩);have hlt := b1k hp;have hlt' := b1k h1;rw [gG9 hlt] at hp;rw [gG9 hlt'] at h1;have := (List.getElem_inj hn).1 ((Option.some.inj h1).trans (Option.some.inj hp).symm);exact this
  rw [e]; exact ⟨n, hd0, by simp⟩
 | x :: P, i, n, p, q, hp, hd0, ⟨h1, h2, h3⟩ => by
  have hiK : i < K := by have := b1k hp; have := hK.2.2; omega
  have hmemK := closed hp hiK h2 h1;obtain ⟨p', hp'⟩ := b3b (hK.2.1 i hiK);have hpp : p' = p := by have := c0r (d4g (m := m) (c := c) (hd := hd) (show i <= K by omega)) hp'; rw [hp] at this; exact (Option.some.inj this).symm
  subst hpp;have hp1 := c0r (c3y (m := m) (c := c) (hd := hd) i) hp';have hmem := closed (m := m) (c := c) (hd := hd) (k := i + 1) hp1 vf9 h2 h1;have eidx := j4z (d4g (m := m) (c := c) (hd := hd) (show i + 1 <= K by omega)) hmem;have hj := d2b hmemK;have hjlt := b1k hj;obtain ⟨n1, hn1⟩ := p2t (d4h (c := c) (hd := hd) hm K) _ _ (Nat.le_refl _) hjlt
  have hstep : ∀ j, j = (b0h m c hd K).1.idxOf (nxt m p' (hd x)) -> Dp (b0h m c hd K) j n1 -> n1 <= n + 1 := fun j ej hj1 => by
   cases hj1 with
   | z => omega
   | @s _ b n2 hk hb hb' =>
    rw [ej] at hb;have hlt1 := List.idxOf_lt_length_iff.2 hmem
    have hback : (b0h m c hd (i + 1)).2.1[(b0h m c hd K).1.idxOf (nxt m p' (hd x))]? = some (b : Int) := by
     rw [eidx] at hb ⊢
     obtain ⟨b2, hb2⟩ := b3b (l := (b0h m c hd (i + 1)).2.1) (k := (b0h m c hd (i + 1)).1.idxOf (nxt m p' (hd x))) (by rw [(s3t (c := c) (hd := hd) hm (i + 1)).b]; exact hlt1);have := c0r (p3n (m := m) (c := c) (hd := hd) (show i + 1 <= K by omega)) hb2;rw [hb] at this;rw [hb2]; exact this.symm
    have := (p2m (m := m) (c := c) (hd := hd) (i + 1)).l _ _ hback;have := p26 (p2m (m := m) (c := c) (hd := hd) K).m hb' hd0 vf9;omega
  obtain ⟨n', hn', hle⟩ := p27 hm hK hj hn1 h3;have := hstep _ rfl hn1;exact ⟨n', hn', by simp; omega⟩
theorem p39 (hm : OkM m) {r : List Int × Bool} (hs : d5x m c never hd r) {P : List Nat} {q : Place} (hg : o8f m c hd zero P q) (hh : b46 m q 0 never = true) : r.2 = true /\ r.1.length <= P.length := by
 obtain ⟨K, hK, h | h⟩ := hs
 ·have := h.2 q (p2w hK (p24 K) hg)
  rw [hh] at this; cases this
 ·obtain ⟨k, q', P', rfl, h1, h2, h3, h4, h5, h6⟩ := h;refine ⟨rfl, ?_⟩;have ht := d4h (c := c) (hd := hd) hm K;have hgood := s3t (c := c) (hd := hd) hm K;have hlen := c0q hm hgood.n hgood.o;obtain ⟨n', hn', hle⟩ := p27 hm hK (i := 0) ht.z .z hg;obtain ⟨n, hn⟩ := p2t ht k k (Nat.le_refl _) (b1k h1);obtain ⟨l, hl1, hl2⟩ := p3t ht hn (b1k h1) [] (by have := b1k h1; simp; omega);unfold b4c c6e at h6;rw [hl1, bS9] at h6;have hlk := Option.some.inj h6
  have hk : k <= (b0h m c hd K).1.idxOf q := by
   refine Classical.byContradiction fun hlt => ?_;have := h3 _ q vf9 (d2b (p2w hK (p24 K) hg));rw [hh] at this; cases this
  have := p26 (p2m (m := m) (c := c) (hd := hd) K).m hn hn' hk;simp only;rw [<- hlk, hl2];simp;omega
end
end
end Go.Nw.KM
namespace Go.Nw.KM
noncomputable section
theorem p32 {m : Machine} {hd : Nat -> Int} {l : List Int} (hl : l.length <= 900) : get (tab (l.length + 1) (plc m hd zero l)) (wr ((List.length (tab (l.length + 1) (plc m hd zero l)) : Int) - 1)) = some (plc m hd zero l l.length) := by
 rw [c1n (by rw [b3y]; exact b1o vf9), b3y];have : ((l.length + 1 : Nat) : Int) - 1 = (l.length : Nat) := by omega
 rw [this];exact c2y vf9
section
variable [Bd]
end
end
end Go.Nw.KM
