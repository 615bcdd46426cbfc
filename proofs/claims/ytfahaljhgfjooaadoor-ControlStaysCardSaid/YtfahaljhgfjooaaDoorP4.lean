/- Plain laws on the models. -/
import Derived.Test.YtfahaljhgfjooaaDoorKM
import Derived.Test.YtfahaljhgfjooaaDoorNwSearch
import Derived.Test.YtfahaljhgfjooaaDoorNwLast
set_option linter.all false
namespace Go.Nw.KM
theorem b4j {α β : Type} {f : Int -> Option (Out Int β)} {l : List α} {p : Nat -> α -> Prop} {e u : β} (hl : l.length <= maxLen)
  (h : ∀ (k : Nat) x, l[k]? = some x -> ∃ b : Bool, f k = (if b = true then some (.br e) else some (.nx (wr ((k : Int) + 1)))) /\ (b = true ↔ p k x)) (fin : f (l.length : Int) = some (.br u)) :
  ((∀ k x, l[k]? = some x -> ¬ p k x) /\ b0w f 0 = some u) \/ ((∃ k x, l[k]? = some x /\ p k x) /\ b0w f 0 = some e) := by
 refine c3v l p e u (fun k x hx hb => ?_) (fun k x hx hb => ?_) fin
 ·obtain ⟨b, h1, h2⟩ := h k x hx
  rw [h1, if_pos (h2.2 hb)]
 ·obtain ⟨b, h1, h2⟩ := h k x hx
  rw [h1, if_neg (fun hh => hb (h2.1 hh)), b2r (b1k hx) hl]
def c0l (b : Int) : Prop := 97 <= b /\ b <= 122
def c0m (s : ByteArray) : Prop := s ∉ wl_0 /\ (∀ b ∈ b3q s, c0l b) /\ 0 < s.size
def c3w (s : ByteArray) : Prop := s.size <= 8 /\ c0m s
theorem b1d {α : Type} {l : List α} {x : α} : x ∈ l ↔ ∃ k : Nat, l[k]? = some x := List.mem_iff_getElem?
theorem g3b (s : ByteArray) (h : s.size <= maxLen) : (b3q s).length <= maxLen := by rw [d42]; exact h
theorem l7j : wl_0.length = 8 := rfl
theorem g5y (s : ByteArray) (hs : s.size <= maxLen) : ∃ b, c02 s = some b /\ (b = true ↔ c0m s) := by
 unfold c02
 rcases b4j (f := c4j s) (l := wl_0) (p := fun _ x => s = x) (e := .inr false) (u := .inl ()) (by rw [l7j]; decide) (fun k x hx => by
   refine ⟨decide (s = x), ?_, by simp⟩
   have := b1k hx
   unfold c4j
   simp only [b1h hx, bS9, Int.ofNat_lt, this, decide_true, if_true]) (by unfold c4j; simp only [Int.lt_irrefl, decide_false, fT9, if_false]) with ⟨h1, h2⟩ | ⟨⟨k, x, h1, h2⟩, h3⟩
 ·rw [h2]
  simp only [bS9, c8o]
  have hnw : s ∉ wl_0 := fun h => by
   obtain ⟨k, hk⟩ := b1d.1 h
   exact h1 k s hk rfl
  rcases b4j (f := c4i s) (l := b3q s) (p := fun _ x => ¬ c0l x) (e := .inr false) (u := .inl ()) (g3b s hs) (fun k x hx => by
    refine ⟨decide (x < 97) || decide (122 < x), ?_, by simp [c0l]; omega⟩
    have := b1k hx
    rw [d42] at this
    unfold c4i
    simp only [b1h hx, bS9, Int.ofNat_lt, this, decide_true, if_true]) (by rw [d42]; unfold c4i; simp only [Int.lt_irrefl, decide_false, fT9, if_false]) with ⟨h3, h4⟩ | ⟨⟨k, x, h3, h4⟩, h5⟩
  ·rw [h4]
   refine ⟨_, rfl, ?_⟩
   simp only [decide_eq_true_eq, c0m, hnw, not_false_eq_true, true_and]
   constructor
   ·exact fun h => ⟨fun b hb => by
     obtain ⟨k, hk⟩ := b1d.1 hb
     exact Classical.not_not.1 (h3 k b hk), by omega⟩
   ·exact fun h => by have := h.2; omega
  ·rw [h5]
   exact ⟨_, rfl, by simp [c0m]; exact fun _ h => absurd (h x (b1d.2 ⟨k, h3⟩)) h4⟩
 ·rw [h3]
  exact ⟨_, rfl, by simp [c0m]; exact fun h => absurd (b1d.2 ⟨k, h2 ▸ h1⟩) h⟩
theorem g5s (s : ByteArray) : b84 s = true ↔ s ∈ wl_0 := by
 have hw : wl_0 = [ByteArray.mk #[97, 110, 121], ByteArray.mk #[116, 111], ByteArray.mk #[122, 101, 114, 111], ByteArray.mk #[109, 111, 114, 101], ByteArray.mk #[108, 101, 115, 115], ByteArray.mk #[105, 102], ByteArray.mk #[121, 101, 115], ByteArray.mk #[110, 111]] := rfl
 rw [hw]
 unfold b84 b5w
 generalize ByteArray.mk #[97, 110, 121] = a0
 generalize ByteArray.mk #[116, 111] = a1
 generalize ByteArray.mk #[122, 101, 114, 111] = a2
 generalize ByteArray.mk #[109, 111, 114, 101] = a3
 generalize ByteArray.mk #[108, 101, 115, 115] = a4
 generalize ByteArray.mk #[105, 102] = a5
 generalize ByteArray.mk #[121, 101, 115] = a6
 generalize ByteArray.mk #[110, 111] = a7
 simp only [List.mem_cons, List.not_mem_nil, or_false]
 by_cases h0 : s = a0
 ·subst h0
  simp only [decide_true, decide_false, if_true, if_false, fT9, true_or, or_true]
 by_cases h1 : s = a1
 ·subst h1
  simp only [h0, decide_true, decide_false, if_true, if_false, fT9, true_or, or_true]
 by_cases h2 : s = a2
 ·subst h2
  simp only [h0, h1, decide_true, decide_false, if_true, if_false, fT9, true_or, or_true]
 by_cases h3 : s = a3
 ·subst h3
  simp only [h0, h1, h2, decide_true, decide_false, if_true, if_false, fT9, true_or, or_true]
 by_cases h4 : s = a4
 ·subst h4
  simp only [h0, h1, h2, h3, decide_true, decide_false, if_true, if_false, fT9, true_or, or_true]
 by_cases h5 : s = a5
 ·subst h5
  simp only [h0, h1, h2, h3, h4, decide_true, decide_false, if_true, if_false, fT9, true_or, or_true]
 by_cases h6 : s = a6
 ·subst h6
  simp only [h0, h1, h2, h3, h4, h5, decide_true, decide_false, if_true, if_false, fT9, true_or, or_true]
 simp only [h0, h1, h2, h3, h4, h5, h6, decide_false, if_false, fT9, false_or, ite_self, decide_eq_true_eq]
 by_cases h7 : s = a7 <;> simp [h7]
theorem j0o (s : ByteArray) : s = ByteArray.mk #[] ↔ s.size = 0 := by
 constructor
 ·rintro rfl; rfl
 ·intro h
  cases s with | mk d =>
  have : d.size = 0 := h
  rw [Array.size_eq_zero_iff.1 this]
theorem g5r (s : ByteArray) (hs : s.size <= maxLen) : ∃ b, r1j s = some b /\ (b = true ↔ (∀ b ∈ b3q s, c0l b) /\ 0 < s.size) := by
 unfold r1j
 rcases b4j (f := c42 s) (l := b3q s) (p := fun _ x => ¬ c0l x) (e := .inr false) (u := .inl ()) (g3b s hs) (fun k x hx => by
   refine ⟨decide (x < 97) || decide (122 < x), ?_, by simp [c0l]; omega⟩
   have := b1k hx
   unfold c42
   simp only [b1h hx, bS9, Int.ofNat_lt, this, decide_true, if_true]) (by unfold c42; simp only [Int.lt_irrefl, decide_false, fT9, if_false]) with ⟨h3, h4⟩ | ⟨⟨k, x, h3, h4⟩, h5⟩
 ·rw [h4]
  refine ⟨_, rfl, ?_⟩
  simp only [Bool.not_eq_true', decide_eq_false_iff_not, j0o]
  constructor
  ·exact fun h => ⟨fun b hb => by
    obtain ⟨k, hk⟩ := b1d.1 hb
    exact Classical.not_not.1 (h3 k b hk), by omega⟩
  ·exact fun h => by have := h.2; omega
 ·rw [h5]
  exact ⟨_, rfl, by simp; exact fun h => absurd (h x (b1d.2 ⟨k, h3⟩)) h4⟩
theorem b9l {α β : Type} {f : (List β × Int) -> Option (Out (List β × Int) (List β))} (l : List α) (g : α -> β) (l0 : List β) (b : Nat) (hb1 : 1 <= b) (hb : (l0.length + l.length) * b <= 2 ^ 40)
  (step : ∀ (k : Nat) x acc, l[k]? = some x -> f (acc, (k : Int)) = (ap b acc [g x]).bind fun r => some (.nx (r, wr ((k : Int) + 1)))) (fin : ∀ acc, f (acc, (l.length : Int)) = some (.br acc)) : b0w f (l0, 0) = some (l0 ++ l.map g) := by
 have hn : l0.length + l.length <= 2 ^ 40 := Nat.le_trans (Nat.le_mul_of_pos_right _ hb1) hb
 refine b4h l.length (fun acc k => (acc, k)) (fun k => l0 ++ (l.take k).map g) _ (by simp) (fun k hk => ?_) ?_
 ·obtain ⟨x, hx⟩ := b3b hk
  rw [step k x _ hx, b9k, bS9, b2r hk (by simp only [maxLen]; omega)]
  ·have : (l.take (k + 1)).map g = (l.take k).map g ++ [g x] := by rw [List.take_add_one, hx]; simp
   rw [this, List.append_assoc]
  ·refine Nat.le_trans (Nat.mul_le_mul_right b ?_) hb
   simp only [List.length_append, List.length_map, List.length_take, List.length_cons, List.length_nil]
   omega
 ·rw [fin, List.take_length]
def b3g (m : Machine) : List ByteArray := ((m.Inputs ++ m.Outputs) ++ m.Counters.map (·.Name)) ++ m.States.map (·.Name)
structure SizesOk (m : Machine) : Prop where
 i : m.Inputs.length <= 4
 o : m.Outputs.length <= 6
 c : m.Counters.length <= 2
 s : 1 <= m.States.length /\ m.States.length <= 12
 r : m.Rules.length <= 40
theorem j8q {m : Machine} (h : SizesOk m) : c4l m = some (b3g m) := by
 have := h.i; have := h.o; have := h.c; have := h.s
 unfold c4l c8u c8v
 rw [b9k (by simp; omega), bS9, b9k (by simp; omega), bS9,
  b9l m.Counters (·.Name) _ 16 (by omega) (by simp; omega) (fun k x acc hx => by
   have := b1k hx
   unfold c8t
   simp only [b1h hx, bS9, Int.ofNat_lt, this, decide_true, if_true]) (fun acc => by unfold c8t; simp only [Int.lt_irrefl, decide_false, fT9, if_false]), bS9,
  b9l m.States (·.Name) _ 16 (by omega) (by simp; omega) (fun k x acc hx => by
   have := b1k hx
   unfold c8s
   simp only [b1h hx, bS9, Int.ofNat_lt, this, decide_true, if_true]) (fun acc => by unfold c8s; simp only [Int.lt_irrefl, decide_false, fT9, if_false]), bS9]
 rfl
theorem j8p {m : Machine} (h : SizesOk m) : c45 m = some (b3g m) := by
 have := h.i; have := h.o; have := h.c; have := h.s
 unfold c45
 split
 ·unfold c88 c9b c9c c9i
  rw [if_pos ⟨by simp; omega, by simp, by simp; omega⟩, bS9,
   b9l m.Counters (·.Name) _ 16 (by omega) (by simp; omega) (fun k x acc hx => by
    have := b1k hx
    unfold c9a
    simp only [b1h hx, bS9, Int.ofNat_lt, this, decide_true, if_true]) (fun acc => by unfold c9a; simp only [Int.lt_irrefl, decide_false, fT9, if_false]), bS9,
   b9l m.States (·.Name) _ 16 (by omega) (by simp; omega) (fun k x acc hx => by
    have := b1k hx
    unfold c89
    simp only [b1h hx, bS9, Int.ofNat_lt, this, decide_true, if_true]) (fun acc => by unfold c89; simp only [Int.lt_irrefl, decide_false, fT9, if_false]), bS9]
  simp [b3g]
 ·have h1 : m.Inputs = [] := List.eq_nil_of_length_eq_zero (by omega)
  have h2 : m.Outputs = [] := List.eq_nil_of_length_eq_zero (by omega)
  unfold c9d c9g c9h c9j
  rw [if_pos ⟨by simp [h1, h2], by simp⟩, bS9,
   b9l m.Counters (·.Name) _ 16 (by omega) (by simp; omega) (fun k x acc hx => by
    have := b1k hx
    unfold c9f
    simp only [b1h hx, bS9, Int.ofNat_lt, this, decide_true, if_true]) (fun acc => by unfold c9f; simp only [Int.lt_irrefl, decide_false, fT9, if_false]), bS9,
   b9l m.States (·.Name) _ 16 (by omega) (by simp; omega) (fun k x acc hx => by
    have := b1k hx
    unfold c9e
    simp only [b1h hx, bS9, Int.ofNat_lt, this, decide_true, if_true]) (fun acc => by unfold c9e; simp only [Int.lt_irrefl, decide_false, fT9, if_false]), bS9]
  simp [b3g, h1, h2]
end Go.Nw.KM
namespace Go.Nw
def b5q (n : Nat) (p : Nat -> Bool) : Option Nat := (List.range n).find? p
theorem d72 {n : Nat} {p : Nat -> Bool} : b5q n p = none ↔ ∀ t, t < n -> p t = false := by
 unfold b5q
 rw [List.find?_eq_none]
 constructor
 ·intro h t ht; have := h t (List.mem_range.2 ht); simpa using this
 ·intro h t ht; rw [h t (List.mem_range.1 ht)]; simp
theorem j01 {n : Nat} {p : Nat -> Bool} {k : Nat} (hk : k < n) (hp : p k = true) (hb : ∀ j, j < k -> p j = false) : b5q n p = some k := by
 unfold b5q
 rw [List.find?_range_eq_some]
 exact ⟨hp, List.mem_range.2 hk, fun j hj => by simp [hb j hj]⟩
theorem j00 {n : Nat} {p : Nat -> Bool} {k : Nat} (h : b5q n p = some k) : k < n /\ p k = true /\ ∀ j, j < k -> p j = false := by
 unfold b5q at h
 rw [List.find?_range_eq_some] at h
 exact ⟨List.mem_range.1 h.2.1, h.1, fun j hj => by have := h.2.2 j hj; simpa using this⟩
theorem c7s {β : Type} {f : Int -> Option (Out Int β)} {n : Nat} {p : Nat -> Bool} {e : Nat -> β} {u : β} (hb : ∀ t : Nat, t < n -> p t = true -> f (t : Int) = some (.br (e t)))
  (hn : ∀ t : Nat, t < n -> p t = false -> f (t : Int) = some (.nx ((t : Int) + 1))) (hu : f (n : Int) = some (.br u)) : b0w f 0 = some (match b5q n p with | some t => e t | none => u) := by
 have key : ∀ (d k : Nat), n - k = d -> k <= n -> (∀ j, j < k -> p j = false) -> b0w f (k : Int) = some (match b5q n p with | some t => e t | none => u) := by
  intro d
  induction d with
  | zero =>
   intro k hd hk hj
   have : k = n := by omega
   subst this
   rw [d72.2 hj]
   exact b3d hu
  | succ d ih =>
   intro k hd hk hj
   cases hp : p k with
   | true =>
    rw [j01 (by omega) hp hj]
    exact b3d (hb k (by omega) hp)
   | false =>
    rw [b32 (hn k (by omega) hp)]
    have := ih (k + 1) (by omega) (by omega) (fun j hj' => by
     by_cases e : j = k
     ·subst e; exact hp
     ·exact hj j (by omega))
    rwa [show ((k + 1 : Nat) : Int) = (k : Int) + 1 by omega] at this
 exact key n 0 (by omega) (by omega) fun j hj => by omega
end Go.Nw
