/- What is valid: both checks of a machine answer alike. First part: words, literals, conditions. -/
import Derived.Test.YtfahaljhgfjooaaDoorKM
import Derived.Test.YtfahaljhgfjooaaDoorNwSearch
import Derived.Test.YtfahaljhgfjooaaDoorNwLast
set_option linter.all false
namespace Go.Nw.KM
theorem b32 {α β : Type} {f : Int -> Option (Out Int β)} {l : List α} {p : Nat -> α -> Prop} {e u : β} (hl : l.length <= maxLen)
  (h : ∀ (k : Nat) x, l[k]? = some x -> ∃ b : Bool, f k = (if b = true then some (.br e) else some (.nx (wr ((k : Int) + 1)))) /\ (b = true ↔ p k x)) (fin : f (l.length : Int) = some (.br u)) :
  ((∀ k x, l[k]? = some x -> ¬ p k x) /\ b0w f 0 = some u) \/ ((∃ k x, l[k]? = some x /\ p k x) /\ b0w f 0 = some e) := by
 refine c0y l p e u (fun k x hx hb => ?_) (fun k x hx hb => ?_) fin
 ·obtain ⟨b, h1, h2⟩ := h k x hx
  rw [h1, if_pos (h2.2 hb)]
 ·obtain ⟨b, h1, h2⟩ := h k x hx
  rw [h1, if_neg (fun hh => hb (h2.1 hh)), b21 (b1m hx) hl]
def b83 (b : Int) : Prop := 97 <= b /\ b <= 122
def b84 (s : ByteArray) : Prop := s ∉ wl_0 /\ (∀ b ∈ b29 s, b83 b) /\ 0 < s.size
def c00 (s : ByteArray) : Prop := s.size <= 8 /\ b84 s
theorem b1f {α : Type} {l : List α} {x : α} : x ∈ l ↔ ∃ k : Nat, l[k]? = some x := List.mem_iff_getElem?
theorem d7y (s : ByteArray) (h : s.size <= maxLen) : (b29 s).length <= maxLen := by rw [d0m]; exact h
theorem j92 : wl_0.length = 8 := rfl
theorem d93 (s : ByteArray) (hs : s.size <= maxLen) : ∃ b, b89 s = some b /\ (b = true ↔ b84 s) := by
 unfold b89
 rcases b32 (f := c1n s) (l := wl_0) (p := fun _ x => s = x) (e := .inr false) (u := .inl ()) (by rw [j92]; decide) (fun k x hx => by
   refine ⟨decide (s = x), ?_, by simp⟩
   have := b1m hx
   unfold c1n
   simp only [b1e hx, bS9, Int.ofNat_lt, this, decide_true, if_true]) (by unfold c1n; simp only [Int.lt_irrefl, decide_false, fT9, if_false]) with ⟨h1, h2⟩ | ⟨⟨k, x, h1, h2⟩, h3⟩
 ·rw [h2]
  simp only [bS9, c46]
  have hnw : s ∉ wl_0 := fun h => by
   obtain ⟨k, hk⟩ := b1f.1 h
   exact h1 k s hk rfl
  rcases b32 (f := c1m s) (l := b29 s) (p := fun _ x => ¬ b83 x) (e := .inr false) (u := .inl ()) (d7y s hs) (fun k x hx => by
    refine ⟨decide (x < 97) || decide (122 < x), ?_, by simp [b83]; omega⟩
    have := b1m hx
    rw [d0m] at this
    unfold c1m
    simp only [b1e hx, bS9, Int.ofNat_lt, this, decide_true, if_true]) (by rw [d0m]; unfold c1m; simp only [Int.lt_irrefl, decide_false, fT9, if_false]) with ⟨h3, h4⟩ | ⟨⟨k, x, h3, h4⟩, h5⟩
  ·rw [h4]
   refine ⟨_, rfl, ?_⟩
   simp only [decide_eq_true_eq, b84, hnw, not_false_eq_true, true_and]
   constructor
   ·exact fun h => ⟨fun b hb => by
     obtain ⟨k, hk⟩ := b1f.1 hb
     exact Classical.not_not.1 (h3 k b hk), by omega⟩
   ·exact fun h => by have := h.2; omega
  ·rw [h5]
   exact ⟨_, rfl, by simp [b84]; exact fun _ h => absurd (h x (b1f.2 ⟨k, h3⟩)) h4⟩
 ·rw [h3]
  exact ⟨_, rfl, by simp [b84]; exact fun h => absurd (b1f.2 ⟨k, h2 ▸ h1⟩) h⟩
theorem d9z (s : ByteArray) : b70 s = true ↔ s ∈ wl_0 := by
 have hw : wl_0 = [ByteArray.mk #[97, 110, 121], ByteArray.mk #[116, 111], ByteArray.mk #[122, 101, 114, 111], ByteArray.mk #[109, 111, 114, 101], ByteArray.mk #[108, 101, 115, 115], ByteArray.mk #[105, 102], ByteArray.mk #[121, 101, 115], ByteArray.mk #[110, 111]] := rfl
 rw [hw]
 unfold b70 b48
 generalize ByteArray.mk #[97, 110, 121] = a0
 generalize ByteArray.mk #[116, 111] = a1
 generalize ByteArray.mk #[122, 101, 114, 111] = a2
 generalize ByteArray.mk #[109, 111, 114, 101] = a3
 generalize ByteArray.mk #[108, 101, 115, 115] = a4
 generalize ByteArray.mk #[105, 102] = a5
 generalize ByteArray.mk #[121, 101, 115] = a6
 generalize ByteArray.mk #[110, 111] = a7
 simp only [List.mem_cons, List.not_mem_nil, or_false]
 by_cases h0 : s = a0
 ·subst h0
  simp only [decide_true, decide_false, if_true, if_false, fT9, true_or, or_true]
 by_cases h1 : s = a1
 ·subst h1
  simp only [h0, decide_true, decide_false, if_true, if_false, fT9, true_or, or_true]
 by_cases h2 : s = a2
 ·subst h2
  simp only [h0, h1, decide_true, decide_false, if_true, if_false, fT9, true_or, or_true]
 by_cases h3 : s = a3
 ·subst h3
  simp only [h0, h1, h2, decide_true, decide_false, if_true, if_false, fT9, true_or, or_true]
 by_cases h4 : s = a4
 ·subst h4
  simp only [h0, h1, h2, h3, decide_true, decide_false, if_true, if_false, fT9, true_or, or_true]
 by_cases h5 : s = a5
 ·subst h5
  simp only [h0, h1, h2, h3, h4, decide_true, decide_false, if_true, if_false, fT9, true_or, or_true]
 by_cases h6 : s = a6
 ·subst h6
  simp only [h0, h1, h2, h3, h4, h5, decide_true, decide_false, if_true, if_false, fT9, true_or, or_true]
 simp only [h0, h1, h2, h3, h4, h5, h6, decide_false, if_false, fT9, false_or, ite_self, decide_eq_true_eq]
 by_cases h7 : s = a7 <;> simp [h7]
theorem g4c (s : ByteArray) : s = ByteArray.mk #[] ↔ s.size = 0 := by
 constructor
 ·rintro rfl; rfl
 ·intro h
  cases s with | mk d =>
  have : d.size = 0 := h
  rw [Array.size_eq_zero_iff.1 this]
theorem d9y (s : ByteArray) (hs : s.size <= maxLen) : ∃ b, c17 s = some b /\ (b = true ↔ (∀ b ∈ b29 s, b83 b) /\ 0 < s.size) := by
 unfold c17
 rcases b32 (f := c18 s) (l := b29 s) (p := fun _ x => ¬ b83 x) (e := .inr false) (u := .inl ()) (d7y s hs) (fun k x hx => by
   refine ⟨decide (x < 97) || decide (122 < x), ?_, by simp [b83]; omega⟩
   have := b1m hx
   unfold c18
   simp only [b1e hx, bS9, Int.ofNat_lt, this, decide_true, if_true]) (by unfold c18; simp only [Int.lt_irrefl, decide_false, fT9, if_false]) with ⟨h3, h4⟩ | ⟨⟨k, x, h3, h4⟩, h5⟩
 ·rw [h4]
  refine ⟨_, rfl, ?_⟩
  simp only [Bool.not_eq_true', decide_eq_false_iff_not, g4c]
  constructor
  ·exact fun h => ⟨fun b hb => by
    obtain ⟨k, hk⟩ := b1f.1 hb
    exact Classical.not_not.1 (h3 k b hk), by omega⟩
  ·exact fun h => by have := h.2; omega
 ·rw [h5]
  exact ⟨_, rfl, by simp; exact fun h => absurd (h x (b1f.2 ⟨k, h3⟩)) h4⟩
theorem b8d {α β : Type} {f : (List β × Int) -> Option (Out (List β × Int) (List β))} (l : List α) (g : α -> β) (l0 : List β) (b : Nat) (hb1 : 1 <= b) (hb : (l0.length + l.length) * b <= 2 ^ 40)
  (step : ∀ (k : Nat) x acc, l[k]? = some x -> f (acc, (k : Int)) = (ap b acc [g x]).bind fun r => some (.nx (r, wr ((k : Int) + 1)))) (fin : ∀ acc, f (acc, (l.length : Int)) = some (.br acc)) : b0w f (l0, 0) = some (l0 ++ l.map g) := by
 have hn : l0.length + l.length <= 2 ^ 40 := Nat.le_trans (Nat.le_mul_of_pos_right _ hb1) hb
 refine b6i l.length (fun acc k => (acc, k)) (fun k => l0 ++ (l.take k).map g) _ (by simp) (fun k hk => ?_) ?_
 ·obtain ⟨x, hx⟩ := b3z hk
  rw [step k x _ hx, b8c, bS9, b21 hk (by simp only [maxLen]; omega)]
  ·have : (l.take (k + 1)).map g = (l.take k).map g ++ [g x] := by rw [List.take_add_one, hx]; simp
   rw [this, List.append_assoc]
  ·refine Nat.le_trans (Nat.mul_le_mul_right b ?_) hb
   simp only [List.length_append, List.length_map, List.length_take, List.length_cons, List.length_nil]
   omega
 ·rw [fin, List.take_length]
def b3e (m : Machine) : List ByteArray := ((m.Inputs ++ m.Outputs) ++ m.Counters.map (·.Name)) ++ m.States.map (·.Name)
structure SizesOk (m : Machine) : Prop where
 i : m.Inputs.length <= 4
 o : m.Outputs.length <= 6
 c : m.Counters.length <= 2
 s : 1 <= m.States.length /\ m.States.length <= 12
 r : m.Rules.length <= 40
theorem j1u {m : Machine} (h : SizesOk m) : c1p m = some (b3e m) := by
 have := h.i; have := h.o; have := h.c; have := h.s
 unfold c1p c5a c5b
 rw [b8c (by simp; omega), bS9, b8c (by simp; omega), bS9,
  b8d m.Counters (·.Name) _ 16 (by omega) (by simp; omega) (fun k x acc hx => by
   have := b1m hx
   unfold c49
   simp only [b1e hx, bS9, Int.ofNat_lt, this, decide_true, if_true]) (fun acc => by unfold c49; simp only [Int.lt_irrefl, decide_false, fT9, if_false]), bS9,
  b8d m.States (·.Name) _ 16 (by omega) (by simp; omega) (fun k x acc hx => by
   have := b1m hx
   unfold c48
   simp only [b1e hx, bS9, Int.ofNat_lt, this, decide_true, if_true]) (fun acc => by unfold c48; simp only [Int.lt_irrefl, decide_false, fT9, if_false]), bS9]
 rfl
theorem j1t {m : Machine} (h : SizesOk m) : c2b m = some (b3e m) := by
 have := h.i; have := h.o; have := h.c; have := h.s
 unfold c2b
 split
 ·unfold c5p c5s c5t c5z
  rw [if_pos ⟨by simp; omega, by simp, by simp; omega⟩, bS9,
   b8d m.Counters (·.Name) _ 16 (by omega) (by simp; omega) (fun k x acc hx => by
    have := b1m hx
    unfold c5r
    simp only [b1e hx, bS9, Int.ofNat_lt, this, decide_true, if_true]) (fun acc => by unfold c5r; simp only [Int.lt_irrefl, decide_false, fT9, if_false]), bS9,
   b8d m.States (·.Name) _ 16 (by omega) (by simp; omega) (fun k x acc hx => by
    have := b1m hx
    unfold c5q
    simp only [b1e hx, bS9, Int.ofNat_lt, this, decide_true, if_true]) (fun acc => by unfold c5q; simp only [Int.lt_irrefl, decide_false, fT9, if_false]), bS9]
  simp [b3e]
 ·have h1 : m.Inputs = [] := List.eq_nil_of_length_eq_zero (by omega)
  have h2 : m.Outputs = [] := List.eq_nil_of_length_eq_zero (by omega)
  unfold c5u c5x c5y c50
  rw [if_pos ⟨by simp [h1, h2], by simp⟩, bS9,
   b8d m.Counters (·.Name) _ 16 (by omega) (by simp; omega) (fun k x acc hx => by
    have := b1m hx
    unfold c5w
    simp only [b1e hx, bS9, Int.ofNat_lt, this, decide_true, if_true]) (fun acc => by unfold c5w; simp only [Int.lt_irrefl, decide_false, fT9, if_false]), bS9,
   b8d m.States (·.Name) _ 16 (by omega) (by simp; omega) (fun k x acc hx => by
    have := b1m hx
    unfold c5v
    simp only [b1e hx, bS9, Int.ofNat_lt, this, decide_true, if_true]) (fun acc => by unfold c5v; simp only [Int.lt_irrefl, decide_false, fT9, if_false]), bS9]
  simp [b3e, h1, h2]
end Go.Nw.KM
