/- Plain rules: loops over lists, the library's searches. -/
import Derived.Test.YteoedeeljnboeaaNwPlain
import Derived.Test.YteoedeeljnboeaaNwBits
set_option linter.all false
set_option linter.unusedVariables false
set_option linter.unusedSimpArgs false
set_option linter.unusedSectionVars false
namespace Go.Nw
theorem b2f {α : Type} {l : List α} {k : Nat} {x : α} (h : l[k]? = some x) : get l (k : Int) = some x := by
  unfold get; rw [if_pos (by omega)]; simpa using h
theorem b17 {α : Type} {l : List α} {k : Nat} {x : α} (h : l[k]? = some x) : k < l.length := (List.getElem?_eq_some_iff.1 h).1
theorem b2e {α : Type} {l : List α} {k : Nat} (h : k < l.length) : ∃ x, l[k]? = some x := ⟨_, List.getElem?_eq_getElem h⟩
theorem d8f {α β : Type} {f : Int → Option (Out Int β)} (l : List α) (bad : Nat → α → Prop) (e u : β)
    (bstep : ∀ k x, l[k]? = some x → bad k x → f (k : Int) = some (.br e)) (nstep : ∀ k x, l[k]? = some x → ¬ bad k x → f (k : Int) = some (.nx ((k : Int) + 1)))
    (fin : f (l.length : Int) = some (.br u)) : ((∀ k x, l[k]? = some x → ¬ bad k x) ∧ b08 f 0 = some u) ∨ ((∃ k x, l[k]? = some x ∧ bad k x) ∧ b08 f 0 = some e) := by
  have key : ∀ (d k : Nat), l.length - k = d → k ≤ l.length → (∀ j x, j < k → l[j]? = some x → ¬ bad j x) →
      ((∀ k x, l[k]? = some x → ¬ bad k x) ∧ b08 f (k : Int) = some u) ∨ ((∃ k x, l[k]? = some x ∧ bad k x) ∧ b08 f (k : Int) = some e) := by
    intro d
    induction d with
    | zero =>
      intro k hd hk hb
      have : k = l.length := by omega
      subst this
      exact .inl ⟨fun j x hx => hb j x (b17 hx) hx, b5g fin⟩
    | succ d ih =>
      intro k hd hk hb
      obtain ⟨x, hx⟩ := b2e (show k < l.length by omega)
      by_cases h : bad k x
      · exact .inr ⟨⟨k, x, hx, h⟩, b5g (bstep k x hx h)⟩
      · rw [b88 (nstep k x hx h)]
        refine ih (k + 1) (by omega) (by omega) fun j y hj hy => ?_
        by_cases e : j = k
        · subst e; rw [hx] at hy; cases hy; exact h
        · exact hb j y (by omega) hy
  exact key l.length 0 (by omega) (by omega) fun j x hj => by omega
theorem j1o {σ τ β : Type} {f : τ → Option (Out τ β)} (n : Nat) (mk : σ → Int → τ) (S : Nat → σ) (b : β)
    (step : ∀ k : Nat, k < n → f (mk (S k) k) = some (.nx (mk (S (k + 1)) ((k : Int) + 1)))) (fin : f (mk (S n) n) = some (.br b)) (k0 : Nat) (hk0 : k0 ≤ n) : b08 f (mk (S k0) k0) = some b := by
  obtain ⟨b', h1, h2⟩ := d1o (f := f) n mk (fun k s => s = S k) (fun x => x = b) (fun s k hk hs => by
    subst hs; exact .inl ⟨_, step k hk, rfl⟩) (fun s hs => by subst hs; exact ⟨b, fin, rfl⟩) k0 hk0 rfl
  rw [h1, h2]
theorem d1q {σ τ β : Type} {f : τ → Option (Out τ β)} (n : Nat) (mk : σ → Int → τ) (S : Nat → σ) (b : β)
    (step : ∀ k : Nat, k < n → f (mk (S k) k) = some (.nx (mk (S (k + 1)) ((k : Int) + 1)))) (fin : f (mk (S n) n) = some (.br b)) : b08 f (mk (S 0) 0) = some b :=
  j1o n mk S b step fin 0 (Nat.zero_le _)
theorem b3h {σ τ β : Type} {f : τ → Option (Out τ β)} (n : Nat) (mk : σ → Int → τ) (S : Nat → σ) (b : β) {s0 : σ} (h0 : s0 = S 0)
    (step : ∀ k : Nat, k < n → f (mk (S k) k) = some (.nx (mk (S (k + 1)) ((k : Int) + 1)))) (fin : f (mk (S n) n) = some (.br b)) : b08 f (mk s0 0) = some b := by
  subst h0; exact d1q n mk S b step fin
theorem d1p {α σ τ β : Type} {f : τ → Option (Out τ β)} (l : List α) (mk : σ → Int → τ) (S : Nat → σ) (bad : Nat → α → Prop) (e u : β)
    (bstep : ∀ k x, (∀ j y, j < k → l[j]? = some y → ¬ bad j y) → l[k]? = some x → bad k x → f (mk (S k) k) = some (.br e))
    (nstep : ∀ k x, (∀ j y, j < k → l[j]? = some y → ¬ bad j y) → l[k]? = some x → ¬ bad k x → f (mk (S k) k) = some (.nx (mk (S (k + 1)) ((k : Int) + 1))))
    (fin : f (mk (S l.length) l.length) = some (.br u)) {s0 : σ} (h0 : s0 = S 0) : ((∀ k x, l[k]? = some x → ¬ bad k x) ∧ b08 f (mk s0 0) = some u) ∨ ((∃ k x, l[k]? = some x ∧ bad k x) ∧ b08 f (mk s0 0) = some e) := by
  subst h0
  have key : ∀ (d k : Nat), l.length - k = d → k ≤ l.length → (∀ j x, j < k → l[j]? = some x → ¬ bad j x) →
      ((∀ k x, l[k]? = some x → ¬ bad k x) ∧ b08 f (mk (S k) k) = some u) ∨ ((∃ k x, l[k]? = some x ∧ bad k x) ∧ b08 f (mk (S k) k) = some e) := by
    intro d
    induction d with
    | zero =>
      intro k hd hk hb
      have : k = l.length := by omega
      subst this
      exact .inl ⟨fun j x hx => hb j x (b17 hx) hx, b5g fin⟩
    | succ d ih =>
      intro k hd hk hb
      obtain ⟨x, hx⟩ := b2e (show k < l.length by omega)
      by_cases h : bad k x
      · exact .inr ⟨⟨k, x, hx, h⟩, b5g (bstep k x hb hx h)⟩
      · rw [b88 (nstep k x hb hx h)]
        refine ih (k + 1) (by omega) (by omega) fun j y hj hy => ?_
        by_cases e : j = k
        · subst e; rw [hx] at hy; cases hy; exact h
        · exact hb j y (by omega) hy
  exact key l.length 0 (by omega) (by omega) fun j x hj => by omega
theorem c3u {α β : Type} {f : Int → Option (Out Int β)} (l : List α) (bad : Nat → α → Prop) (e u : β)
    (bstep : ∀ k x, (∀ j y, j < k → l[j]? = some y → ¬ bad j y) → l[k]? = some x → bad k x → f (k : Int) = some (.br e)) (nstep : ∀ k x, (∀ j y, j < k → l[j]? = some y → ¬ bad j y) → l[k]? = some x → ¬ bad k x → f (k : Int) = some (.nx ((k : Int) + 1)))
    (fin : f (l.length : Int) = some (.br u)) : ((∀ k x, l[k]? = some x → ¬ bad k x) ∧ b08 f 0 = some u) ∨ ((∃ k x, l[k]? = some x ∧ bad k x) ∧ b08 f 0 = some e) := by
  have := d1p (f := f) (σ := Unit) l (fun _ k => k) (fun _ => ()) bad e u (fun k x h1 h2 h3 => bstep k x h1 h2 h3) (fun k x h1 h2 h3 => nstep k x h1 h2 h3) fin (s0 := ()) rfl
  exact this
theorem b2o {k n : Nat} (h : k < n) (hn : n ≤ maxLen) : wr ((k : Int) + 1) = (k : Int) + 1 := b78 (by omega) (by simp only [maxLen] at hn; omega)
theorem d3e {b : Bool} (h : ¬ b = true) : b = false := by cases b <;> simp_all
theorem d2v {n : Nat} (hn : n ≤ maxLen) : wr ((n : Int) - 1) = (n : Int) - 1 := b78 (by simp only [maxLen] at hn; omega) (by simp only [maxLen] at hn; omega)
def b6y {α : Type} (s : List α) (f : α → Option Bool) : Int → Option (Out Int (Unit ⊕ Int)) := fun x =>
  if decide (x < (List.length s : Int)) then (get s x).bind fun a => (f a).bind fun y => if y then some (.br (.inr x)) else some (.nx (wr (x + 1)))
  else some (.br (.inl ()))
theorem g89 {α : Type} {s : List α} {f : α → Option Bool} {p : α → Prop} (hl : s.length ≤ maxLen) (hf : ∀ x ∈ s, ∃ b, f x = some b ∧ (b = true ↔ p x)) :
    (∃ (k : Nat) (x : α), s[k]? = some x ∧ p x ∧ (∀ j y, j < k → s[j]? = some y → ¬ p y) ∧ b08 (b6y s f) 0 = some (.inr (k : Int))) ∨ ((∀ x ∈ s, ¬ p x) ∧ b08 (b6y s f) 0 = some (.inl ())) := by
  have key : ∀ (d k : Nat), s.length - k = d → k ≤ s.length → (∀ j y, j < k → s[j]? = some y → ¬ p y) →
      (∃ (k' : Nat) (x : α), s[k']? = some x ∧ p x ∧ (∀ j y, j < k' → s[j]? = some y → ¬ p y) ∧ b08 (b6y s f) (k : Int) = some (.inr (k' : Int))) ∨ ((∀ x ∈ s, ¬ p x) ∧ b08 (b6y s f) (k : Int) = some (.inl ())) := by
    intro d
    induction d with
    | zero =>
      intro k hd hk hb
      have : k = s.length := by omega
      subst this
      refine .inr ⟨fun x hx => ?_, b5g (by simp [b6y])⟩
      obtain ⟨j, hj, rfl⟩ := List.getElem_of_mem hx
      exact hb j _ hj (List.getElem?_eq_getElem hj)
    | succ d ih =>
      intro k hd hk hb
      obtain ⟨x, hx⟩ := b2e (show k < s.length by omega)
      obtain ⟨b, hb1, hb2⟩ := hf x (List.mem_of_getElem? hx)
      cases b with
      | true => exact .inl ⟨k, x, hx, hb2.1 rfl, hb, b5g (by simp [b6y, b2f hx, hb1, b17 hx])⟩
      | false =>
        rw [b88 (s' := (k : Int) + 1) (by simp [b6y, b2f hx, hb1, b17 hx, b2o (b17 hx) hl])]
        refine ih (k + 1) (by omega) (by omega) fun j y hj hy => ?_
        by_cases e : j = k
        · subst e; rw [hx] at hy; cases hy; exact fun hp => by have := hb2.2 hp; cases this
        · exact hb j y (by omega) hy
  exact key s.length 0 (by omega) (by omega) fun j x hj => by omega
theorem g9b {α : Type} {s : List α} {f : α → Option Bool} {p : α → Prop} {g : Option Int} (hg : g = (b08 (b6y s f) 0).bind fun | (.inl ()) => some (-1) | (.inr r') => some r')
    (hl : s.length ≤ maxLen) (hf : ∀ x ∈ s, ∃ b, f x = some b ∧ (b = true ↔ p x)) :
    (∃ (k : Nat) (x : α), s[k]? = some x ∧ p x ∧ (∀ j y, j < k → s[j]? = some y → ¬ p y) ∧ g = some (k : Int)) ∨ ((∀ x ∈ s, ¬ p x) ∧ g = some (-1)) := by
  subst hg
  rcases g89 hl hf with ⟨k, x, h1, h2, h3, h4⟩ | ⟨h1, h2⟩
  · exact .inl ⟨k, x, h1, h2, h3, by rw [h4]; rfl⟩
  · exact .inr ⟨h1, by rw [h2]; rfl⟩
theorem d0h {α : Type} {s : List α} {f : α → Option Bool} {p : α → Prop} {g : Option Bool} (hg : g = ((b08 (b6y s f) 0).bind fun | (.inl ()) => some (-1) | (.inr r') => some r').bind fun y => some (decide (0 ≤ y)))
    (hl : s.length ≤ maxLen) (hf : ∀ x ∈ s, ∃ b, f x = some b ∧ (b = true ↔ p x)) : ∃ b, g = some b ∧ (b = true ↔ ∃ x ∈ s, p x) := by
  subst hg
  rcases g9b rfl hl hf with ⟨k, x, h1, h2, h3, h4⟩ | ⟨h1, h2⟩
  · rw [h4]; exact ⟨_, rfl, by simp; exact ⟨x, List.mem_of_getElem? h1, h2⟩⟩
  · rw [h2]; exact ⟨_, rfl, by simp; exact h1⟩
def tab {α : Type} (n : Nat) (f : Nat → α) : List α := (List.range n).map f
def fill {α : Type} (n : Nat) (f : Nat → α) (z : α) (k : Nat) : List α := tab n fun i => if i < k then f i else z
theorem b4a {α : Type} {n : Nat} {f : Nat → α} : (tab n f).length = n := by simp [tab]
theorem c4j {α : Type} {n : Nat} {f : Nat → α} {i : Nat} (h : i < n) : (tab n f)[i]? = some (f i) := by simp [tab, h]
theorem b2a {α : Type} {n : Nat} {f : Nat → α} {i : Nat} (h : i < n) : get (tab n f) (i : Int) = some (f i) := b2f (c4j h)
theorem b6f {α : Type} {n : Nat} {f g : Nat → α} (h : ∀ i, i < n → f i = g i) : tab n f = tab n g := List.map_congr_left fun i hi => h i (List.mem_range.1 hi)
theorem b6r {α : Type} {n : Nat} {f : Nat → α} : tab (n + 1) f = tab n f ++ [f n] := by simp [tab, List.range_succ]
theorem b68 {α : Type} {n : Nat} {f : Nat → α} {k : Nat} {v : α} : (tab n f).set k v = tab n fun i => if i = k then v else f i := by
  apply List.ext_getElem?
  intro i
  by_cases hi : i < n
  · rw [c4j hi, List.getElem?_set]
    by_cases e : k = i
    · subst e; simp [b4a, hi]
    · rw [if_neg e, c4j hi, if_neg (fun h => e h.symm)]
  · rw [List.getElem?_eq_none (by simp [b4a]; omega), List.getElem?_eq_none (by simp [b4a]; omega)]
theorem b75 {α : Type} {n : Nat} {z : α} : List.replicate n z = tab n fun _ => z := by
  apply List.ext_getElem?
  intro i
  by_cases hi : i < n
  · rw [c4j hi]; simp [hi]
  · rw [List.getElem?_eq_none (by simp; omega), List.getElem?_eq_none (by simp [b4a]; omega)]
theorem d37 {α : Type} {n k : Nat} {f : Nat → α} {z : α} : (fill n f z k).length = n := b4a
theorem b8o {α : Type} {n : Nat} {f : Nat → α} {z : α} : List.replicate n z = fill n f z 0 := by rw [b75]; rfl
theorem b7d {α : Type} {n k : Nat} {f : Nat → α} {z : α} (h : n ≤ k) : fill n f z k = tab n f := b6f fun i hi => if_pos (by omega)
theorem b7e {α : Type} {n k : Nat} {f : Nat → α} {z v : α} (hv : v = f k) : (fill n f z k).set k v = fill n f z (k + 1) := by
  unfold fill
  rw [b68]
  refine b6f fun i hi => ?_
  by_cases e : i = k
  · subst e; simp [hv]
  · rw [if_neg e]
    by_cases h : i < k
    · rw [if_pos h, if_pos (by omega)]
    · rw [if_neg h, if_neg (by omega)]
theorem b8r {α : Type} {n k i : Nat} {f : Nat → α} {z : α} (h : i < n) : get (fill n f z k) (i : Int) = some (if i < k then f i else z) := b2a h
theorem b62 {α : Type} {b n : Nat} {z : α} (h : n * b ≤ 2 ^ 47) (hb : 1 ≤ b) : mks b (n : Int) z = some (tab n fun _ => z) := by
  have h3 : n ≤ n * b := Nat.le_mul_of_pos_right n hb
  have : ((n * b : Nat) : Int) = (n : Int) * b := by simp
  rw [d8i (by omega) (by rw [← this]; omega) (by omega), ← b75]; rfl
def b3w {α : Type} (l : List α) (g : α → Int) (k : Nat) : Int := ((l.take k).map g).sum
theorem c3y {α : Type} {l : List α} {g : α → Int} : b3w l g 0 = 0 := by simp [b3w]
theorem c04 {α : Type} {l : List α} {g : α → Int} {k : Nat} {x : α} (hx : l[k]? = some x) : b3w l g (k + 1) = b3w l g k + g x := by
  unfold b3w; rw [List.take_add_one, hx]; simp
theorem c03 {α : Type} {l : List α} {g : α → Int} : b3w l g l.length = (l.map g).sum := by simp [b3w]
theorem d86 {α : Type} {l : List α} {g : α → Int} {B : Int} (hB : ∀ x ∈ l, 0 ≤ g x ∧ g x ≤ B) : ∀ k, k ≤ l.length → 0 ≤ b3w l g k ∧ b3w l g k ≤ B * k := by
  intro k
  induction k with
  | zero => intro _; simp [c3y]
  | succ k ih =>
    intro hk
    obtain ⟨x, hx⟩ := b2e (show k < l.length by omega)
    have h1 := ih (by omega)
    have h2 := hB x (List.mem_of_getElem? hx)
    rw [c04 hx]
    have : B * ((k + 1 : Nat) : Int) = B * k + B := by rw [Int.natCast_add, Int.mul_add]; simp
    rw [this]
    omega
def b00 (f : Nat → Int) (k : Nat) : Int := ((List.range k).map f).sum
theorem c01 {f : Nat → Int} : b00 f 0 = 0 := rfl
theorem b49 {f : Nat → Int} {k : Nat} : b00 f (k + 1) = b00 f k + f k := by simp [b00, List.range_succ]
theorem b9c {f : Nat → Int} {B : Int} : ∀ {k : Nat}, (∀ i, i < k → 0 ≤ f i ∧ f i ≤ B) → 0 ≤ b00 f k ∧ b00 f k ≤ B * k
  | 0, _ => by simp [c01]
  | k + 1, h => by
    have h1 := b9c (k := k) fun i hi => h i (by omega)
    have h2 := h k (by omega)
    rw [b49]
    have : B * ((k + 1 : Nat) : Int) = B * k + B := by rw [Int.natCast_add, Int.mul_add]; simp
    rw [this]
    omega
theorem j49 {f : Nat → Int} {a b : Nat} (hab : a ≤ b) (h : ∀ i, a ≤ i → i < b → 0 ≤ f i) : b00 f a ≤ b00 f b := by
  induction b with
  | zero => have : a = 0 := by omega
            subst this; exact Int.le_refl _
  | succ b ih =>
    by_cases e : a = b + 1
    · subst e; exact Int.le_refl _
    · have := ih (by omega) fun i h1 h2 => h i h1 (by omega)
      have := h b (by omega) (by omega)
      rw [b49]; omega
theorem b9d {f : Nat → Int} {B : Int} {a b : Nat} (hab : a ≤ b) (h : ∀ i, a ≤ i → i < b → 0 ≤ f i ∧ f i ≤ B) : 0 ≤ b00 f b - b00 f a ∧ b00 f b - b00 f a ≤ B * ((b - a : Nat) : Int) := by
  induction b with
  | zero => have : a = 0 := by omega
            subst this; simp
  | succ b ih =>
    by_cases e : a = b + 1
    · subst e; simp
    · have h1 := ih (by omega) fun i h1 h2 => h i h1 (by omega)
      have h2 := h b (by omega) (by omega)
      have : B * ((b + 1 - a : Nat) : Int) = B * ((b - a : Nat) : Int) + B := by rw [show b + 1 - a = (b - a) + 1 by omega, Int.natCast_add, Int.mul_add]; simp
      rw [b49, this]; omega
theorem d1w {f g : Nat → Int} {k : Nat} (h : ∀ i, i < k → f i = g i) : b00 f k = b00 g k := by
  unfold b00; rw [List.map_congr_left fun i hi => h i (List.mem_range.1 hi)]
def b36 (z : Int) (g : Nat → Int) (a : Nat) : Nat → Int
  | 0 => z
  | n + 1 => min (b36 z g a n) (g (a + n))
def b3q (z : Int) (g : Nat → Int) (a : Nat) : Nat → Int
  | 0 => z
  | n + 1 => max (b3q z g a n) (g (a + n))
theorem c3s {z x : Int} {g : Nat → Int} {a n : Nat} : x ≤ b36 z g a n ↔ x ≤ z ∧ ∀ i, i < n → x ≤ g (a + i) := by
  induction n with
  | zero => simp [b36]
  | succ n ih =>
    simp only [b36, Int.le_min, ih]
    constructor
    · rintro ⟨⟨h1, h2⟩, h3⟩
      refine ⟨h1, fun i hi => ?_⟩
      by_cases e : i = n
      · subst e; exact h3
      · exact h2 i (by omega)
    · rintro ⟨h1, h2⟩
      exact ⟨⟨h1, fun i hi => h2 i (by omega)⟩, h2 n (by omega)⟩
theorem c6g {z : Int} {g : Nat → Int} {a n : Nat} : b36 z g a n ≤ z := (c3s.1 (Int.le_refl _)).1
theorem d8b {z : Int} {g : Nat → Int} {a n i : Nat} (hi : i < n) : b36 z g a n ≤ g (a + i) := (c3s.1 (Int.le_refl _)).2 i hi
theorem c3r {z x : Int} {g : Nat → Int} {a n : Nat} : b3q z g a n ≤ x ↔ z ≤ x ∧ ∀ i, i < n → g (a + i) ≤ x := by
  induction n with
  | zero => simp [b3q]
  | succ n ih =>
    simp only [b3q, Int.max_le, ih]
    constructor
    · rintro ⟨⟨h1, h2⟩, h3⟩
      refine ⟨h1, fun i hi => ?_⟩
      by_cases e : i = n
      · subst e; exact h3
      · exact h2 i (by omega)
    · rintro ⟨h1, h2⟩
      exact ⟨⟨h1, fun i hi => h2 i (by omega)⟩, h2 n (by omega)⟩
theorem d1j {z : Int} {g : Nat → Int} {a n : Nat} : z ≤ b3q z g a n := (c3r.1 (Int.le_refl _)).1
theorem c6f {z : Int} {g : Nat → Int} {a n i : Nat} (hi : i < n) : g (a + i) ≤ b3q z g a n := (c3r.1 (Int.le_refl _)).2 i hi
theorem c3t {σ τ β : Type} {f : τ → Option (Out τ β)} (n : Nat) (mk : σ → Int → τ) (S : Nat → σ) (b : β) {s0 : σ} (k0 : Nat) (h0 : s0 = S k0) (hk0 : k0 ≤ n)
    (step : ∀ k : Nat, k0 ≤ k → k < n → f (mk (S k) k) = some (.nx (mk (S (k + 1)) ((k : Int) + 1)))) (fin : f (mk (S n) n) = some (.br b)) : b08 f (mk s0 k0) = some b := by
  subst h0
  obtain ⟨b', h1, h2⟩ := d1o (f := f) n mk (fun k s => s = S k ∧ k0 ≤ k) (fun x => x = b) (fun s k hk ⟨hs, hge⟩ => by
    subst hs; exact .inl ⟨_, step k hge hk, rfl, by omega⟩) (fun s ⟨hs, _⟩ => by subst hs; exact ⟨b, fin, rfl⟩) k0 hk0 ⟨rfl, Nat.le_refl _⟩
  rw [h1, h2]
end Go.Nw
