/- Plain rules: loops over lists, the library's searches. -/
import Derived.Test.YtkoonfmgmgfmdaaDoorNwPlain
import Derived.Test.YtkoonfmgmgfmdaaDoorNwBits
set_option linter.all false
set_option linter.unusedVariables false
set_option linter.unusedSimpArgs false
set_option linter.unusedSectionVars false
namespace Go.Nw
theorem b1d {α : Type} {l : List α} {k : Nat} {x : α} (h : l[k]? = some x) : get l (k : Int) = some x := by
  unfold get; rw [if_pos (by omega)]; simpa using h
theorem b1b {α : Type} {l : List α} {k : Nat} {x : α} (h : l[k]? = some x) : k < l.length := (List.getElem?_eq_some_iff.1 h).1
theorem b1n {α : Type} {l : List α} {k : Nat} (h : k < l.length) : ∃ x, l[k]? = some x := ⟨_, List.getElem?_eq_getElem h⟩
theorem b5v {α β : Type} {f : Int → Option (Out Int β)} (l : List α) (bad : Nat → α → Prop) (e u : β)
    (bstep : ∀ k x, l[k]? = some x → bad k x → f (k : Int) = some (.br e)) (nstep : ∀ k x, l[k]? = some x → ¬ bad k x → f (k : Int) = some (.nx ((k : Int) + 1)))
    (fin : f (l.length : Int) = some (.br u)) : ((∀ k x, l[k]? = some x → ¬ bad k x) ∧ b07 f 0 = some u) ∨ ((∃ k x, l[k]? = some x ∧ bad k x) ∧ b07 f 0 = some e) := by
  have key : ∀ (d k : Nat), l.length - k = d → k ≤ l.length → (∀ j x, j < k → l[j]? = some x → ¬ bad j x) →
      ((∀ k x, l[k]? = some x → ¬ bad k x) ∧ b07 f (k : Int) = some u) ∨ ((∃ k x, l[k]? = some x ∧ bad k x) ∧ b07 f (k : Int) = some e) := by
    intro d
    induction d with
    | zero =>
      intro k hd hk hb
      have : k = l.length := by omega
      subst this
      exact .inl ⟨fun j x hx => hb j x (b1b hx) hx, b5l fin⟩
    | succ d ih =>
      intro k hd hk hb
      obtain ⟨x, hx⟩ := b1n (show k < l.length by omega)
      by_cases h : bad k x
      · exact .inr ⟨⟨k, x, hx, h⟩, b5l (bstep k x hx h)⟩
      · rw [c0o (nstep k x hx h)]
        refine ih (k + 1) (by omega) (by omega) fun j y hj hy => ?_
        by_cases e : j = k
        · subst e; rw [hx] at hy; cases hy; exact h
        · exact hb j y (by omega) hy
  exact key l.length 0 (by omega) (by omega) fun j x hj => by omega
theorem j18 {σ τ β : Type} {f : τ → Option (Out τ β)} (n : Nat) (mk : σ → Int → τ) (S : Nat → σ) (b : β)
    (step : ∀ k : Nat, k < n → f (mk (S k) k) = some (.nx (mk (S (k + 1)) ((k : Int) + 1)))) (fin : f (mk (S n) n) = some (.br b)) (k0 : Nat) (hk0 : k0 ≤ n) : b07 f (mk (S k0) k0) = some b := by
  obtain ⟨b', h1, h2⟩ := d01 (f := f) n mk (fun k s => s = S k) (fun x => x = b) (fun s k hk hs => by
    subst hs; exact .inl ⟨_, step k hk, rfl⟩) (fun s hs => by subst hs; exact ⟨b, fin, rfl⟩) k0 hk0 rfl
  rw [h1, h2]
theorem j19 {σ τ β : Type} {f : τ → Option (Out τ β)} (n : Nat) (mk : σ → Int → τ) (S : Nat → σ) (b : β)
    (step : ∀ k : Nat, k < n → f (mk (S k) k) = some (.nx (mk (S (k + 1)) ((k : Int) + 1)))) (fin : f (mk (S n) n) = some (.br b)) : b07 f (mk (S 0) 0) = some b :=
  j18 n mk S b step fin 0 (Nat.zero_le _)
theorem b37 {σ τ β : Type} {f : τ → Option (Out τ β)} (n : Nat) (mk : σ → Int → τ) (S : Nat → σ) (b : β) {s0 : σ} (h0 : s0 = S 0)
    (step : ∀ k : Nat, k < n → f (mk (S k) k) = some (.nx (mk (S (k + 1)) ((k : Int) + 1)))) (fin : f (mk (S n) n) = some (.br b)) : b07 f (mk s0 0) = some b := by
  subst h0; exact j19 n mk S b step fin
theorem d02 {α σ τ β : Type} {f : τ → Option (Out τ β)} (l : List α) (mk : σ → Int → τ) (S : Nat → σ) (bad : Nat → α → Prop) (e u : β)
    (bstep : ∀ k x, (∀ j y, j < k → l[j]? = some y → ¬ bad j y) → l[k]? = some x → bad k x → f (mk (S k) k) = some (.br e))
    (nstep : ∀ k x, (∀ j y, j < k → l[j]? = some y → ¬ bad j y) → l[k]? = some x → ¬ bad k x → f (mk (S k) k) = some (.nx (mk (S (k + 1)) ((k : Int) + 1))))
    (fin : f (mk (S l.length) l.length) = some (.br u)) {s0 : σ} (h0 : s0 = S 0) : ((∀ k x, l[k]? = some x → ¬ bad k x) ∧ b07 f (mk s0 0) = some u) ∨ ((∃ k x, l[k]? = some x ∧ bad k x) ∧ b07 f (mk s0 0) = some e) := by
  subst h0
  have key : ∀ (d k : Nat), l.length - k = d → k ≤ l.length → (∀ j x, j < k → l[j]? = some x → ¬ bad j x) →
      ((∀ k x, l[k]? = some x → ¬ bad k x) ∧ b07 f (mk (S k) k) = some u) ∨ ((∃ k x, l[k]? = some x ∧ bad k x) ∧ b07 f (mk (S k) k) = some e) := by
    intro d
    induction d with
    | zero =>
      intro k hd hk hb
      have : k = l.length := by omega
      subst this
      exact .inl ⟨fun j x hx => hb j x (b1b hx) hx, b5l fin⟩
    | succ d ih =>
      intro k hd hk hb
      obtain ⟨x, hx⟩ := b1n (show k < l.length by omega)
      by_cases h : bad k x
      · exact .inr ⟨⟨k, x, hx, h⟩, b5l (bstep k x hb hx h)⟩
      · rw [c0o (nstep k x hb hx h)]
        refine ih (k + 1) (by omega) (by omega) fun j y hj hy => ?_
        by_cases e : j = k
        · subst e; rw [hx] at hy; cases hy; exact h
        · exact hb j y (by omega) hy
  exact key l.length 0 (by omega) (by omega) fun j x hj => by omega
theorem c2z {α β : Type} {f : Int → Option (Out Int β)} (l : List α) (bad : Nat → α → Prop) (e u : β)
    (bstep : ∀ k x, (∀ j y, j < k → l[j]? = some y → ¬ bad j y) → l[k]? = some x → bad k x → f (k : Int) = some (.br e)) (nstep : ∀ k x, (∀ j y, j < k → l[j]? = some y → ¬ bad j y) → l[k]? = some x → ¬ bad k x → f (k : Int) = some (.nx ((k : Int) + 1)))
    (fin : f (l.length : Int) = some (.br u)) : ((∀ k x, l[k]? = some x → ¬ bad k x) ∧ b07 f 0 = some u) ∨ ((∃ k x, l[k]? = some x ∧ bad k x) ∧ b07 f 0 = some e) := by
  have := d02 (f := f) (σ := Unit) l (fun _ k => k) (fun _ => ()) bad e u (fun k x h1 h2 h3 => bstep k x h1 h2 h3) (fun k x h1 h2 h3 => nstep k x h1 h2 h3) fin (s0 := ()) rfl
  exact this
theorem b2f {k n : Nat} (h : k < n) (hn : n ≤ maxLen) : wr ((k : Int) + 1) = (k : Int) + 1 := b6v (by omega) (by simp only [maxLen] at hn; omega)
theorem d2z {b : Bool} (h : ¬ b = true) : b = false := by cases b <;> simp_all
theorem d9u {n : Nat} (hn : n ≤ maxLen) : wr ((n : Int) - 1) = (n : Int) - 1 := b6v (by simp only [maxLen] at hn; omega) (by simp only [maxLen] at hn; omega)
def b6m {α : Type} (s : List α) (f : α → Option Bool) : Int → Option (Out Int (Unit ⊕ Int)) := fun x =>
  if decide (x < (List.length s : Int)) then (get s x).bind fun a => (f a).bind fun y => if y then some (.br (.inr x)) else some (.nx (wr (x + 1)))
  else some (.br (.inl ()))
theorem g9n {α : Type} {s : List α} {f : α → Option Bool} {p : α → Prop} (hl : s.length ≤ maxLen) (hf : ∀ x ∈ s, ∃ b, f x = some b ∧ (b = true ↔ p x)) :
    (∃ (k : Nat) (x : α), s[k]? = some x ∧ p x ∧ (∀ j y, j < k → s[j]? = some y → ¬ p y) ∧ b07 (b6m s f) 0 = some (.inr (k : Int))) ∨ ((∀ x ∈ s, ¬ p x) ∧ b07 (b6m s f) 0 = some (.inl ())) := by
  have key : ∀ (d k : Nat), s.length - k = d → k ≤ s.length → (∀ j y, j < k → s[j]? = some y → ¬ p y) →
      (∃ (k' : Nat) (x : α), s[k']? = some x ∧ p x ∧ (∀ j y, j < k' → s[j]? = some y → ¬ p y) ∧ b07 (b6m s f) (k : Int) = some (.inr (k' : Int))) ∨ ((∀ x ∈ s, ¬ p x) ∧ b07 (b6m s f) (k : Int) = some (.inl ())) := by
    intro d
    induction d with
    | zero =>
      intro k hd hk hb
      have : k = s.length := by omega
      subst this
      refine .inr ⟨fun x hx => ?_, b5l (by simp [b6m])⟩
      obtain ⟨j, hj, rfl⟩ := List.getElem_of_mem hx
      exact hb j _ hj (List.getElem?_eq_getElem hj)
    | succ d ih =>
      intro k hd hk hb
      obtain ⟨x, hx⟩ := b1n (show k < s.length by omega)
      obtain ⟨b, hb1, hb2⟩ := hf x (List.mem_of_getElem? hx)
      cases b with
      | true => exact .inl ⟨k, x, hx, hb2.1 rfl, hb, b5l (by simp [b6m, b1d hx, hb1, b1b hx])⟩
      | false =>
        rw [c0o (s' := (k : Int) + 1) (by simp [b6m, b1d hx, hb1, b1b hx, b2f (b1b hx) hl])]
        refine ih (k + 1) (by omega) (by omega) fun j y hj hy => ?_
        by_cases e : j = k
        · subst e; rw [hx] at hy; cases hy; exact fun hp => by have := hb2.2 hp; cases this
        · exact hb j y (by omega) hy
  exact key s.length 0 (by omega) (by omega) fun j x hj => by omega
theorem g9p {α : Type} {s : List α} {f : α → Option Bool} {p : α → Prop} {g : Option Int} (hg : g = (b07 (b6m s f) 0).bind fun | (.inl ()) => some (-1) | (.inr r') => some r')
    (hl : s.length ≤ maxLen) (hf : ∀ x ∈ s, ∃ b, f x = some b ∧ (b = true ↔ p x)) :
    (∃ (k : Nat) (x : α), s[k]? = some x ∧ p x ∧ (∀ j y, j < k → s[j]? = some y → ¬ p y) ∧ g = some (k : Int)) ∨ ((∀ x ∈ s, ¬ p x) ∧ g = some (-1)) := by
  subst hg
  rcases g9n hl hf with ⟨k, x, h1, h2, h3, h4⟩ | ⟨h1, h2⟩
  · exact .inl ⟨k, x, h1, h2, h3, by rw [h4]; rfl⟩
  · exact .inr ⟨h1, by rw [h2]; rfl⟩
theorem d4w {α : Type} {s : List α} {f : α → Option Bool} {p : α → Prop} {g : Option Bool} (hg : g = ((b07 (b6m s f) 0).bind fun | (.inl ()) => some (-1) | (.inr r') => some r').bind fun y => some (decide (0 ≤ y)))
    (hl : s.length ≤ maxLen) (hf : ∀ x ∈ s, ∃ b, f x = some b ∧ (b = true ↔ p x)) : ∃ b, g = some b ∧ (b = true ↔ ∃ x ∈ s, p x) := by
  subst hg
  rcases g9p rfl hl hf with ⟨k, x, h1, h2, h3, h4⟩ | ⟨h1, h2⟩
  · rw [h4]; exact ⟨_, rfl, by simp; exact ⟨x, List.mem_of_getElem? h1, h2⟩⟩
  · rw [h2]; exact ⟨_, rfl, by simp; exact h1⟩
def tab {α : Type} (n : Nat) (f : Nat → α) : List α := (List.range n).map f
def fill {α : Type} (n : Nat) (f : Nat → α) (z : α) (k : Nat) : List α := tab n fun i => if i < k then f i else z
theorem b33 {α : Type} {n : Nat} {f : Nat → α} : (tab n f).length = n := by simp [tab]
theorem c7a {α : Type} {n : Nat} {f : Nat → α} {i : Nat} (h : i < n) : (tab n f)[i]? = some (f i) := by simp [tab, h]
theorem b2l {α : Type} {n : Nat} {f : Nat → α} {i : Nat} (h : i < n) : get (tab n f) (i : Int) = some (f i) := b1d (c7a h)
theorem b6e {α : Type} {n : Nat} {f g : Nat → α} (h : ∀ i, i < n → f i = g i) : tab n f = tab n g := List.map_congr_left fun i hi => h i (List.mem_range.1 hi)
theorem b80 {α : Type} {n : Nat} {f : Nat → α} : tab (n + 1) f = tab n f ++ [f n] := by simp [tab, List.range_succ]
theorem c3v {α : Type} {n : Nat} {f : Nat → α} {k : Nat} {v : α} : (tab n f).set k v = tab n fun i => if i = k then v else f i := by
  apply List.ext_getElem?
  intro i
  by_cases hi : i < n
  · rw [c7a hi, List.getElem?_set]
    by_cases e : k = i
    · subst e; simp [b33, hi]
    · rw [if_neg e, c7a hi, if_neg (fun h => e h.symm)]
  · rw [List.getElem?_eq_none (by simp [b33]; omega), List.getElem?_eq_none (by simp [b33]; omega)]
theorem c7b {α : Type} {n : Nat} {z : α} : List.replicate n z = tab n fun _ => z := by
  apply List.ext_getElem?
  intro i
  by_cases hi : i < n
  · rw [c7a hi]; simp [hi]
  · rw [List.getElem?_eq_none (by simp; omega), List.getElem?_eq_none (by simp [b33]; omega)]
theorem d4k {α : Type} {n : Nat} {f : Nat → α} {z : α} : List.replicate n z = fill n f z 0 := by rw [c7b]; rfl
theorem d4i {α : Type} {n k : Nat} {f : Nat → α} {z : α} (h : n ≤ k) : fill n f z k = tab n f := b6e fun i hi => if_pos (by omega)
theorem d4j {α : Type} {n k : Nat} {f : Nat → α} {z v : α} (hv : v = f k) : (fill n f z k).set k v = fill n f z (k + 1) := by
  unfold fill
  rw [c3v]
  refine b6e fun i hi => ?_
  by_cases e : i = k
  · subst e; simp [hv]
  · rw [if_neg e]
    by_cases h : i < k
    · rw [if_pos h, if_pos (by omega)]
    · rw [if_neg h, if_neg (by omega)]
theorem d4t {α : Type} {n k i : Nat} {f : Nat → α} {z : α} (h : i < n) : get (fill n f z k) (i : Int) = some (if i < k then f i else z) := b2l h
theorem c6d {α : Type} {b n : Nat} {z : α} (h : n * b ≤ 2 ^ 47) (hb : 1 ≤ b) : mks b (n : Int) z = some (tab n fun _ => z) := by
  have h3 : n ≤ n * b := Nat.le_mul_of_pos_right n hb
  have : ((n * b : Nat) : Int) = (n : Int) * b := by simp
  rw [d7q (by omega) (by rw [← this]; omega) (by omega), ← c7b]; rfl
def b3o {α : Type} (l : List α) (g : α → Int) (k : Nat) : Int := ((l.take k).map g).sum
theorem c3g {α : Type} {l : List α} {g : α → Int} : b3o l g 0 = 0 := by simp [b3o]
theorem c0v {α : Type} {l : List α} {g : α → Int} {k : Nat} {x : α} (hx : l[k]? = some x) : b3o l g (k + 1) = b3o l g k + g x := by
  unfold b3o; rw [List.take_add_one, hx]; simp
theorem c0u {α : Type} {l : List α} {g : α → Int} : b3o l g l.length = (l.map g).sum := by simp [b3o]
theorem d8q {α : Type} {l : List α} {g : α → Int} {B : Int} (hB : ∀ x ∈ l, 0 ≤ g x ∧ g x ≤ B) : ∀ k, k ≤ l.length → 0 ≤ b3o l g k ∧ b3o l g k ≤ B * k := by
  intro k
  induction k with
  | zero => intro _; simp [c3g]
  | succ k ih =>
    intro hk
    obtain ⟨x, hx⟩ := b1n (show k < l.length by omega)
    have h1 := ih (by omega)
    have h2 := hB x (List.mem_of_getElem? hx)
    rw [c0v hx]
    have : B * ((k + 1 : Nat) : Int) = B * k + B := by rw [Int.natCast_add, Int.mul_add]; simp
    rw [this]
    omega
def b0m (f : Nat → Int) (k : Nat) : Int := ((List.range k).map f).sum
theorem b46 {f : Nat → Int} : b0m f 0 = 0 := rfl
theorem b2u {f : Nat → Int} {k : Nat} : b0m f (k + 1) = b0m f k + f k := by simp [b0m, List.range_succ]
theorem b6a {f : Nat → Int} {B : Int} : ∀ {k : Nat}, (∀ i, i < k → 0 ≤ f i ∧ f i ≤ B) → 0 ≤ b0m f k ∧ b0m f k ≤ B * k
  | 0, _ => by simp [b46]
  | k + 1, h => by
    have h1 := b6a (k := k) fun i hi => h i (by omega)
    have h2 := h k (by omega)
    rw [b2u]
    have : B * ((k + 1 : Nat) : Int) = B * k + B := by rw [Int.natCast_add, Int.mul_add]; simp
    rw [this]
    omega
theorem j5u {f : Nat → Int} {a b : Nat} (hab : a ≤ b) (h : ∀ i, a ≤ i → i < b → 0 ≤ f i) : b0m f a ≤ b0m f b := by
  induction b with
  | zero => have : a = 0 := by omega
            subst this; exact Int.le_refl _
  | succ b ih =>
    by_cases e : a = b + 1
    · subst e; exact Int.le_refl _
    · have := ih (by omega) fun i h1 h2 => h i h1 (by omega)
      have := h b (by omega) (by omega)
      rw [b2u]; omega
theorem j5t {f : Nat → Int} {B : Int} {a b : Nat} (hab : a ≤ b) (h : ∀ i, a ≤ i → i < b → 0 ≤ f i ∧ f i ≤ B) : 0 ≤ b0m f b - b0m f a ∧ b0m f b - b0m f a ≤ B * ((b - a : Nat) : Int) := by
  induction b with
  | zero => have : a = 0 := by omega
            subst this; simp
  | succ b ih =>
    by_cases e : a = b + 1
    · subst e; simp
    · have h1 := ih (by omega) fun i h1 h2 => h i h1 (by omega)
      have h2 := h b (by omega) (by omega)
      have : B * ((b + 1 - a : Nat) : Int) = B * ((b - a : Nat) : Int) + B := by rw [show b + 1 - a = (b - a) + 1 by omega, Int.natCast_add, Int.mul_add]; simp
      rw [b2u, this]; omega
theorem b6b {f g : Nat → Int} {k : Nat} (h : ∀ i, i < k → f i = g i) : b0m f k = b0m g k := by
  unfold b0m; rw [List.map_congr_left fun i hi => h i (List.mem_range.1 hi)]
def b58 (z : Int) (g : Nat → Int) (a : Nat) : Nat → Int
  | 0 => z
  | n + 1 => min (b58 z g a n) (g (a + n))
def b5k (z : Int) (g : Nat → Int) (a : Nat) : Nat → Int
  | 0 => z
  | n + 1 => max (b5k z g a n) (g (a + n))
theorem d0x {z x : Int} {g : Nat → Int} {a n : Nat} : x ≤ b58 z g a n ↔ x ≤ z ∧ ∀ i, i < n → x ≤ g (a + i) := by
  induction n with
  | zero => simp [b58]
  | succ n ih =>
    simp only [b58, Int.le_min, ih]
    constructor
    · rintro ⟨⟨h1, h2⟩, h3⟩
      refine ⟨h1, fun i hi => ?_⟩
      by_cases e : i = n
      · subst e; exact h3
      · exact h2 i (by omega)
    · rintro ⟨h1, h2⟩
      exact ⟨⟨h1, fun i hi => h2 i (by omega)⟩, h2 n (by omega)⟩
theorem j10 {z : Int} {g : Nat → Int} {a n : Nat} : b58 z g a n ≤ z := (d0x.1 (Int.le_refl _)).1
theorem d0w {z x : Int} {g : Nat → Int} {a n : Nat} : b5k z g a n ≤ x ↔ z ≤ x ∧ ∀ i, i < n → g (a + i) ≤ x := by
  induction n with
  | zero => simp [b5k]
  | succ n ih =>
    simp only [b5k, Int.max_le, ih]
    constructor
    · rintro ⟨⟨h1, h2⟩, h3⟩
      refine ⟨h1, fun i hi => ?_⟩
      by_cases e : i = n
      · subst e; exact h3
      · exact h2 i (by omega)
    · rintro ⟨h1, h2⟩
      exact ⟨⟨h1, fun i hi => h2 i (by omega)⟩, h2 n (by omega)⟩
theorem j1z {z : Int} {g : Nat → Int} {a n : Nat} : z ≤ b5k z g a n := (d0w.1 (Int.le_refl _)).1
theorem j1y {z : Int} {g : Nat → Int} {a n i : Nat} (hi : i < n) : g (a + i) ≤ b5k z g a n := (d0w.1 (Int.le_refl _)).2 i hi
theorem d7i {σ τ β : Type} {f : τ → Option (Out τ β)} (n : Nat) (mk : σ → Int → τ) (S : Nat → σ) (b : β) {s0 : σ} (k0 : Nat) (h0 : s0 = S k0) (hk0 : k0 ≤ n)
    (step : ∀ k : Nat, k0 ≤ k → k < n → f (mk (S k) k) = some (.nx (mk (S (k + 1)) ((k : Int) + 1)))) (fin : f (mk (S n) n) = some (.br b)) : b07 f (mk s0 k0) = some b := by
  subst h0
  obtain ⟨b', h1, h2⟩ := d01 (f := f) n mk (fun k s => s = S k ∧ k0 ≤ k) (fun x => x = b) (fun s k hk ⟨hs, hge⟩ => by
    subst hs; exact .inl ⟨_, step k hge hk, rfl, by omega⟩) (fun s ⟨hs, _⟩ => by subst hs; exact ⟨b, fin, rfl⟩) k0 hk0 ⟨rfl, Nat.le_refl _⟩
  rw [h1, h2]
end Go.Nw
