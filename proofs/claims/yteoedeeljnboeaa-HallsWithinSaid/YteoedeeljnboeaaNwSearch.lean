/- Plain rules: loops over lists, the library's searches. -/
import Derived.Test.YteoedeeljnboeaaNwPlain
import Derived.Test.YteoedeeljnboeaaNwBits
set_option linter.all false
set_option linter.unusedVariables false
set_option linter.unusedSimpArgs false
set_option linter.unusedSectionVars false
namespace Go.Nw
theorem get_k {α : Type} {l : List α} {k : Nat} {x : α} (h : l[k]? = some x) : get l (k : Int) = some x := by
  unfold get; rw [if_pos (by omega)]; simpa using h
theorem lt_k {α : Type} {l : List α} {k : Nat} {x : α} (h : l[k]? = some x) : k < l.length := (List.getElem?_eq_some_iff.1 h).1
theorem ex_k {α : Type} {l : List α} {k : Nat} (h : k < l.length) : ∃ x, l[k]? = some x := ⟨_, List.getElem?_eq_getElem h⟩

/-- A loop that looks through a list for what is bad. -/
theorem loop_scan {α β : Type} {f : Int → Option (Out Int β)} (l : List α) (bad : Nat → α → Prop) (e u : β)
    (bstep : ∀ k x, l[k]? = some x → bad k x → f (k : Int) = some (.br e)) (nstep : ∀ k x, l[k]? = some x → ¬ bad k x → f (k : Int) = some (.nx ((k : Int) + 1)))
    (fin : f (l.length : Int) = some (.br u)) : ((∀ k x, l[k]? = some x → ¬ bad k x) ∧ loopM f 0 = some u) ∨ ((∃ k x, l[k]? = some x ∧ bad k x) ∧ loopM f 0 = some e) := by
  have key : ∀ (d k : Nat), l.length - k = d → k ≤ l.length → (∀ j x, j < k → l[j]? = some x → ¬ bad j x) →
      ((∀ k x, l[k]? = some x → ¬ bad k x) ∧ loopM f (k : Int) = some u) ∨ ((∃ k x, l[k]? = some x ∧ bad k x) ∧ loopM f (k : Int) = some e) := by
    intro d
    induction d with
    | zero =>
      intro k hd hk hb
      have : k = l.length := by omega
      subst this
      exact .inl ⟨fun j x hx => hb j x (lt_k hx) hx, loopM_br fin⟩
    | succ d ih =>
      intro k hd hk hb
      obtain ⟨x, hx⟩ := ex_k (show k < l.length by omega)
      by_cases h : bad k x
      · exact .inr ⟨⟨k, x, hx, h⟩, loopM_br (bstep k x hx h)⟩
      · rw [loopM_nx (nstep k x hx h)]
        refine ih (k + 1) (by omega) (by omega) fun j y hj hy => ?_
        by_cases e : j = k
        · subst e; rw [hx] at hy; cases hy; exact h
        · exact hb j y (by omega) hy
  exact key l.length 0 (by omega) (by omega) fun j x hj => by omega

/-- A loop whose state at each number is known. -/
theorem loop_steps {σ τ β : Type} {f : τ → Option (Out τ β)} (n : Nat) (mk : σ → Int → τ) (S : Nat → σ) (b : β)
    (step : ∀ k : Nat, k < n → f (mk (S k) k) = some (.nx (mk (S (k + 1)) ((k : Int) + 1)))) (fin : f (mk (S n) n) = some (.br b)) (k0 : Nat) (hk0 : k0 ≤ n) : loopM f (mk (S k0) k0) = some b := by
  obtain ⟨b', h1, h2⟩ := loop_inv (f := f) n mk (fun k s => s = S k) (fun x => x = b) (fun s k hk hs => by
    subst hs; exact .inl ⟨_, step k hk, rfl⟩) (fun s hs => by subst hs; exact ⟨b, fin, rfl⟩) k0 hk0 rfl
  rw [h1, h2]
theorem loop_steps0 {σ τ β : Type} {f : τ → Option (Out τ β)} (n : Nat) (mk : σ → Int → τ) (S : Nat → σ) (b : β)
    (step : ∀ k : Nat, k < n → f (mk (S k) k) = some (.nx (mk (S (k + 1)) ((k : Int) + 1)))) (fin : f (mk (S n) n) = some (.br b)) : loopM f (mk (S 0) 0) = some b :=
  loop_steps n mk S b step fin 0 (Nat.zero_le _)
theorem loop_stepsX {σ τ β : Type} {f : τ → Option (Out τ β)} (n : Nat) (mk : σ → Int → τ) (S : Nat → σ) (b : β) {s0 : σ} (h0 : s0 = S 0)
    (step : ∀ k : Nat, k < n → f (mk (S k) k) = some (.nx (mk (S (k + 1)) ((k : Int) + 1)))) (fin : f (mk (S n) n) = some (.br b)) : loopM f (mk s0 0) = some b := by
  subst h0; exact loop_steps0 n mk S b step fin

theorem loop_scanS {α σ τ β : Type} {f : τ → Option (Out τ β)} (l : List α) (mk : σ → Int → τ) (S : Nat → σ) (bad : Nat → α → Prop) (e u : β)
    (bstep : ∀ k x, (∀ j y, j < k → l[j]? = some y → ¬ bad j y) → l[k]? = some x → bad k x → f (mk (S k) k) = some (.br e))
    (nstep : ∀ k x, (∀ j y, j < k → l[j]? = some y → ¬ bad j y) → l[k]? = some x → ¬ bad k x → f (mk (S k) k) = some (.nx (mk (S (k + 1)) ((k : Int) + 1))))
    (fin : f (mk (S l.length) l.length) = some (.br u)) {s0 : σ} (h0 : s0 = S 0) : ((∀ k x, l[k]? = some x → ¬ bad k x) ∧ loopM f (mk s0 0) = some u) ∨ ((∃ k x, l[k]? = some x ∧ bad k x) ∧ loopM f (mk s0 0) = some e) := by
  subst h0
  have key : ∀ (d k : Nat), l.length - k = d → k ≤ l.length → (∀ j x, j < k → l[j]? = some x → ¬ bad j x) →
      ((∀ k x, l[k]? = some x → ¬ bad k x) ∧ loopM f (mk (S k) k) = some u) ∨ ((∃ k x, l[k]? = some x ∧ bad k x) ∧ loopM f (mk (S k) k) = some e) := by
    intro d
    induction d with
    | zero =>
      intro k hd hk hb
      have : k = l.length := by omega
      subst this
      exact .inl ⟨fun j x hx => hb j x (lt_k hx) hx, loopM_br fin⟩
    | succ d ih =>
      intro k hd hk hb
      obtain ⟨x, hx⟩ := ex_k (show k < l.length by omega)
      by_cases h : bad k x
      · exact .inr ⟨⟨k, x, hx, h⟩, loopM_br (bstep k x hb hx h)⟩
      · rw [loopM_nx (nstep k x hb hx h)]
        refine ih (k + 1) (by omega) (by omega) fun j y hj hy => ?_
        by_cases e : j = k
        · subst e; rw [hx] at hy; cases hy; exact h
        · exact hb j y (by omega) hy
  exact key l.length 0 (by omega) (by omega) fun j x hj => by omega

theorem loop_scan' {α β : Type} {f : Int → Option (Out Int β)} (l : List α) (bad : Nat → α → Prop) (e u : β)
    (bstep : ∀ k x, (∀ j y, j < k → l[j]? = some y → ¬ bad j y) → l[k]? = some x → bad k x → f (k : Int) = some (.br e)) (nstep : ∀ k x, (∀ j y, j < k → l[j]? = some y → ¬ bad j y) → l[k]? = some x → ¬ bad k x → f (k : Int) = some (.nx ((k : Int) + 1)))
    (fin : f (l.length : Int) = some (.br u)) : ((∀ k x, l[k]? = some x → ¬ bad k x) ∧ loopM f 0 = some u) ∨ ((∃ k x, l[k]? = some x ∧ bad k x) ∧ loopM f 0 = some e) := by
  have := loop_scanS (f := f) (σ := Unit) l (fun _ k => k) (fun _ => ()) bad e u (fun k x h1 h2 h3 => bstep k x h1 h2 h3) (fun k x h1 h2 h3 => nstep k x h1 h2 h3) fin (s0 := ()) rfl
  exact this
theorem wr_k {k n : Nat} (h : k < n) (hn : n ≤ maxLen) : wr ((k : Int) + 1) = (k : Int) + 1 := wr_id (by omega) (by simp only [maxLen] at hn; omega)

theorem bool_ne {b : Bool} (h : ¬ b = true) : b = false := by cases b <;> simp_all
theorem wr_len1 {n : Nat} (hn : n ≤ maxLen) : wr ((n : Int) - 1) = (n : Int) - 1 := wr_id (by simp only [maxLen] at hn; omega) (by simp only [maxLen] at hn; omega)


/- The library's searches. -/
def idxL {α : Type} (s : List α) (f : α → Option Bool) : Int → Option (Out Int (Unit ⊕ Int)) := fun x =>
  if decide (x < (List.length s : Int)) then (get s x).bind fun a => (f a).bind fun y => if y then some (.br (.inr x)) else some (.nx (wr (x + 1)))
  else some (.br (.inl ()))
theorem idx_first {α : Type} {s : List α} {f : α → Option Bool} {p : α → Prop} (hl : s.length ≤ maxLen) (hf : ∀ x ∈ s, ∃ b, f x = some b ∧ (b = true ↔ p x)) :
    (∃ (k : Nat) (x : α), s[k]? = some x ∧ p x ∧ (∀ j y, j < k → s[j]? = some y → ¬ p y) ∧ loopM (idxL s f) 0 = some (.inr (k : Int))) ∨ ((∀ x ∈ s, ¬ p x) ∧ loopM (idxL s f) 0 = some (.inl ())) := by
  have key : ∀ (d k : Nat), s.length - k = d → k ≤ s.length → (∀ j y, j < k → s[j]? = some y → ¬ p y) →
      (∃ (k' : Nat) (x : α), s[k']? = some x ∧ p x ∧ (∀ j y, j < k' → s[j]? = some y → ¬ p y) ∧ loopM (idxL s f) (k : Int) = some (.inr (k' : Int))) ∨ ((∀ x ∈ s, ¬ p x) ∧ loopM (idxL s f) (k : Int) = some (.inl ())) := by
    intro d
    induction d with
    | zero =>
      intro k hd hk hb
      have : k = s.length := by omega
      subst this
      refine .inr ⟨fun x hx => ?_, loopM_br (by simp [idxL])⟩
      obtain ⟨j, hj, rfl⟩ := List.getElem_of_mem hx
      exact hb j _ hj (List.getElem?_eq_getElem hj)
    | succ d ih =>
      intro k hd hk hb
      obtain ⟨x, hx⟩ := ex_k (show k < s.length by omega)
      obtain ⟨b, hb1, hb2⟩ := hf x (List.mem_of_getElem? hx)
      cases b with
      | true => exact .inl ⟨k, x, hx, hb2.1 rfl, hb, loopM_br (by simp [idxL, get_k hx, hb1, lt_k hx])⟩
      | false =>
        rw [loopM_nx (s' := (k : Int) + 1) (by simp [idxL, get_k hx, hb1, lt_k hx, wr_k (lt_k hx) hl])]
        refine ih (k + 1) (by omega) (by omega) fun j y hj hy => ?_
        by_cases e : j = k
        · subst e; rw [hx] at hy; cases hy; exact fun hp => by have := hb2.2 hp; cases this
        · exact hb j y (by omega) hy
  exact key s.length 0 (by omega) (by omega) fun j x hj => by omega
theorem idx_spec {α : Type} {s : List α} {f : α → Option Bool} {p : α → Prop} {g : Option Int} (hg : g = (loopM (idxL s f) 0).bind fun | (.inl ()) => some (-1) | (.inr r') => some r')
    (hl : s.length ≤ maxLen) (hf : ∀ x ∈ s, ∃ b, f x = some b ∧ (b = true ↔ p x)) :
    (∃ (k : Nat) (x : α), s[k]? = some x ∧ p x ∧ (∀ j y, j < k → s[j]? = some y → ¬ p y) ∧ g = some (k : Int)) ∨ ((∀ x ∈ s, ¬ p x) ∧ g = some (-1)) := by
  subst hg
  rcases idx_first hl hf with ⟨k, x, h1, h2, h3, h4⟩ | ⟨h1, h2⟩
  · exact .inl ⟨k, x, h1, h2, h3, by rw [h4]; rfl⟩
  · exact .inr ⟨h1, by rw [h2]; rfl⟩
theorem has_spec {α : Type} {s : List α} {f : α → Option Bool} {p : α → Prop} {g : Option Bool} (hg : g = ((loopM (idxL s f) 0).bind fun | (.inl ()) => some (-1) | (.inr r') => some r').bind fun y => some (decide (0 ≤ y)))
    (hl : s.length ≤ maxLen) (hf : ∀ x ∈ s, ∃ b, f x = some b ∧ (b = true ↔ p x)) : ∃ b, g = some b ∧ (b = true ↔ ∃ x ∈ s, p x) := by
  subst hg
  rcases idx_spec rfl hl hf with ⟨k, x, h1, h2, h3, h4⟩ | ⟨h1, h2⟩
  · rw [h4]; exact ⟨_, rfl, by simp; exact ⟨x, List.mem_of_getElem? h1, h2⟩⟩
  · rw [h2]; exact ⟨_, rfl, by simp; exact h1⟩

/- Tables: lists of so many values; lists that are being filled. -/
def tab {α : Type} (n : Nat) (f : Nat → α) : List α := (List.range n).map f
def fill {α : Type} (n : Nat) (f : Nat → α) (z : α) (k : Nat) : List α := tab n fun i => if i < k then f i else z
theorem tab_len {α : Type} {n : Nat} {f : Nat → α} : (tab n f).length = n := by simp [tab]
theorem tab_at {α : Type} {n : Nat} {f : Nat → α} {i : Nat} (h : i < n) : (tab n f)[i]? = some (f i) := by simp [tab, h]
theorem get_tab {α : Type} {n : Nat} {f : Nat → α} {i : Nat} (h : i < n) : get (tab n f) (i : Int) = some (f i) := get_k (tab_at h)
theorem tab_congr {α : Type} {n : Nat} {f g : Nat → α} (h : ∀ i, i < n → f i = g i) : tab n f = tab n g := List.map_congr_left fun i hi => h i (List.mem_range.1 hi)
theorem tab_succ {α : Type} {n : Nat} {f : Nat → α} : tab (n + 1) f = tab n f ++ [f n] := by simp [tab, List.range_succ]
theorem tab_set {α : Type} {n : Nat} {f : Nat → α} {k : Nat} {v : α} : (tab n f).set k v = tab n fun i => if i = k then v else f i := by
  apply List.ext_getElem?
  intro i
  by_cases hi : i < n
  · rw [tab_at hi, List.getElem?_set]
    by_cases e : k = i
    · subst e; simp [tab_len, hi]
    · rw [if_neg e, tab_at hi, if_neg (fun h => e h.symm)]
  · rw [List.getElem?_eq_none (by simp [tab_len]; omega), List.getElem?_eq_none (by simp [tab_len]; omega)]
theorem tab_rep {α : Type} {n : Nat} {z : α} : List.replicate n z = tab n fun _ => z := by
  apply List.ext_getElem?
  intro i
  by_cases hi : i < n
  · rw [tab_at hi]; simp [hi]
  · rw [List.getElem?_eq_none (by simp; omega), List.getElem?_eq_none (by simp [tab_len]; omega)]
theorem fill_zero {α : Type} {n : Nat} {f : Nat → α} {z : α} : List.replicate n z = fill n f z 0 := by rw [tab_rep]; rfl
theorem fill_all {α : Type} {n k : Nat} {f : Nat → α} {z : α} (h : n ≤ k) : fill n f z k = tab n f := tab_congr fun i hi => if_pos (by omega)
theorem fill_set {α : Type} {n k : Nat} {f : Nat → α} {z v : α} (hv : v = f k) : (fill n f z k).set k v = fill n f z (k + 1) := by
  unfold fill
  rw [tab_set]
  refine tab_congr fun i hi => ?_
  by_cases e : i = k
  · subst e; simp [hv]
  · rw [if_neg e]
    by_cases h : i < k
    · rw [if_pos h, if_pos (by omega)]
    · rw [if_neg h, if_neg (by omega)]
theorem get_fill {α : Type} {n k i : Nat} {f : Nat → α} {z : α} (h : i < n) : get (fill n f z k) (i : Int) = some (if i < k then f i else z) := get_tab h
theorem mks_nat {α : Type} {b n : Nat} {z : α} (h : n * b ≤ 2 ^ 47) (hb : 1 ≤ b) : mks b (n : Int) z = some (tab n fun _ => z) := by
  have h3 : n ≤ n * b := Nat.le_mul_of_pos_right n hb
  have : ((n * b : Nat) : Int) = (n : Int) * b := by simp
  rw [mks_ok (by omega) (by rw [← this]; omega) (by omega), ← tab_rep]; rfl

/- Sums, least and greatest ones over parts of lists and of the numbers. -/
def psum {α : Type} (l : List α) (g : α → Int) (k : Nat) : Int := ((l.take k).map g).sum
theorem psum_zero {α : Type} {l : List α} {g : α → Int} : psum l g 0 = 0 := by simp [psum]
theorem psum_succ {α : Type} {l : List α} {g : α → Int} {k : Nat} {x : α} (hx : l[k]? = some x) : psum l g (k + 1) = psum l g k + g x := by
  unfold psum; rw [List.take_add_one, hx]; simp
theorem psum_all {α : Type} {l : List α} {g : α → Int} : psum l g l.length = (l.map g).sum := by simp [psum]
theorem psum_bound {α : Type} {l : List α} {g : α → Int} {B : Int} (hB : ∀ x ∈ l, 0 ≤ g x ∧ g x ≤ B) : ∀ k, k ≤ l.length → 0 ≤ psum l g k ∧ psum l g k ≤ B * k := by
  intro k
  induction k with
  | zero => intro _; simp [psum_zero]
  | succ k ih =>
    intro hk
    obtain ⟨x, hx⟩ := ex_k (show k < l.length by omega)
    have h1 := ih (by omega)
    have h2 := hB x (List.mem_of_getElem? hx)
    rw [psum_succ hx]
    have : B * ((k + 1 : Nat) : Int) = B * k + B := by rw [Int.natCast_add, Int.mul_add]; simp
    rw [this]
    omega
def nsum (f : Nat → Int) (k : Nat) : Int := ((List.range k).map f).sum
theorem nsum_zero {f : Nat → Int} : nsum f 0 = 0 := rfl
theorem nsum_succ {f : Nat → Int} {k : Nat} : nsum f (k + 1) = nsum f k + f k := by simp [nsum, List.range_succ]
theorem nsum_bound {f : Nat → Int} {B : Int} : ∀ {k : Nat}, (∀ i, i < k → 0 ≤ f i ∧ f i ≤ B) → 0 ≤ nsum f k ∧ nsum f k ≤ B * k
  | 0, _ => by simp [nsum_zero]
  | k + 1, h => by
    have h1 := nsum_bound (k := k) fun i hi => h i (by omega)
    have h2 := h k (by omega)
    rw [nsum_succ]
    have : B * ((k + 1 : Nat) : Int) = B * k + B := by rw [Int.natCast_add, Int.mul_add]; simp
    rw [this]
    omega
theorem nsum_mono {f : Nat → Int} {a b : Nat} (hab : a ≤ b) (h : ∀ i, a ≤ i → i < b → 0 ≤ f i) : nsum f a ≤ nsum f b := by
  induction b with
  | zero => have : a = 0 := by omega
            subst this; exact Int.le_refl _
  | succ b ih =>
    by_cases e : a = b + 1
    · subst e; exact Int.le_refl _
    · have := ih (by omega) fun i h1 h2 => h i h1 (by omega)
      have := h b (by omega) (by omega)
      rw [nsum_succ]; omega
theorem nsum_diff {f : Nat → Int} {B : Int} {a b : Nat} (hab : a ≤ b) (h : ∀ i, a ≤ i → i < b → 0 ≤ f i ∧ f i ≤ B) : 0 ≤ nsum f b - nsum f a ∧ nsum f b - nsum f a ≤ B * ((b - a : Nat) : Int) := by
  induction b with
  | zero => have : a = 0 := by omega
            subst this; simp
  | succ b ih =>
    by_cases e : a = b + 1
    · subst e; simp
    · have h1 := ih (by omega) fun i h1 h2 => h i h1 (by omega)
      have h2 := h b (by omega) (by omega)
      have : B * ((b + 1 - a : Nat) : Int) = B * ((b - a : Nat) : Int) + B := by rw [show b + 1 - a = (b - a) + 1 by omega, Int.natCast_add, Int.mul_add]; simp
      rw [nsum_succ, this]; omega
theorem nsum_congr {f g : Nat → Int} {k : Nat} (h : ∀ i, i < k → f i = g i) : nsum f k = nsum g k := by
  unfold nsum; rw [List.map_congr_left fun i hi => h i (List.mem_range.1 hi)]
/-- The least of a number and of what a function says of the numbers from one on. -/
def lmin (z : Int) (g : Nat → Int) (a : Nat) : Nat → Int
  | 0 => z
  | n + 1 => min (lmin z g a n) (g (a + n))
def lmax (z : Int) (g : Nat → Int) (a : Nat) : Nat → Int
  | 0 => z
  | n + 1 => max (lmax z g a n) (g (a + n))
theorem lmin_le {z x : Int} {g : Nat → Int} {a n : Nat} : x ≤ lmin z g a n ↔ x ≤ z ∧ ∀ i, i < n → x ≤ g (a + i) := by
  induction n with
  | zero => simp [lmin]
  | succ n ih =>
    simp only [lmin, Int.le_min, ih]
    constructor
    · rintro ⟨⟨h1, h2⟩, h3⟩
      refine ⟨h1, fun i hi => ?_⟩
      by_cases e : i = n
      · subst e; exact h3
      · exact h2 i (by omega)
    · rintro ⟨h1, h2⟩
      exact ⟨⟨h1, fun i hi => h2 i (by omega)⟩, h2 n (by omega)⟩
theorem lmin_z {z : Int} {g : Nat → Int} {a n : Nat} : lmin z g a n ≤ z := (lmin_le.1 (Int.le_refl _)).1
theorem lmax_le {z x : Int} {g : Nat → Int} {a n : Nat} : lmax z g a n ≤ x ↔ z ≤ x ∧ ∀ i, i < n → g (a + i) ≤ x := by
  induction n with
  | zero => simp [lmax]
  | succ n ih =>
    simp only [lmax, Int.max_le, ih]
    constructor
    · rintro ⟨⟨h1, h2⟩, h3⟩
      refine ⟨h1, fun i hi => ?_⟩
      by_cases e : i = n
      · subst e; exact h3
      · exact h2 i (by omega)
    · rintro ⟨h1, h2⟩
      exact ⟨⟨h1, fun i hi => h2 i (by omega)⟩, h2 n (by omega)⟩
theorem lmax_z {z : Int} {g : Nat → Int} {a n : Nat} : z ≤ lmax z g a n := (lmax_le.1 (Int.le_refl _)).1
theorem lmax_at {z : Int} {g : Nat → Int} {a n i : Nat} (hi : i < n) : g (a + i) ≤ lmax z g a n := (lmax_le.1 (Int.le_refl _)).2 i hi
theorem loop_from {σ τ β : Type} {f : τ → Option (Out τ β)} (n : Nat) (mk : σ → Int → τ) (S : Nat → σ) (b : β) {s0 : σ} (k0 : Nat) (h0 : s0 = S k0) (hk0 : k0 ≤ n)
    (step : ∀ k : Nat, k0 ≤ k → k < n → f (mk (S k) k) = some (.nx (mk (S (k + 1)) ((k : Int) + 1)))) (fin : f (mk (S n) n) = some (.br b)) : loopM f (mk s0 k0) = some b := by
  subst h0
  obtain ⟨b', h1, h2⟩ := loop_inv (f := f) n mk (fun k s => s = S k ∧ k0 ≤ k) (fun x => x = b) (fun s k hk ⟨hs, hge⟩ => by
    subst hs; exact .inl ⟨_, step k hge hk, rfl, by omega⟩) (fun s ⟨hs, _⟩ => by subst hs; exact ⟨b, fin, rfl⟩) k0 hk0 ⟨rfl, Nat.le_refl _⟩
  rw [h1, h2]
end Go.Nw
