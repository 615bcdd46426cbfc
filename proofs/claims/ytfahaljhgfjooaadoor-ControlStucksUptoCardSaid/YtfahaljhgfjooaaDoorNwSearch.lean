/- Plain rules: loops over lists, the library's searches. -/
import Derived.Test.YtfahaljhgfjooaaDoorNwPlain
import Derived.Test.YtfahaljhgfjooaaDoorNwBits
set_option linter.all false
namespace Go.Nw
theorem b1g {α : Type} {l : List α} {k : Nat} {x : α} (h : l[k]? = some x) : get l (k : Int) = some x := by
 unfold get; rw [if_pos (by omega)]; simpa using h
theorem b1m {α : Type} {l : List α} {k : Nat} {x : α} (h : l[k]? = some x) : k < l.length := (List.getElem?_eq_some_iff.1 h).1
theorem b3m {α : Type} {l : List α} {k : Nat} (h : k < l.length) : ∃ x, l[k]? = some x := ⟨_, List.getElem?_eq_getElem h⟩
theorem c2k {α β : Type} {f : Int -> Option (Out Int β)} (l : List α) (bad : Nat -> α -> Prop) (e u : β)
  (bstep : ∀ k x, l[k]? = some x -> bad k x -> f (k : Int) = some (.br e)) (nstep : ∀ k x, l[k]? = some x -> ¬ bad k x -> f (k : Int) = some (.nx ((k : Int) + 1)))
  (fin : f (l.length : Int) = some (.br u)) : ((∀ k x, l[k]? = some x -> ¬ bad k x) /\ b0w f 0 = some u) \/ ((∃ k x, l[k]? = some x /\ bad k x) /\ b0w f 0 = some e) := by
 have key : ∀ (d k : Nat), l.length - k = d -> k <= l.length -> (∀ j x, j < k -> l[j]? = some x -> ¬ bad j x) ->
   ((∀ k x, l[k]? = some x -> ¬ bad k x) /\ b0w f (k : Int) = some u) \/ ((∃ k x, l[k]? = some x /\ bad k x) /\ b0w f (k : Int) = some e) := by
  intro d
  induction d with
  | zero =>
   intro k hd hk hb
   have : k = l.length := by omega
   subst this
   exact .inl ⟨fun j x hx => hb j x (b1m hx) hx, b34 fin⟩
  | succ d ih =>
   intro k hd hk hb
   obtain ⟨x, hx⟩ := b3m (show k < l.length by omega)
   by_cases h : bad k x
   ·exact .inr ⟨⟨k, x, hx, h⟩, b34 (bstep k x hx h)⟩
   ·rw [b6a (nstep k x hx h)]
    refine ih (k + 1) (by omega) (by omega) fun j y hj hy => ?_
    by_cases e : j = k
    ·subst e; rw [hx] at hy; cases hy; exact h
    ·exact hb j y (by omega) hy
 exact key l.length 0 (by omega) (by omega) fun j x hj => by omega
theorem j5u {σ τ β : Type} {f : τ -> Option (Out τ β)} (n : Nat) (mk : σ -> Int -> τ) (S : Nat -> σ) (b : β)
  (step : ∀ k : Nat, k < n -> f (mk (S k) k) = some (.nx (mk (S (k + 1)) ((k : Int) + 1)))) (fin : f (mk (S n) n) = some (.br b)) (k0 : Nat) (hk0 : k0 <= n) : b0w f (mk (S k0) k0) = some b := by
 obtain ⟨b', h1, h2⟩ := j5q (f := f) n mk (fun k s => s = S k) (fun x => x = b) (fun s k hk hs => by
  subst hs; exact .inl ⟨_, step k hk, rfl⟩) (fun s hs => by subst hs; exact ⟨b, fin, rfl⟩) k0 hk0 rfl
 rw [h1, h2]
theorem j5v {σ τ β : Type} {f : τ -> Option (Out τ β)} (n : Nat) (mk : σ -> Int -> τ) (S : Nat -> σ) (b : β)
  (step : ∀ k : Nat, k < n -> f (mk (S k) k) = some (.nx (mk (S (k + 1)) ((k : Int) + 1)))) (fin : f (mk (S n) n) = some (.br b)) : b0w f (mk (S 0) 0) = some b :=
 j5u n mk S b step fin 0 (Nat.zero_le _)
theorem b48 {σ τ β : Type} {f : τ -> Option (Out τ β)} (n : Nat) (mk : σ -> Int -> τ) (S : Nat -> σ) (b : β) {s0 : σ} (h0 : s0 = S 0)
  (step : ∀ k : Nat, k < n -> f (mk (S k) k) = some (.nx (mk (S (k + 1)) ((k : Int) + 1)))) (fin : f (mk (S n) n) = some (.br b)) : b0w f (mk s0 0) = some b := by
 subst h0; exact j5v n mk S b step fin
theorem d9j {α σ τ β : Type} {f : τ -> Option (Out τ β)} (l : List α) (mk : σ -> Int -> τ) (S : Nat -> σ) (bad : Nat -> α -> Prop) (e u : β)
  (bstep : ∀ k x, (∀ j y, j < k -> l[j]? = some y -> ¬ bad j y) -> l[k]? = some x -> bad k x -> f (mk (S k) k) = some (.br e))
  (nstep : ∀ k x, (∀ j y, j < k -> l[j]? = some y -> ¬ bad j y) -> l[k]? = some x -> ¬ bad k x -> f (mk (S k) k) = some (.nx (mk (S (k + 1)) ((k : Int) + 1))))
  (fin : f (mk (S l.length) l.length) = some (.br u)) {s0 : σ} (h0 : s0 = S 0) : ((∀ k x, l[k]? = some x -> ¬ bad k x) /\ b0w f (mk s0 0) = some u) \/ ((∃ k x, l[k]? = some x /\ bad k x) /\ b0w f (mk s0 0) = some e) := by
 subst h0
 have key : ∀ (d k : Nat), l.length - k = d -> k <= l.length -> (∀ j x, j < k -> l[j]? = some x -> ¬ bad j x) ->
   ((∀ k x, l[k]? = some x -> ¬ bad k x) /\ b0w f (mk (S k) k) = some u) \/ ((∃ k x, l[k]? = some x /\ bad k x) /\ b0w f (mk (S k) k) = some e) := by
  intro d
  induction d with
  | zero =>
   intro k hd hk hb
   have : k = l.length := by omega
   subst this
   exact .inl ⟨fun j x hx => hb j x (b1m hx) hx, b34 fin⟩
  | succ d ih =>
   intro k hd hk hb
   obtain ⟨x, hx⟩ := b3m (show k < l.length by omega)
   by_cases h : bad k x
   ·exact .inr ⟨⟨k, x, hx, h⟩, b34 (bstep k x hb hx h)⟩
   ·rw [b6a (nstep k x hb hx h)]
    refine ih (k + 1) (by omega) (by omega) fun j y hj hy => ?_
    by_cases e : j = k
    ·subst e; rw [hx] at hy; cases hy; exact h
    ·exact hb j y (by omega) hy
 exact key l.length 0 (by omega) (by omega) fun j x hj => by omega
theorem b2t {k n : Nat} (h : k < n) (hn : n <= maxLen) : wr ((k : Int) + 1) = (k : Int) + 1 := b3l (by omega) (by simp only [maxLen] at hn; omega)
theorem c4w {b : Bool} (h : ¬ b = true) : b = false := by cases b <;> simp_all
theorem c0w {n : Nat} (hn : n <= maxLen) : wr ((n : Int) - 1) = (n : Int) - 1 := b3l (by simp only [maxLen] at hn; omega) (by simp only [maxLen] at hn; omega)
def b56 {α : Type} (s : List α) (f : α -> Option Bool) : Int -> Option (Out Int (Unit ⊕ Int)) := fun x =>
 if decide (x < (List.length s : Int)) then (get s x).bind fun a => (f a).bind fun y => if y then some (.br (.inr x)) else some (.nx (wr (x + 1)))
 else some (.br (.inl ()))
theorem j2s {α : Type} {s : List α} {f : α -> Option Bool} {p : α -> Prop} (hl : s.length <= maxLen) (hf : ∀ x ∈ s, ∃ b, f x = some b /\ (b = true ↔ p x)) :
  (∃ (k : Nat) (x : α), s[k]? = some x /\ p x /\ (∀ j y, j < k -> s[j]? = some y -> ¬ p y) /\ b0w (b56 s f) 0 = some (.inr (k : Int))) \/ ((∀ x ∈ s, ¬ p x) /\ b0w (b56 s f) 0 = some (.inl ())) := by
 have key : ∀ (d k : Nat), s.length - k = d -> k <= s.length -> (∀ j y, j < k -> s[j]? = some y -> ¬ p y) ->
   (∃ (k' : Nat) (x : α), s[k']? = some x /\ p x /\ (∀ j y, j < k' -> s[j]? = some y -> ¬ p y) /\ b0w (b56 s f) (k : Int) = some (.inr (k' : Int))) \/ ((∀ x ∈ s, ¬ p x) /\ b0w (b56 s f) (k : Int) = some (.inl ())) := by
  intro d
  induction d with
  | zero =>
   intro k hd hk hb
   have : k = s.length := by omega
   subst this
   refine .inr ⟨fun x hx => ?_, b34 (by simp [b56])⟩
   obtain ⟨j, hj, rfl⟩ := List.getElem_of_mem hx
   exact hb j _ hj (List.getElem?_eq_getElem hj)
  | succ d ih =>
   intro k hd hk hb
   obtain ⟨x, hx⟩ := b3m (show k < s.length by omega)
   obtain ⟨b, hb1, hb2⟩ := hf x (List.mem_of_getElem? hx)
   cases b with
   | true => exact .inl ⟨k, x, hx, hb2.1 rfl, hb, b34 (by simp [b56, b1g hx, hb1, b1m hx])⟩
   | false =>
    rw [b6a (s' := (k : Int) + 1) (by simp [b56, b1g hx, hb1, b1m hx, b2t (b1m hx) hl])]
    refine ih (k + 1) (by omega) (by omega) fun j y hj hy => ?_
    by_cases e : j = k
    ·subst e; rw [hx] at hy; cases hy; exact fun hp => by have := hb2.2 hp; cases this
    ·exact hb j y (by omega) hy
 exact key s.length 0 (by omega) (by omega) fun j x hj => by omega
theorem j2v {α : Type} {s : List α} {f : α -> Option Bool} {p : α -> Prop} {g : Option Int} (hg : g = (b0w (b56 s f) 0).bind fun | (.inl ()) => some (-1) | (.inr r') => some r')
  (hl : s.length <= maxLen) (hf : ∀ x ∈ s, ∃ b, f x = some b /\ (b = true ↔ p x)) :
  (∃ (k : Nat) (x : α), s[k]? = some x /\ p x /\ (∀ j y, j < k -> s[j]? = some y -> ¬ p y) /\ g = some (k : Int)) \/ ((∀ x ∈ s, ¬ p x) /\ g = some (-1)) := by
 subst hg
 rcases j2s hl hf with ⟨k, x, h1, h2, h3, h4⟩ | ⟨h1, h2⟩
 ·exact .inl ⟨k, x, h1, h2, h3, by rw [h4]; rfl⟩
 ·exact .inr ⟨h1, by rw [h2]; rfl⟩
theorem c5l {α : Type} {s : List α} {f : α -> Option Bool} {p : α -> Prop} {g : Option Bool} (hg : g = ((b0w (b56 s f) 0).bind fun | (.inl ()) => some (-1) | (.inr r') => some r').bind fun y => some (decide (0 <= y)))
  (hl : s.length <= maxLen) (hf : ∀ x ∈ s, ∃ b, f x = some b /\ (b = true ↔ p x)) : ∃ b, g = some b /\ (b = true ↔ ∃ x ∈ s, p x) := by
 subst hg
 rcases j2v rfl hl hf with ⟨k, x, h1, h2, h3, h4⟩ | ⟨h1, h2⟩
 ·rw [h4]; exact ⟨_, rfl, by simp; exact ⟨x, List.mem_of_getElem? h1, h2⟩⟩
 ·rw [h2]; exact ⟨_, rfl, by simp; exact h1⟩
def tab {α : Type} (n : Nat) (f : Nat -> α) : List α := (List.range n).map f
def fill {α : Type} (n : Nat) (f : Nat -> α) (z : α) (k : Nat) : List α := tab n fun i => if i < k then f i else z
theorem b4v {α : Type} {n : Nat} {f : Nat -> α} : (tab n f).length = n := by simp [tab]
theorem c7x {α : Type} {n : Nat} {f : Nat -> α} {i : Nat} (h : i < n) : (tab n f)[i]? = some (f i) := by simp [tab, h]
theorem c5f {α : Type} {n : Nat} {f : Nat -> α} {i : Nat} (h : i < n) : get (tab n f) (i : Int) = some (f i) := b1g (c7x h)
theorem c0u {α : Type} {n : Nat} {f g : Nat -> α} (h : ∀ i, i < n -> f i = g i) : tab n f = tab n g := List.map_congr_left fun i hi => h i (List.mem_range.1 hi)
theorem l3x {α : Type} {n : Nat} {f : Nat -> α} : tab (n + 1) f = tab n f ++ [f n] := by simp [tab, List.range_succ]
theorem d33 {α : Type} {n : Nat} {f : Nat -> α} {k : Nat} {v : α} : (tab n f).set k v = tab n fun i => if i = k then v else f i := by
 apply List.ext_getElem?
 intro i
 by_cases hi : i < n
 ·rw [c7x hi, List.getElem?_set]
  by_cases e : k = i
  ·subst e; simp [b4v, hi]
  ·rw [if_neg e, c7x hi, if_neg (fun h => e h.symm)]
 ·rw [List.getElem?_eq_none (by simp [b4v]; omega), List.getElem?_eq_none (by simp [b4v]; omega)]
theorem d32 {α : Type} {n : Nat} {z : α} : List.replicate n z = tab n fun _ => z := by
 apply List.ext_getElem?
 intro i
 by_cases hi : i < n
 ·rw [c7x hi]; simp [hi]
 ·rw [List.getElem?_eq_none (by simp; omega), List.getElem?_eq_none (by simp [b4v]; omega)]
theorem g80 {α : Type} {n k : Nat} {f : Nat -> α} {z : α} : (fill n f z k).length = n := b4v
theorem g81 {α : Type} {n : Nat} {f : Nat -> α} {z : α} : List.replicate n z = fill n f z 0 := by rw [d32]; rfl
theorem g8y {α : Type} {n k : Nat} {f : Nat -> α} {z : α} (h : n <= k) : fill n f z k = tab n f := c0u fun i hi => if_pos (by omega)
theorem d0h {α : Type} {n k : Nat} {f : Nat -> α} {z v : α} (hv : v = f k) : (fill n f z k).set k v = fill n f z (k + 1) := by
 unfold fill
 rw [d33]
 refine c0u fun i hi => ?_
 by_cases e : i = k
 ·subst e; simp [hv]
 ·rw [if_neg e]
  by_cases h : i < k
  ·rw [if_pos h, if_pos (by omega)]
  ·rw [if_neg h, if_neg (by omega)]
theorem g9y {α : Type} {n k i : Nat} {f : Nat -> α} {z : α} (h : i < n) : get (fill n f z k) (i : Int) = some (if i < k then f i else z) := c5f h
theorem j56 {α : Type} {b n : Nat} {z : α} (h : n * b <= 2 ^ 47) (hb : 1 <= b) : mks b (n : Int) z = some (tab n fun _ => z) := by
 have h3 : n <= n * b := Nat.le_mul_of_pos_right n hb
 have : ((n * b : Nat) : Int) = (n : Int) * b := by simp
 rw [d9q (by omega) (by rw [<- this]; omega) (by omega), <- d32]; rfl
end Go.Nw
