/- Plain rules: loops over lists, the library's searches. -/
import Derived.Test.YtfahaljhgfjooaaDoorNwPlain
import Derived.Test.YtfahaljhgfjooaaDoorNwBits
set_option linter.all false
namespace Go.Nw
theorem b1h {α : Type} {l : List α} {k : Nat} {x : α} (h : l[k]? = some x) : get l (k : Int) = some x := by
 unfold get; rw [if_pos (by omega)]; simpa using h
theorem b1k {α : Type} {l : List α} {k : Nat} {x : α} (h : l[k]? = some x) : k < l.length := (gS9.1 h).1
theorem b3b {α : Type} {l : List α} {k : Nat} (h : k < l.length) : ∃ x, l[k]? = some x := ⟨_, gG9 h⟩
theorem c3v {α β : Type} {f : Int -> Option (Out Int β)} (l : List α) (bad : Nat -> α -> Prop) (e u : β)
  (bstep : ∀ k x, l[k]? = some x -> bad k x -> f (k : Int) = some (.br e)) (nstep : ∀ k x, l[k]? = some x -> ¬ bad k x -> f (k : Int) = some (.nx ((k : Int) + 1)))
  (fin : f (l.length : Int) = some (.br u)) : ((∀ k x, l[k]? = some x -> ¬ bad k x) /\ b0w f 0 = some u) \/ ((∃ k x, l[k]? = some x /\ bad k x) /\ b0w f 0 = some e) := by
 have key : ∀ (d k : Nat), l.length - k = d -> k <= l.length -> (∀ j x, j < k -> l[j]? = some x -> ¬ bad j x) ->
   ((∀ k x, l[k]? = some x -> ¬ bad k x) /\ b0w f (k : Int) = some u) \/ ((∃ k x, l[k]? = some x /\ bad k x) /\ b0w f (k : Int) = some e) := by
  intro d
  induction d with
  | zero =>
   intro k hd hk hb
   have : k = l.length := by omega
   subst this
   exact .inl ⟨fun j x hx => hb j x (b1k hx) hx, b3d fin⟩
  | succ d ih =>
   intro k hd hk hb
   obtain ⟨x, hx⟩ := b3b (show k < l.length by omega)
   by_cases h : bad k x
   ·exact .inr ⟨⟨k, x, hx, h⟩, b3d (bstep k x hx h)⟩
   ·rw [b32 (nstep k x hx h)]
    refine ih (k + 1) (by omega) (by omega) fun j y hj hy => ?_
    by_cases e : j = k
    ·subst e; rw [hx] at hy; cases hy; exact h
    ·exact hb j y (by omega) hy
 exact key l.length 0 (by omega) (by omega) fun j x hj => by omega
theorem j7y {σ τ β : Type} {f : τ -> Option (Out τ β)} (n : Nat) (mk : σ -> Int -> τ) (S : Nat -> σ) (b : β)
  (step : ∀ k : Nat, k < n -> f (mk (S k) k) = some (.nx (mk (S (k + 1)) ((k : Int) + 1)))) (fin : f (mk (S n) n) = some (.br b)) (k0 : Nat) (hk0 : k0 <= n) : b0w f (mk (S k0) k0) = some b := by
 obtain ⟨b', h1, h2⟩ := j7u (f := f) n mk (fun k s => s = S k) (fun x => x = b) (fun s k hk hs => by
  subst hs; exact .inl ⟨_, step k hk, rfl⟩) (fun s hs => by subst hs; exact ⟨b, fin, rfl⟩) k0 hk0 rfl
 rw [h1, h2]
theorem j7z {σ τ β : Type} {f : τ -> Option (Out τ β)} (n : Nat) (mk : σ -> Int -> τ) (S : Nat -> σ) (b : β)
  (step : ∀ k : Nat, k < n -> f (mk (S k) k) = some (.nx (mk (S (k + 1)) ((k : Int) + 1)))) (fin : f (mk (S n) n) = some (.br b)) : b0w f (mk (S 0) 0) = some b :=
 j7y n mk S b step fin 0 (Nat.zero_le _)
theorem b4h {σ τ β : Type} {f : τ -> Option (Out τ β)} (n : Nat) (mk : σ -> Int -> τ) (S : Nat -> σ) (b : β) {s0 : σ} (h0 : s0 = S 0)
  (step : ∀ k : Nat, k < n -> f (mk (S k) k) = some (.nx (mk (S (k + 1)) ((k : Int) + 1)))) (fin : f (mk (S n) n) = some (.br b)) : b0w f (mk s0 0) = some b := by
 subst h0; exact j7z n mk S b step fin
theorem g1j {α σ τ β : Type} {f : τ -> Option (Out τ β)} (l : List α) (mk : σ -> Int -> τ) (S : Nat -> σ) (bad : Nat -> α -> Prop) (e u : β)
  (bstep : ∀ k x, (∀ j y, j < k -> l[j]? = some y -> ¬ bad j y) -> l[k]? = some x -> bad k x -> f (mk (S k) k) = some (.br e))
  (nstep : ∀ k x, (∀ j y, j < k -> l[j]? = some y -> ¬ bad j y) -> l[k]? = some x -> ¬ bad k x -> f (mk (S k) k) = some (.nx (mk (S (k + 1)) ((k : Int) + 1))))
  (fin : f (mk (S l.length) l.length) = some (.br u)) {s0 : σ} (h0 : s0 = S 0) : ((∀ k x, l[k]? = some x -> ¬ bad k x) /\ b0w f (mk s0 0) = some u) \/ ((∃ k x, l[k]? = some x /\ bad k x) /\ b0w f (mk s0 0) = some e) := by
 subst h0
 have key : ∀ (d k : Nat), l.length - k = d -> k <= l.length -> (∀ j x, j < k -> l[j]? = some x -> ¬ bad j x) ->
   ((∀ k x, l[k]? = some x -> ¬ bad k x) /\ b0w f (mk (S k) k) = some u) \/ ((∃ k x, l[k]? = some x /\ bad k x) /\ b0w f (mk (S k) k) = some e) := by
  intro d
  induction d with
  | zero =>
   intro k hd hk hb
   have : k = l.length := by omega
   subst this
   exact .inl ⟨fun j x hx => hb j x (b1k hx) hx, b3d fin⟩
  | succ d ih =>
   intro k hd hk hb
   obtain ⟨x, hx⟩ := b3b (show k < l.length by omega)
   by_cases h : bad k x
   ·exact .inr ⟨⟨k, x, hx, h⟩, b3d (bstep k x hb hx h)⟩
   ·rw [b32 (nstep k x hb hx h)]
    refine ih (k + 1) (by omega) (by omega) fun j y hj hy => ?_
    by_cases e : j = k
    ·subst e; rw [hx] at hy; cases hy; exact h
    ·exact hb j y (by omega) hy
 exact key l.length 0 (by omega) (by omega) fun j x hj => by omega
theorem b2r {k n : Nat} (h : k < n) (hn : n <= maxLen) : wr ((k : Int) + 1) = (k : Int) + 1 := b3t (by omega) (by simp only [maxLen] at hn; omega)
theorem s33 {b : Bool} (h : ¬ b = true) : b = false := by cases b <;> simp_all
theorem c1n {n : Nat} (hn : n <= maxLen) : wr ((n : Int) - 1) = (n : Int) - 1 := b3t (by simp only [maxLen] at hn; omega) (by simp only [maxLen] at hn; omega)
def b6i {α : Type} (s : List α) (f : α -> Option Bool) : Int -> Option (Out Int (Unit ⊕ Int)) := fun x =>
 if decide (x < (List.length s : Int)) then (get s x).bind fun a => (f a).bind fun y => if y then some (.br (.inr x)) else some (.nx (wr (x + 1)))
 else some (.br (.inl ()))
theorem j4x {α : Type} {s : List α} {f : α -> Option Bool} {p : α -> Prop} (hl : s.length <= maxLen) (hf : ∀ x ∈ s, ∃ b, f x = some b /\ (b = true ↔ p x)) :
  (∃ (k : Nat) (x : α), s[k]? = some x /\ p x /\ (∀ j y, j < k -> s[j]? = some y -> ¬ p y) /\ b0w (b6i s f) 0 = some (.inr (k : Int))) \/ ((∀ x ∈ s, ¬ p x) /\ b0w (b6i s f) 0 = some (.inl ())) := by
 have key : ∀ (d k : Nat), s.length - k = d -> k <= s.length -> (∀ j y, j < k -> s[j]? = some y -> ¬ p y) ->
   (∃ (k' : Nat) (x : α), s[k']? = some x /\ p x /\ (∀ j y, j < k' -> s[j]? = some y -> ¬ p y) /\ b0w (b6i s f) (k : Int) = some (.inr (k' : Int))) \/ ((∀ x ∈ s, ¬ p x) /\ b0w (b6i s f) (k : Int) = some (.inl ())) := by
  intro d
  induction d with
  | zero =>
   intro k hd hk hb
   have : k = s.length := by omega
   subst this
   refine .inr ⟨fun x hx => ?_, b3d (by simp [b6i])⟩
   obtain ⟨j, hj, rfl⟩ := List.getElem_of_mem hx
   exact hb j _ hj (gG9 hj)
  | succ d ih =>
   intro k hd hk hb
   obtain ⟨x, hx⟩ := b3b (show k < s.length by omega)
   obtain ⟨b, hb1, hb2⟩ := hf x (mG9 hx)
   cases b with
   | true => exact .inl ⟨k, x, hx, hb2.1 rfl, hb, b3d (by simp [b6i, b1h hx, hb1, b1k hx])⟩
   | false =>
    rw [b32 (s' := (k : Int) + 1) (by simp [b6i, b1h hx, hb1, b1k hx, b2r (b1k hx) hl])]
    refine ih (k + 1) (by omega) (by omega) fun j y hj hy => ?_
    by_cases e : j = k
    ·subst e; rw [hx] at hy; cases hy; exact fun hp => by have := hb2.2 hp; cases this
    ·exact hb j y (by omega) hy
 exact key s.length 0 (by omega) (by omega) fun j x hj => by omega
theorem j40 {α : Type} {s : List α} {f : α -> Option Bool} {p : α -> Prop} {g : Option Int} (hg : g = (b0w (b6i s f) 0).bind fun | (.inl ()) => some (-1) | (.inr r') => some r')
  (hl : s.length <= maxLen) (hf : ∀ x ∈ s, ∃ b, f x = some b /\ (b = true ↔ p x)) :
  (∃ (k : Nat) (x : α), s[k]? = some x /\ p x /\ (∀ j y, j < k -> s[j]? = some y -> ¬ p y) /\ g = some (k : Int)) \/ ((∀ x ∈ s, ¬ p x) /\ g = some (-1)) := by
 subst hg
 rcases j4x hl hf with ⟨k, x, h1, h2, h3, h4⟩ | ⟨h1, h2⟩
 ·exact .inl ⟨k, x, h1, h2, h3, by rw [h4]; rfl⟩
 ·exact .inr ⟨h1, by rw [h2]; rfl⟩
theorem c20 {α : Type} {s : List α} {f : α -> Option Bool} {p : α -> Prop} {g : Option Bool} (hg : g = ((b0w (b6i s f) 0).bind fun | (.inl ()) => some (-1) | (.inr r') => some r').bind fun y => some (decide (0 <= y)))
  (hl : s.length <= maxLen) (hf : ∀ x ∈ s, ∃ b, f x = some b /\ (b = true ↔ p x)) : ∃ b, g = some b /\ (b = true ↔ ∃ x ∈ s, p x) := by
 subst hg
 rcases j40 rfl hl hf with ⟨k, x, h1, h2, h3, h4⟩ | ⟨h1, h2⟩
 ·rw [h4]; exact ⟨_, rfl, by simp; exact ⟨x, mG9 h1, h2⟩⟩
 ·rw [h2]; exact ⟨_, rfl, by simp; exact h1⟩
def tab {α : Type} (n : Nat) (f : Nat -> α) : List α := (List.range n).map f
def fill {α : Type} (n : Nat) (f : Nat -> α) (z : α) (k : Nat) : List α := tab n fun i => if i < k then f i else z
theorem b3y {α : Type} {n : Nat} {f : Nat -> α} : (tab n f).length = n := by simp [tab]
theorem c1l {α : Type} {n : Nat} {f : Nat -> α} {i : Nat} (h : i < n) : (tab n f)[i]? = some (f i) := by simp [tab, h]
theorem c2y {α : Type} {n : Nat} {f : Nat -> α} {i : Nat} (h : i < n) : get (tab n f) (i : Int) = some (f i) := b1h (c1l h)
theorem c1m {α : Type} {n : Nat} {f g : Nat -> α} (h : ∀ i, i < n -> f i = g i) : tab n f = tab n g := List.map_congr_left fun i hi => h i (List.mem_range.1 hi)
theorem l5w {α : Type} {n : Nat} {f : Nat -> α} : tab (n + 1) f = tab n f ++ [f n] := by simp [tab, List.range_succ]
theorem d5i {α : Type} {n : Nat} {f : Nat -> α} {k : Nat} {v : α} : (tab n f).set k v = tab n fun i => if i = k then v else f i := by
 apply List.ext_getElem?
 intro i
 by_cases hi : i < n
 ·rw [c1l hi, List.getElem?_set]
  by_cases e : k = i
  ·subst e; simp [b3y, hi]
  ·rw [if_neg e, c1l hi, if_neg (fun h => e h.symm)]
 ·rw [List.getElem?_eq_none (by simp [b3y]; omega), List.getElem?_eq_none (by simp [b3y]; omega)]
theorem p6y {α : Type} {n : Nat} {z : α} : List.replicate n z = tab n fun _ => z := by
 apply List.ext_getElem?
 intro i
 by_cases hi : i < n
 ·rw [c1l hi]; simp [hi]
 ·rw [List.getElem?_eq_none (by simp; omega), List.getElem?_eq_none (by simp [b3y]; omega)]
theorem d7z {α : Type} {n k : Nat} {f : Nat -> α} {z : α} : (fill n f z k).length = n := b3y
theorem d1w {α : Type} {n : Nat} {f : Nat -> α} {z : α} : List.replicate n z = fill n f z 0 := by rw [p6y]; rfl
theorem d1u {α : Type} {n k : Nat} {f : Nat -> α} {z : α} (h : n <= k) : fill n f z k = tab n f := c1m fun i hi => if_pos (by omega)
theorem c2r {α : Type} {n k : Nat} {f : Nat -> α} {z v : α} (hv : v = f k) : (fill n f z k).set k v = fill n f z (k + 1) := by
 unfold fill
 rw [d5i]
 refine c1m fun i hi => ?_
 by_cases e : i = k
 ·subst e; simp [hv]
 ·rw [if_neg e]
  by_cases h : i < k
  ·rw [if_pos h, if_pos (by omega)]
  ·rw [if_neg h, if_neg (by omega)]
theorem d15 {α : Type} {n k i : Nat} {f : Nat -> α} {z : α} (h : i < n) : get (fill n f z k) (i : Int) = some (if i < k then f i else z) := c2y h
theorem g1q {α : Type} {b n : Nat} {z : α} (h : n * b <= 2 ^ 47) (hb : 1 <= b) : mks b (n : Int) z = some (tab n fun _ => z) := by
 have h3 : n <= n * b := Nat.le_mul_of_pos_right n hb
 have : ((n * b : Nat) : Int) = (n : Int) * b := by simp
 rw [j8b (by omega) (by rw [<- this]; omega) (by omega), <- p6y]; rfl
end Go.Nw
