/- Plain laws on the models. -/
import Derived.Test.YtjpgklcdlklhbaaDoorNwPlain
import Derived.Test.YtjpgklcdlklhbaaDoorVM
import Derived.Test.YtjpgklcdlklhbaaDoorP2
import Derived.Test.YtjpgklcdlklhbaaDoorP1
import Derived.Sort.AssemblyPlain
set_option linter.all false
namespace Go.Nw
theorem j7u {σ τ β : Type} {f : τ -> Option (Out τ β)} (n : Nat) (mk : σ -> Int -> τ) (Inv : Nat -> σ -> Prop) (P : β -> Prop)
  (step : ∀ s (k : Nat), k < n -> Inv k s -> (∃ s', f (mk s k) = some (.nx (mk s' ((k : Int) + 1))) /\ Inv (k + 1) s') \/ ∃ b, f (mk s k) = some (.br b) /\ P b)
  (fin : ∀ s, Inv n s -> ∃ b, f (mk s n) = some (.br b) /\ P b) {s : σ} (k0 : Nat) (hk0 : k0 <= n) (h0 : Inv k0 s) : ∃ b, b0w f (mk s k0) = some b /\ P b := by
 have key : ∀ (d k : Nat) (s : σ), n - k = d -> k <= n -> Inv k s -> ∃ b, b0w f (mk s k) = some b /\ P b := by
  intro d
  induction d with
  | zero =>
   intro k s hd hk hi
   have : k = n := by omega
   subst this
   obtain ⟨b, h1, h2⟩ := fin s hi
   exact ⟨b, b3d h1, h2⟩
  | succ d ih =>
   intro k s hd hk hi
   rcases step s k (by omega) hi with ⟨s', h1, h2⟩ | ⟨b, h1, h2⟩
   ·rw [w91 h1]
    exact ih (k + 1) s' (by omega) (by omega) h2
   ·exact ⟨b, b3d h1, h2⟩
 exact key _ k0 s rfl hk0 h0
theorem C2g {α : Type} {f : (List α × Int) -> Option (Out (List α × Int) (List α))} (n B : Nat) (p : Nat -> Bool) (e : Nat -> α)
  (step : ∀ (l : List α) (k : Nat), k < n -> l.length <= B + k -> f (l, (k : Int)) = some (.nx (if p k then l ++ [e k] else l, (k : Int) + 1)))
  (fin : ∀ l, f (l, (n : Int)) = some (.br l)) (l0 : List α) (k0 : Nat) (hk : k0 <= n) (hl : l0.length <= B + k0) :
  b0w f (l0, (k0 : Int)) = some (l0 ++ ((List.range' k0 (n - k0)).filter p).map e) := by
 have key : ∀ (d k : Nat) (l : List α), n - k = d -> k <= n -> l.length <= B + k -> b0w f (l, (k : Int)) = some (l ++ ((List.range' k d).filter p).map e) := by
  intro d
  induction d with
  | zero =>
   intro k s hd hk hi
   have : k = n := by omega
   subst this
   rw [b3d (fin s)]; simp
  | succ d ih =>
   intro k s hd hk hi
   rw [w91 (step s k (by omega) hi)]
   have := ih (k + 1) (if p k then s ++ [e k] else s) (by omega) (by omega) (by split <;> (try simp only [List.length_append, List.length_cons, List.length_nil]) <;> omega)
   rw [show ((k + 1 : Nat) : Int) = (k : Int) + 1 by omega] at this
   rw [this, List.range'_succ]
   cases hp : p k <;> simp [hp]
 exact key _ k0 l0 rfl hk hl
theorem C2h {α : Type} {f : (List α × Int) -> Option (Out (List α × Int) (List α))} (n : Nat) (p : Nat -> Bool) (e : Nat -> α)
  (step : ∀ (l : List α) (k : Nat), k < n -> l.length <= k -> f (l, (k : Int)) = some (.nx (if p k then l ++ [e k] else l, (k : Int) + 1)))
  (fin : ∀ l, f (l, (n : Int)) = some (.br l)) : b0w f ([], 0) = some (((List.range n).filter p).map e) := by
 have := C2g n 0 p e (fun l k h1 h2 => step l k h1 (by omega)) fin [] 0 (Nat.zero_le _) (Nat.zero_le _)
 rw [List.range_eq_range']
 simpa using this
theorem s9p (a : Nat) (ha : a < 18446744073709551616) : (BitVec.ofInt 64 (a : Int)).toNat = a := by
 rw [BitVec.ofInt_natCast, BitVec.toNat_ofNat]; exact Nat.mod_eq_of_lt (by simpa using ha)
theorem u4f {a : Nat} (ha : a < 9223372036854775808) : IntKind.wrap .i64 (a : Int) = a := g3z (by omega) (by omega)
theorem u6m {a b : Nat} (ha : a < 9223372036854775808) (hb : b < 9223372036854775808) : b6y (a : Int) (b : Int) = ((a &&& b : Nat) : Int) := by
 show IntKind.wrap .i64 ((BitVec.ofInt 64 (a : Int) &&& BitVec.ofInt 64 (b : Int)).toNat : Int) = _
 rw [BitVec.toNat_and, s9p a (by omega), s9p b (by omega)]
 exact u4f (Nat.lt_of_le_of_lt Nat.and_le_left ha)
theorem u22 {a b : Nat} (ha : a < 9223372036854775808) (hb : b < 9223372036854775808) : bor (a : Int) (b : Int) = ((a ||| b : Nat) : Int) := by
 show IntKind.wrap .i64 ((BitVec.ofInt 64 (a : Int) ||| BitVec.ofInt 64 (b : Int)).toNat : Int) = _
 rw [BitVec.toNat_or, s9p a (by omega), s9p b (by omega)]
 exact u4f (show _ < 2 ^ 63 from Nat.or_lt_two_pow ha hb)
theorem u9n {a y : Nat} (hy : y <= 64) : d45 .i64 (a : Int) (y : Int) = ((a >>> y : Nat) : Int) := by
 have : Nat.min (y : Int).toNat IntKind.i64.bits = y := Nat.min_eq_left (by rw [show IntKind.i64.bits = 64 from rfl]; omega)
 unfold d45
 rw [this, Nat.shiftRight_eq_div_pow]
 have h2 : (2 : Int) ^ y = ((2 ^ y : Nat) : Int) := by simp
 rw [h2, Int.fdiv_eq_ediv_of_nonneg _ (Int.natCast_nonneg _)]; rfl
theorem u6r {a y : Nat} (ha : a < 9223372036854775808) (hy : y <= 64) : b6y (d45 .i64 (a : Int) (y : Int)) 1 = if a.testBit y then 1 else 0 := by
 rw [u9n hy]
 have h1 : a >>> y < 9223372036854775808 := by rw [Nat.shiftRight_eq_div_pow]; exact Nat.lt_of_le_of_lt (Nat.div_le_self _ _) ha
 have := u6m h1 (show (1 : Nat) < 9223372036854775808 by omega)
 rw [show ((1 : Nat) : Int) = 1 from rfl] at this
 rw [this, Nat.testBit, Nat.and_comm]
 have h2 : 1 &&& (a >>> y) = (a >>> y) % 2 := by rw [Nat.and_comm, Nat.and_one_is_mod]
 rw [h2]
 have h3 : (a >>> y) % 2 = 0 \/ (a >>> y) % 2 = 1 := by omega
 rcases h3 with h3 | h3 <;> rw [h3] <;> rfl
theorem u1e {y : Nat} (hy : y <= 62) : shl .i64 1 (y : Int) = some ((2 ^ y : Nat) : Int) := by
 rw [l5j (by omega) (by omega)]; simp
theorem u4e {y : Nat} (hy : y < 18446744073709551616) : IntKind.wrap .u64 (y : Int) = y := c9p (by omega) (by omega)
theorem u3z {y : Nat} (hy : y <= 62) : 2 ^ y < 9223372036854775808 := by
 have := Nat.pow_le_pow_right (n := 2) (by omega) hy
 omega
def Sub (a b : Nat) : Prop := ∀ i, a.testBit i = true -> b.testBit i = true
theorem sub_zero (a : Nat) : Sub 0 a := fun i h => by simp at h
end Go.Nw
namespace Go.Nw
theorem b1h {α : Type} {l : List α} {k : Nat} {x : α} (h : l[k]? = some x) : get l (k : Int) = some x := by
 unfold get; rw [if_pos (by omega)]; simpa using h
theorem b1k {α : Type} {l : List α} {k : Nat} {x : α} (h : l[k]? = some x) : k < l.length := (gS9.1 h).1
theorem b3b {α : Type} {l : List α} {k : Nat} (h : k < l.length) : ∃ x, l[k]? = some x := ⟨_, gG9 h⟩
theorem c3v {α β : Type} {f : Int -> Option (Out Int β)} (l : List α) (bad : Nat -> α -> Prop) (e u : β)
  (bstep : ∀ k x, l[k]? = some x -> bad k x -> f (k : Int) = some (.br e)) (nstep : ∀ k x, l[k]? = some x -> ¬ bad k x -> f (k : Int) = some (.nx ((k : Int) + 1)))
  (fin : f (l.length : Int) = some (.br u)) : ((∀ k x, l[k]? = some x -> ¬ bad k x) /\ b0w f 0 = some u) \/ ((∃ k x, l[k]? = some x /\ bad k x) /\ b0w f 0 = some e) := by
 have key : ∀ (d k : Nat), l.length - k = d -> k <= l.length -> (∀ j x, j < k -> l[j]? = some x -> ¬ bad j x) ->
   ((∀ k x, l[k]? = some x -> ¬ bad k x) /\ b0w f (k : Int) = some u) \/ ((∃ k x, l[k]? = some x /\ bad k x) /\ b0w f (k : Int) = some e) := by
  intro d
  induction d with
  | zero =>
   intro k hd hk hb
   have : k = l.length := by omega
   subst this
   exact .inl ⟨fun j x hx => hb j x (b1k hx) hx, b3d fin⟩
  | succ d ih =>
   intro k hd hk hb
   obtain ⟨x, hx⟩ := b3b (show k < l.length by omega)
   by_cases h : bad k x
   ·exact .inr ⟨⟨k, x, hx, h⟩, b3d (bstep k x hx h)⟩
   ·rw [w91 (nstep k x hx h)]
    refine ih (k + 1) (by omega) (by omega) fun j y hj hy => ?_
    by_cases e : j = k
    ·subst e; rw [hx] at hy; cases hy; exact h
    ·exact hb j y (by omega) hy
 exact key l.length 0 (by omega) (by omega) fun j x hj => by omega
theorem j7y {σ τ β : Type} {f : τ -> Option (Out τ β)} (n : Nat) (mk : σ -> Int -> τ) (S : Nat -> σ) (b : β)
  (step : ∀ k : Nat, k < n -> f (mk (S k) k) = some (.nx (mk (S (k + 1)) ((k : Int) + 1)))) (fin : f (mk (S n) n) = some (.br b)) (k0 : Nat) (hk0 : k0 <= n) : b0w f (mk (S k0) k0) = some b := by
 obtain ⟨b', h1, h2⟩ := j7u (f := f) n mk (fun k s => s = S k) (fun x => x = b) (fun s k hk hs => by
  subst hs; exact .inl ⟨_, step k hk, rfl⟩) (fun s hs => by subst hs; exact ⟨b, fin, rfl⟩) k0 hk0 rfl
 rw [h1, h2]
theorem j7z {σ τ β : Type} {f : τ -> Option (Out τ β)} (n : Nat) (mk : σ -> Int -> τ) (S : Nat -> σ) (b : β)
  (step : ∀ k : Nat, k < n -> f (mk (S k) k) = some (.nx (mk (S (k + 1)) ((k : Int) + 1)))) (fin : f (mk (S n) n) = some (.br b)) : b0w f (mk (S 0) 0) = some b :=
 j7y n mk S b step fin 0 (Nat.zero_le _)
theorem b4h {σ τ β : Type} {f : τ -> Option (Out τ β)} (n : Nat) (mk : σ -> Int -> τ) (S : Nat -> σ) (b : β) {s0 : σ} (h0 : s0 = S 0)
  (step : ∀ k : Nat, k < n -> f (mk (S k) k) = some (.nx (mk (S (k + 1)) ((k : Int) + 1)))) (fin : f (mk (S n) n) = some (.br b)) : b0w f (mk s0 0) = some b := by
 subst h0; exact j7z n mk S b step fin
theorem b2r {k n : Nat} (h : k < n) (hn : n <= maxLen) : wr ((k : Int) + 1) = (k : Int) + 1 := b3t (by omega) (by simp only [maxLen] at hn; omega)
def b6i {α : Type} (s : List α) (f : α -> Option Bool) : Int -> Option (Out Int (Unit ⊕ Int)) := fun x =>
 if decide (x < (List.length s : Int)) then (get s x).bind fun a => (f a).bind fun y => if y then some (.br (.inr x)) else some (.nx (wr (x + 1)))
 else some (.br (.inl ()))
theorem j4x {α : Type} {s : List α} {f : α -> Option Bool} {p : α -> Prop} (hl : s.length <= maxLen) (hf : ∀ x ∈ s, ∃ b, f x = some b /\ (b = true ↔ p x)) :
  (∃ (k : Nat) (x : α), s[k]? = some x /\ p x /\ (∀ j y, j < k -> s[j]? = some y -> ¬ p y) /\ b0w (b6i s f) 0 = some (.inr (k : Int))) \/ ((∀ x ∈ s, ¬ p x) /\ b0w (b6i s f) 0 = some (.inl ())) := by
 have key : ∀ (d k : Nat), s.length - k = d -> k <= s.length -> (∀ j y, j < k -> s[j]? = some y -> ¬ p y) ->
   (∃ (k' : Nat) (x : α), s[k']? = some x /\ p x /\ (∀ j y, j < k' -> s[j]? = some y -> ¬ p y) /\ b0w (b6i s f) (k : Int) = some (.inr (k' : Int))) \/ ((∀ x ∈ s, ¬ p x) /\ b0w (b6i s f) (k : Int) = some (.inl ())) := by
  intro d
  induction d with
  | zero =>
   intro k hd hk hb
   have : k = s.length := by omega
   subst this
   refine .inr ⟨fun x hx => ?_, b3d (by simp [b6i])⟩
   obtain ⟨j, hj, rfl⟩ := List.getElem_of_mem hx
   exact hb j _ hj (gG9 hj)
  | succ d ih =>
   intro k hd hk hb
   obtain ⟨x, hx⟩ := b3b (show k < s.length by omega)
   obtain ⟨b, hb1, hb2⟩ := hf x (mG9 hx)
   cases b with
   | true => exact .inl ⟨k, x, hx, hb2.1 rfl, hb, b3d (by simp [b6i, b1h hx, hb1, b1k hx])⟩
   | false =>
    rw [w91 (s' := (k : Int) + 1) (by simp [b6i, b1h hx, hb1, b1k hx, b2r (b1k hx) hl])]
    refine ih (k + 1) (by omega) (by omega) fun j y hj hy => ?_
    by_cases e : j = k
    ·subst e; rw [hx] at hy; cases hy; exact fun hp => by have := hb2.2 hp; cases this
    ·exact hb j y (by omega) hy
 exact key s.length 0 (by omega) (by omega) fun j x hj => by omega
theorem j40 {α : Type} {s : List α} {f : α -> Option Bool} {p : α -> Prop} {g : Option Int} (hg : g = (b0w (b6i s f) 0).bind fun | (.inl ()) => some (-1) | (.inr r') => some r')
  (hl : s.length <= maxLen) (hf : ∀ x ∈ s, ∃ b, f x = some b /\ (b = true ↔ p x)) :
  (∃ (k : Nat) (x : α), s[k]? = some x /\ p x /\ (∀ j y, j < k -> s[j]? = some y -> ¬ p y) /\ g = some (k : Int)) \/ ((∀ x ∈ s, ¬ p x) /\ g = some (-1)) := by
 subst hg
 rcases j4x hl hf with ⟨k, x, h1, h2, h3, h4⟩ | ⟨h1, h2⟩
 ·exact .inl ⟨k, x, h1, h2, h3, by rw [h4]; rfl⟩
 ·exact .inr ⟨h1, by rw [h2]; rfl⟩
theorem c20 {α : Type} {s : List α} {f : α -> Option Bool} {p : α -> Prop} {g : Option Bool} (hg : g = ((b0w (b6i s f) 0).bind fun | (.inl ()) => some (-1) | (.inr r') => some r').bind fun y => some (decide (0 <= y)))
  (hl : s.length <= maxLen) (hf : ∀ x ∈ s, ∃ b, f x = some b /\ (b = true ↔ p x)) : ∃ b, g = some b /\ (b = true ↔ ∃ x ∈ s, p x) := by
 subst hg
 rcases j40 rfl hl hf with ⟨k, x, h1, h2, h3, h4⟩ | ⟨h1, h2⟩
 ·rw [h4]; exact ⟨_, rfl, by simp; exact ⟨x, mG9 h1, h2⟩⟩
 ·rw [h2]; exact ⟨_, rfl, by simp; exact h1⟩
def tab {α : Type} (n : Nat) (f : Nat -> α) : List α := (List.range n).map f
def fill {α : Type} (n : Nat) (f : Nat -> α) (z : α) (k : Nat) : List α := tab n fun i => if i < k then f i else z
theorem b3y {α : Type} {n : Nat} {f : Nat -> α} : (tab n f).length = n := by simp [tab]
theorem c1l {α : Type} {n : Nat} {f : Nat -> α} {i : Nat} (h : i < n) : (tab n f)[i]? = some (f i) := by simp [tab, h]
theorem c2y {α : Type} {n : Nat} {f : Nat -> α} {i : Nat} (h : i < n) : get (tab n f) (i : Int) = some (f i) := b1h (c1l h)
theorem c1m {α : Type} {n : Nat} {f g : Nat -> α} (h : ∀ i, i < n -> f i = g i) : tab n f = tab n g := List.map_congr_left fun i hi => h i (List.mem_range.1 hi)
theorem d5i {α : Type} {n : Nat} {f : Nat -> α} {k : Nat} {v : α} : (tab n f).set k v = tab n fun i => if i = k then v else f i := by
 apply List.ext_getElem?
 intro i
 by_cases hi : i < n
 ·rw [c1l hi, List.getElem?_set]
  by_cases e : k = i
  ·subst e; simp [b3y, hi]
  ·rw [if_neg e, c1l hi, if_neg (fun h => e h.symm)]
 ·rw [List.getElem?_eq_none (by simp [b3y]; omega), List.getElem?_eq_none (by simp [b3y]; omega)]
theorem g3k {α : Type} {n : Nat} {f : Nat -> α} {x : α} (h : x ∈ tab n f) : ∃ i, i < n /\ x = f i := by
 obtain ⟨i, hi, rfl⟩ := List.mem_map.1 h
 exact ⟨i, List.mem_range.1 hi, rfl⟩
theorem p6y {α : Type} {n : Nat} {z : α} : List.replicate n z = tab n fun _ => z := by
 apply List.ext_getElem?
 intro i
 by_cases hi : i < n
 ·rw [c1l hi]; simp [hi]
 ·rw [List.getElem?_eq_none (by simp; omega), List.getElem?_eq_none (by simp [b3y]; omega)]
theorem d1u {α : Type} {n k : Nat} {f : Nat -> α} {z : α} (h : n <= k) : fill n f z k = tab n f := c1m fun i hi => if_pos (by omega)
theorem c2r {α : Type} {n k : Nat} {f : Nat -> α} {z v : α} (hv : v = f k) : (fill n f z k).set k v = fill n f z (k + 1) := by
 unfold fill
 rw [d5i]
 refine c1m fun i hi => ?_
 by_cases e : i = k
 ·subst e; simp [hv]
 ·rw [if_neg e]
  by_cases h : i < k
  ·rw [if_pos h, if_pos (by omega)]
  ·rw [if_neg h, if_neg (by omega)]
theorem d15 {α : Type} {n k i : Nat} {f : Nat -> α} {z : α} (h : i < n) : get (fill n f z k) (i : Int) = some (if i < k then f i else z) := c2y h
theorem g1q {α : Type} {b n : Nat} {z : α} (h : n * b <= 2 ^ 47) (hb : 1 <= b) : mks b (n : Int) z = some (tab n fun _ => z) := by
 have h3 : n <= n * b := Nat.le_mul_of_pos_right n hb
 have : ((n * b : Nat) : Int) = (n : Int) * b := by simp
 rw [j8b (by omega) (by rw [<- this]; omega) (by omega), <- p6y]; rfl
end Go.Nw
namespace Go.Nw.VM
open Go.Nw.Tp4
set_option maxHeartbeats 4000000
variable {O : Orac} [MapsOk O]
theorem B3n (hf : Has O "slices.pdqsortCmpFunc[int]" x_slices_pdqsortCmpFunc_int_) (kI : x80 O) (data : List Int) (i_0 : Nat) (lim : Int) (cmp_n : String) (cmp_a cmp_b : List AV) (cmp : Int -> Int -> Option Int) (cmp_z : Frz (.fn cmp_n cmp_a cmp_b)) (cmp_h : ∀ z0 z1 y, cmp z0 z1 = some y -> Fn O cmp_n (cmp_a ++ [I z0, I z1] ++ cmp_b) (I y)) (h0 : Heap) (ob_p0 : h0.ob i_0 = some (1, List.map eI data)) (lt_p0 : i_0 < h0.nx) (hl : data.length <= 12) (r : List Int) (hm0 : x73 data 0 (data.length : Int) cmp = some r) :
  b6e O "slices.pdqsortCmpFunc[int]" [.rs i_0 0 (List.length data), I 0, I (data.length : Int), I lim, .fn cmp_n cmp_a cmp_b] h0 (fun v h => v = .tup [] /\ h.ob i_0 = some (1, List.map eI r) /\ List.length r = List.length data /\ (∀ j, j < h0.nx -> ¬j = i_0 -> h.ob j = h0.ob j) /\ h0.nx <= h.nx) := by
 refine d8g hf rfl ?_
 refine b1c (fun t h => t 0 = .rs i_0 0 (List.length data) /\ t 1 = I 0 /\ t 2 = I (data.length : Int) /\ t 4 = .fn cmp_n cmp_a cmp_b /\ h = h0) ⟨rfl, rfl, rfl, rfl, rfl⟩ fun t h ⟨s0, s1, s2, s4, hh⟩ => ?_
 subst hh
 simp only [x_slices_pdqsortCmpFunc_int_]
 refine b0b fun K hK => ?_
 simp only [go_sem]
 refine hK _ _ ?_
 clear hK K
 refine b0b fun K hK => ?_
 simp only [go_sem]
 refine hK _ _ ?_
 clear hK K
 simp only [b0u]
 refine c2k (fun _ t h' => t 0 = .rs i_0 0 (List.length data) /\ t 1 = I 0 /\ t 2 = I (data.length : Int) /\ t 4 = .fn cmp_n cmp_a cmp_b /\ h' = h) 0 ⟨by simp only [go_sem, s0], by simp only [go_sem, s1], by simp only [go_sem, s2], by simp only [go_sem, s4], rfl⟩ ?_
 clear s0 s1 s2 s4
 rintro k t h' ⟨s0, s1, s2, s4, hh⟩
 subst hh
 rw [w83]
 simp only [b0u]
 refine b0b fun K hK => ?_
 simp only [go_sem, s1, s2]
 refine hK _ _ ?_
 clear hK K
 refine b0v ?_
 refine b0b fun K hK => ?_
 simp only [go_sem]
 refine hK _ _ ?_
 clear hK K
 refine b0i fun K hK => ?_
 simp only [go_sem]
 refine b0k (fun hc => ?_) (fun hc => ?_)
 ·refine b0b fun K hK => ?_
  simp only [go_sem, s0, s1, s2, s4]
  refine d9m (kI data i_0 0 (data.length : Int) cmp_n cmp_a cmp_b cmp cmp_z cmp_h h' ob_p0 lt_p0 r hm0) ?_
  rintro _ h2 ⟨rfl, ob_y, le_y, fr_y, fx_y⟩
  simp only [go_sem]
  refine hK _ _ ?_
  clear hK K
  simp only [b0x, b1p, b2e, b0y]
  exact c4o (Post := fun v h => v = .tup [] /\ h.ob i_0 = some (1, List.map eI r) /\ List.length r = List.length data /\ (∀ j, j < h'.nx -> ¬j = i_0 -> h.ob j = h'.ob j) /\ h'.nx <= h.nx) ⟨rfl, ob_y, le_y, fr_y, fx_y⟩
 ·exfalso
  rw [show IntKind.i64.wrap ((data.length : Int) - 0) = (data.length : Int) - 0 from b3t (by omega) (by omega)] at hc
  simp at hc
  omega
theorem B3l (hf : Has O "slices.SortFunc[[]int,int]" x_slices_SortFunc___int_int_) (hp : Has O "slices.pdqsortCmpFunc[int]" x_slices_pdqsortCmpFunc_int_) (kI : x80 O) (kL : z5v O) (hL : ∀ n : Nat, n <= 12 -> ∃ r, z6d (n : Int) = some r) : z5x O := by
 intro x v_0 cmp_n cmp_a cmp_b cmp cmp_z cmp_h h0 ow_p0 r hm0
 unfold z5q at hm0
 split at hm0
 case isFalse => cases hm0
 rename_i hlen
 rcases ow_p0 with ⟨_, he⟩ | ⟨i_0, rfl, ob_p0, lt_p0⟩
 ·have : x = [] := List.map_eq_nil_iff.1 he
  rw [this] at hlen; simp at hlen
 rw [List.length_map]
 obtain ⟨lim, hlim⟩ := hL x.length hlen.2
 refine d8g hf rfl ?_
 refine b1c (fun t h => t 0 = .rs i_0 0 (List.length x) /\ t 1 = .fn cmp_n cmp_a cmp_b /\ h = h0) ⟨rfl, rfl, rfl⟩ fun t h ⟨s0, s1, hh⟩ => ?_
 subst hh
 simp only [x_slices_SortFunc___int_int_]
 refine b0b fun K hK => ?_
 simp only [go_sem, s0]
 refine hK _ _ ?_
 clear hK K
 refine b03 fun K hK => ?_
 simp only [go_sem, s0, s1]
 have hu : IntKind.wrap .u64 (List.length x : Int) = (List.length x : Int) := c9p (by omega) (by omega)
 rw [hu]
 refine b01 (kL _ _ hlim) ?_
 simp only [go_sem, s0, s1]
 refine d9m (B3n hp kI x i_0 lim cmp_n cmp_a cmp_b cmp cmp_z cmp_h h ob_p0 lt_p0 hlen.2 r hm0) ?_
 rintro _ h2 ⟨rfl, ob_y, le_y, fr_y, fx_y⟩
 simp only [go_sem]
 refine hK _ _ ?_
 clear hK K
 exact c4o (Post := fun v h' => v = .tup [] /\ b2a h' (.rs i_0 0 (List.length x)) 1 (List.map eI r) /\ (∀ j, j < h.nx -> b07 (.rs i_0 0 (List.length x)) j -> h'.ob j = h.ob j) /\ h.nx <= h'.nx) ⟨rfl, b2v ob_y (by rw [List.length_map, le_y]) (by omega), fun j hj hn => fr_y j hj (fun e => hn e.symm), fx_y⟩
theorem B3o : ((List.range 13).all fun n => (z6d ((n : Nat) : Int)).isSome) = true := by decide +kernel
theorem z8x (hf : Has O "slices.SortFunc[[]int,int]" x_slices_SortFunc___int_int_) (hp : Has O "slices.pdqsortCmpFunc[int]" x_slices_pdqsortCmpFunc_int_) (z8y : x80 O) (z8n : z5v O) : z5x O := by
 exact B3l hf hp z8y z8n fun n hn => Option.isSome_iff_exists.1 (List.all_eq_true.1 B3o n (List.mem_range.2 (by omega)))
theorem z8k (hf : Has O "newel/faults.fewest" x_faults_fewest) (z8i : z7e O) (x23 : z7k O) (z8l : z7h O) (z8x : z5x O) : z7g O := by
 intro p seen r hm0
 unfold B8n at hm0
 obtain ⟨q10, h_q10, hm0⟩ := b0g hm0
 obtain ⟨lf, hlf, hm0⟩ := b0g hm0
 refine b1i hf rfl (b0a (.agg _ (b0a (b0e _) (b0a (b0c fun a _ => b8i a) b0j))) (b0a (b0c fun a _ => b8h a) b0j)) (b0c fun a _ => b1t a) ?_
 refine b1c (fun t h => t 0 = .agg [I p.Parts, .fs 1 (List.map b2f p.Alarms)] /\ t 1 = .fs 1 (List.map eB seen)) ⟨rfl, rfl⟩ fun t h ⟨s0, s1⟩ => ?_
 simp only [x_faults_fewest]
 refine b0b fun K hK => ?_
 simp only [go_sem, s0]
 refine hK _ _ ?_
 clear hK K
 refine b0b fun K hK => ?_
 simp only [go_sem]
 refine hK _ _ ?_
 clear hK K
 refine b0v ?_
 refine b0b fun K hK => ?_
 simp only [go_sem, B8s h_q10]
 refine hK _ _ ?_
 clear hK K
 refine b0i fun K1 hK1 => ?_
 simp only [b0u]
 refine b1j hlf (fun | (l, i), t, h => ∃ v, t 1 = .fs 1 (List.map eB seen) /\ t 2 = .fp [I p.Parts, .fs 1 (List.map b2f p.Alarms)] 0 /\ t 5 = v /\ t 10 = I q10 /\ t 11 = I i /\ b2a h v 1 (List.map eI l)) ?_ ?_
 ·exact ⟨.v (.slice none 0 0), (by simp only [go_sem, s1]), (by simp only [go_sem]), (by simp only [go_sem]), (by simp only [go_sem]), (by simp only [go_sem]), c0o⟩
 clear s0 s1
 rintro ⟨l, i⟩ o t h ⟨v, s1, s2, s5, s10, s11, ow⟩ hm1 hb
 simp only [B8o] at hm1
 rw [v5v]
 refine b0b fun K hK => ?_
 simp only [go_sem, s10, s11]
 refine hK _ _ ?_
 clear hK K
 refine b0i fun K4 hK4 => ?_
 simp only [go_sem]
 refine b0k (fun hc => ?_) (fun hc => ?_)
 ·rw [b0r hc] at hm1
  simp only [b0s, b02, b0f]
  refine hK4 _ _ ?_
  obtain ⟨s, h_s, hm1⟩ := b0g hm1
  refine b0i fun K6 hK6 => ?_
  have J7 : ∀ (l2 : List Int) (v : AV) (t : Slots) (h : Heap), t 1 = .fs 1 (List.map eB seen) -> t 2 = .fp [I p.Parts, .fs 1 (List.map b2f p.Alarms)] 0 -> t 5 = v -> t 10 = I q10 -> t 11 = I i -> b2a h v 1 (List.map eI l2) -> o = .nx (l2, wr (i + 1)) -> K6 t h := by
   intro l2 v t h s1 s2 s5 s10 s11 ow ho
   refine hK6 _ _ ?_
   subst ho
   refine b03 fun K hK => ?_
   simp only [go_sem, s11]
   refine hK _ _ ?_
   clear hK K
   simp only [b02, b0f]
   exact ⟨_, rfl, v, s1, s2, s5, s10, (by simp only [go_sem, s11]), ow⟩
  clear hK6
  simp only [b0u]
  refine b0b fun K hK => ?_
  simp only [go_sem, s11]
  refine hK _ _ ?_
  clear hK K
  refine b0b fun K hK => ?_
  simp only [go_sem, s1, s2]
  refine b01 (z8i p seen i _ h_s) ?_
  simp only [go_sem]
  refine hK _ _ ?_
  clear hK K
  simp only [b0u]
  cases l with
  | nil =>
   have hm1' := Option.some.inj hm1
   refine b2p (fun t h => t 1 = .fs 1 (List.map eB seen) /\ t 2 = .fp [I p.Parts, .fs 1 (List.map b2f p.Alarms)] 0 /\ t 7 = I s /\ t 10 = I q10 /\ t 11 = I i /\ t 18 = B (decide ((([] : List Int).length : Int) = 0))) (fun K hK => ?_) ?_
   ·simp only [go_sem, s5, b5r v, l3r ow]
    refine b0k (fun hg17 => ?_) (fun hg17 => by simp at hg17)
    simp only [go_sem, s5, hg17]
    exact hK _ _ ⟨(by simp only [go_sem, s1]), (by simp only [go_sem, s2]), (by simp only [go_sem]), (by simp only [go_sem, s10]), (by simp only [go_sem, s11]), (by simp only [go_sem, hg17])⟩
   clear s1 s2 s5 s10 s11 ow
   rintro t h ⟨s1, s2, s7, s10, s11, s18⟩
   simp only [go_sem, s18]
   refine b0k (fun hc2 => ?_) (fun hc2 => by simp at hc2)
   refine b03 fun K hK => ?_
   simp only [go_sem, s7]
   refine hK _ _ ?_
   clear hK K
   simp only [b02, b0f]
   exact J7 [s] _ _ _ (by simp only [go_sem, s1]) (by simp only [go_sem, s2]) rfl (by simp only [go_sem, s10]) (by simp only [go_sem, s11]) (by simp only [go_sem]; exact b2v (by first | (simp only [go_sem]; done) | (simp only [go_sem]; rfl)) rfl (by first | (simp only [go_sem, nxs]; done) | (simp only [go_sem, nxs]; omega) | omega)) hm1'.symm
  | cons x xs =>
   obtain ⟨c1, h_c1, hm1⟩ := b0g hm1
   obtain ⟨c2, h_c2, hm1⟩ := b0g hm1
   have hg : get (x :: xs) 0 = some x := b1h (k := 0) rfl
   have hne : ¬ decide (((x :: xs).length : Int) = 0) = true := by simp; omega
   generalize x :: xs = L at *
   have hg0 := b05 hg
   have hg1 := b06 hg
   obtain ⟨iq, rfl, ob_l, lt_l⟩ := l3q ow hg
   refine b2p (fun t h' => t 1 = .fs 1 (List.map eB seen) /\ t 2 = .fp [I p.Parts, .fs 1 (List.map b2f p.Alarms)] 0 /\ t 5 = .rs iq 0 (List.length L) /\ t 7 = I s /\ t 10 = I q10 /\ t 11 = I i /\ t 18 = B (decide (c1 < c2)) /\ h' = h) (fun K hK => ?_) ?_
   ·simp only [go_sem, s5, ob_l]
    refine b0k (fun hg17 => ?_) (fun hg17 => ?_)
    ·exact absurd hg17 hne
    simp only [go_sem, s5, ob_l, hg17]
    refine b01 (x23 _ _ h_c1) ?_
    simp only [go_sem, s5, ob_l, hg17, b08 hg, b3n hg, hg0, hg1]
    refine b01 (x23 _ _ h_c2) ?_
    simp only [go_sem, s5, ob_l, hg17, b08 hg, b3n hg, hg0, hg1]
    exact hK _ _ ⟨(by simp only [go_sem, s1]), (by simp only [go_sem, s2]), (by simp only [go_sem, s5]), (by simp only [go_sem]), (by simp only [go_sem, s10]), (by simp only [go_sem, s11]), (by simp only [go_sem, hg17]), rfl⟩
   clear s1 s2 s5 s10 s11
   rintro t h' ⟨s1, s2, s5, s7, s10, s11, s18, hh⟩
   subst hh
   simp only [go_sem, s18]
   refine b0k (fun hc2 => ?_) (fun hc2 => ?_)
   ·rw [b0r hc2] at hm1
    refine b03 fun K hK => ?_
    simp only [go_sem, s7]
    refine hK _ _ ?_
    clear hK K
    simp only [b02, b0f]
    exact J7 [s] _ _ _ (by simp only [go_sem, s1]) (by simp only [go_sem, s2]) rfl (by simp only [go_sem, s10]) (by simp only [go_sem, s11]) (by simp only [go_sem]; exact b2v (by first | (simp only [go_sem]; done) | (simp only [go_sem]; rfl)) rfl (by first | (simp only [go_sem, nxs]; done) | (simp only [go_sem, nxs]; omega) | omega)) (Option.some.inj hm1).symm
   rw [b0q hc2] at hm1
   refine b0b fun K hK => ?_
   simp only [go_sem, s7]
   refine b01 (x23 _ _ h_c1) ?_
   simp only [go_sem, s5, ob_l, b08 hg, b3n hg, hg0, hg1]
   refine b01 (x23 _ _ h_c2) ?_
   simp only [go_sem]
   refine hK _ _ ?_
   clear hK K
   simp only [go_sem]
   refine b0k (fun hc3 => ?_) (fun hc3 => ?_)
   ·rw [b0r hc3] at hm1
    obtain ⟨l2, h_l2, hm1⟩ := b0g hm1
    refine b03 fun K hK => ?_
    simp only [go_sem, s5, s7]
    refine b3a (f := eI) (l := L) (m := [s]) (b2v (by simp only [go_sem, ob_l, lt_l]) (by simp) (by first | (simp only [go_sem, nxs]; done) | (simp only [go_sem, nxs]; omega) | omega)) (b4t (by first | (simp only [go_sem]; done) | (simp only [go_sem]; rfl)) rfl) (b4r (by show ¬ iq = h'.nx; omega)) (fun _ => by simp) h_l2 ?_
    simp only [go_sem]
    refine hK _ _ ?_
    clear hK K
    simp only [b02, b0f]
    exact J7 l2 _ _ _ (by simp only [go_sem, s1]) (by simp only [go_sem, s2]) rfl (by simp only [go_sem, s10]) (by simp only [go_sem, s11]) (by simp only [go_sem]; exact b2v (by simp only [go_sem]) (by simp) (by first | (simp only [go_sem, nxs]; done) | (simp only [go_sem, nxs]; omega) | omega)) (Option.some.inj hm1).symm
   ·rw [b0q hc3] at hm1
    simp only [b0s, b02, b0f]
    exact J7 L _ _ _ (by simp only [go_sem, s1]) (by simp only [go_sem, s2]) rfl (by simp only [go_sem, s10]) (by simp only [go_sem, s11]) (by simp only [go_sem, s5]; exact b2v ob_l (by simp) lt_l) (Option.some.inj hm1).symm
 ·rw [b0q hc] at hm1
  simp only [b09, b1b, b1a, b0f]
  obtain rfl := Option.some.inj hm1
  obtain rfl := hb _ rfl
  refine hK1 _ _ ?_
  refine b0b fun K hK => ?_
  simp only [go_sem, s5, b5r v]
  refine d9m (z8x l v "newel/faults.fewest$1" [] [] (fun z0 z1 => c71 z0 z1) (.fn _ _ _ b0j b0j) (fun z0 z1 y hz => z8l z0 z1 y hz) h ow r hm0) ?_
  rintro _ h2 ⟨rfl, ow_y, fr_y, fx_y⟩
  simp only [go_sem]
  refine hK _ _ ?_
  clear hK K
  refine b0b fun K hK => ?_
  simp only [go_sem, s5, b5r v]
  refine hK _ _ ?_
  clear hK K
  simp only [b0x, b1p, b2e, b0y]
  exact b8e (v := v) (by simp only [go_sem]) (r8x ow_y b1t b8p)
end Go.Nw.VM
namespace Go.Nw.VM
noncomputable section
open Go.Sort (swp PermIn SortedIn SWO)
def z9d (S : Int -> Prop) (cmp : Int -> Int -> Option Int) (lt : Int -> Int -> Bool) : Prop := ∀ x y, S x -> S y -> ∃ z, cmp x y = some z /\ lt x y = decide (z < 0)
def c33 (S : Int -> Prop) (d : Array Int) : Prop := ∀ i, i < d.size -> S d[i]!
theorem z51 {d : Array Int} {i : Nat} (h : i < d.size) : get d.toList (i : Int) = some d[i]! := by
 refine b1h ?_
 rw [Array.getElem?_toList, Array.getElem?_eq_getElem h, getElem!_pos d i h]
theorem B4f {d : Array Int} {i j : Nat} (hi : i < d.size) (hj : j < d.size) : (d.toList.set i d[j]!).set j d[i]! = (swp d i j).toList := by
 unfold swp
 rw [Array.toList_setIfInBounds, Array.toList_setIfInBounds]
theorem z6w {d : Array Int} {i j : Nat} : (swp d i j).size = d.size := by simp [swp]
theorem B4e {S : Int -> Prop} {d : Array Int} {i j : Nat} (h : c33 S d) (hi : i < d.size) (hj : j < d.size) : c33 S (swp d i j) := by
 intro k hk
 rw [z6w] at hk
 rw [Go.Sort.swp_get d hi hj]
 split
 ·exact h i hi
 ·split
  ·exact h j hj
  ·exact h k hk
section
variable {S : Int -> Prop} {cmp : Int -> Int -> Option Int} {lt : Int -> Int -> Bool} (hc : z9d S cmp lt)
include hc
theorem z9s (a : Nat) : ∀ (j : Nat) (d : Array Int), c33 S d -> j < d.size -> d.size <= 1000000 -> b0w (B8g (a : Int) cmp) (d.toList, (j : Int)) = some (Go.Sort.insInner lt a j d).toList /\ c33 S (Go.Sort.insInner lt a j d) /\ (Go.Sort.insInner lt a j d).size = d.size
 | 0, d, hS, hj, hn => by
  have h : ¬ (a : Int) < ((0 : Nat) : Int) := by omega
  refine ⟨b3d ?_, hS, rfl⟩
  unfold B8g
  simp only [h, decide_false, fT9, if_false, bS9]
  rfl
 | j + 1, d, hS, hj, hn => by
  have hw : wr (((j + 1 : Nat) : Int) - 1) = (j : Int) := by rw [b3t (by omega) (by omega)]; omega
  by_cases ha : a < j + 1
  case neg =>
   have h : ¬ (a : Int) < ((j + 1 : Nat) : Int) := by omega
   have e : Go.Sort.insInner lt a (j + 1) d = d := by
    unfold Go.Sort.insInner
    rw [if_neg (by simp; omega)]
   rw [e]
   refine ⟨b3d ?_, hS, rfl⟩
   unfold B8g
   simp only [h, decide_false, fT9, if_false, bS9]
  have h : (a : Int) < ((j + 1 : Nat) : Int) := by omega
  obtain ⟨z, hz, hlt⟩ := hc d[j + 1]! d[j]! (hS _ hj) (hS _ (by omega))
  by_cases hq : z < 0
  case neg =>
   have e : Go.Sort.insInner lt a (j + 1) d = d := by
    unfold Go.Sort.insInner
    rw [if_neg (by rw [hlt]; simp [hq])]
   rw [e]
   refine ⟨b3d ?_, hS, rfl⟩
   unfold B8g
   simp only [h, decide_true, if_true, hw, z51 hj, z51 (show j < d.size by omega), bS9, hz, hq, decide_false, fT9, if_false]
  have e : Go.Sort.insInner lt a (j + 1) d = Go.Sort.insInner lt a j (swp d (j + 1) j) := by
   conv => lhs; unfold Go.Sort.insInner
   rw [if_pos (by rw [hlt]; simp [hq]; omega)]
  have hS2 := B4e hS hj (show j < d.size by omega)
  obtain ⟨r1, r2, r3⟩ := z9s a j (swp d (j + 1) j) hS2 (by rw [z6w]; omega) (by rw [z6w]; exact hn)
  rw [e]
  refine ⟨?_, r2, by rw [r3, z6w]⟩
  refine (w91 ?_).trans r1
  have hgs : ∃ y, get (d.toList.set (j + 1) d[j]!) (j : Int) = some y := by
   obtain ⟨y, hy⟩ := b3b (l := d.toList.set (j + 1) d[j]!) (k := j) (by simp; omega)
   exact ⟨y, b1h hy⟩
  obtain ⟨y, hy⟩ := hgs
  unfold B8g
  simp only [h, decide_true, if_true, hw, z51 hj, z51 (show j < d.size by omega), bS9, hz, hq, Int.toNat_natCast, hy]
  rw [B4f hj (by omega)]
theorem z9t (a b : Nat) : ∀ (k i : Nat) (d : Array Int), b - i = k -> c33 S d -> b <= d.size -> d.size <= 1000000 -> b0w (z5r (a : Int) (b : Int) cmp) (d.toList, (i : Int)) = some (Go.Sort.insOuter lt a b i d).toList /\ c33 S (Go.Sort.insOuter lt a b i d) /\ (Go.Sort.insOuter lt a b i d).size = d.size
 | 0, i, d, hk, hS, hb, hn => by
  have h : ¬ (i : Int) < (b : Int) := by omega
  have e : Go.Sort.insOuter lt a b i d = d := by unfold Go.Sort.insOuter; rw [if_neg (by omega)]
  rw [e]
  refine ⟨b3d ?_, hS, rfl⟩
  unfold z5r
  simp only [h, decide_false, fT9, if_false]
 | k + 1, i, d, hk, hS, hb, hn => by
  have h : (i : Int) < (b : Int) := by omega
  obtain ⟨q1, q2, q3⟩ := z9s hc a i d hS (by omega) hn
  obtain ⟨r1, r2, r3⟩ := z9t a b k (i + 1) (Go.Sort.insInner lt a i d) (by omega) q2 (by rw [q3]; exact hb) (by rw [q3]; exact hn)
  have e : Go.Sort.insOuter lt a b i d = Go.Sort.insOuter lt a b (i + 1) (Go.Sort.insInner lt a i d) := by
   conv => lhs; unfold Go.Sort.insOuter
   rw [if_pos (by omega)]
  rw [e]
  refine ⟨?_, r2, by rw [r3, q3]⟩
  refine (w91 ?_).trans r1
  unfold z5r z6v
  simp only [h, decide_true, if_true, q1, bS9]
  rw [b3t (by omega) (by omega)]
  congr 4
theorem B3g (a b : Nat) (d : Array Int) (hS : c33 S d) (hb : b <= d.size) (ha : a <= b) (hn : d.size <= 1000000) : x73 d.toList (a : Int) (b : Int) cmp = some (Go.Sort.insertionSort lt d a b).toList /\ c33 S (Go.Sort.insertionSort lt d a b) /\ (Go.Sort.insertionSort lt d a b).size = d.size := by
 obtain ⟨r1, r2, r3⟩ := z9t hc a b _ (a + 1) d rfl hS hb hn
 refine ⟨?_, r2, r3⟩
 unfold x73 z6u
 rw [b3t (by omega) (by omega)]
 have : ((a : Int) + 1) = ((a + 1 : Nat) : Int) := by omega
 rw [this, r1]; rfl
end
end
end Go.Nw.VM
