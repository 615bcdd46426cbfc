/- Plain laws on the models. -/
import Derived.Test.YtbmfnjehcnbpbaaDoorNwPlain
import Derived.Test.YtbmfnjehcnbpbaaDoorWN
import Derived.Test.YtbmfnjehcnbpbaaDoorP2
import Derived.Test.YtbmfnjehcnbpbaaDoorP1
import Derived.Sort.AssemblyPlain
set_option linter.all false
namespace Go.Nw
theorem j7u {σ τ β : Type} {f : τ -> Option (Out τ β)} (n : Nat) (mk : σ -> Int -> τ) (Inv : Nat -> σ -> Prop) (P : β -> Prop)
  (step : ∀ s (k : Nat), k < n -> Inv k s -> (∃ s', f (mk s k) = some (.nx (mk s' ((k : Int) + 1))) /\ Inv (k + 1) s') \/ ∃ b, f (mk s k) = some (.br b) /\ P b)
  (fin : ∀ s, Inv n s -> ∃ b, f (mk s n) = some (.br b) /\ P b) {s : σ} (k0 : Nat) (hk0 : k0 <= n) (h0 : Inv k0 s) : ∃ b, b0w f (mk s k0) = some b /\ P b := by
 have key : ∀ (d k : Nat) (s : σ), n - k = d -> k <= n -> Inv k s -> ∃ b, b0w f (mk s k) = some b /\ P b := by
  intro d
  induction d with
  | zero =>
   intro k s hd hk hi
   have : k = n := by omega
   subst this
   obtain ⟨b, h1, h2⟩ := fin s hi
   exact ⟨b, b3d h1, h2⟩
  | succ d ih =>
   intro k s hd hk hi
   rcases step s k (by omega) hi with ⟨s', h1, h2⟩ | ⟨b, h1, h2⟩
   ·rw [w91 h1]
    exact ih (k + 1) s' (by omega) (by omega) h2
   ·exact ⟨b, b3d h1, h2⟩
 exact key _ k0 s rfl hk0 h0
theorem C2g {α : Type} {f : (List α × Int) -> Option (Out (List α × Int) (List α))} (n B : Nat) (p : Nat -> Bool) (e : Nat -> α)
  (step : ∀ (l : List α) (k : Nat), k < n -> l.length <= B + k -> f (l, (k : Int)) = some (.nx (if p k then l ++ [e k] else l, (k : Int) + 1)))
  (fin : ∀ l, f (l, (n : Int)) = some (.br l)) (l0 : List α) (k0 : Nat) (hk : k0 <= n) (hl : l0.length <= B + k0) :
  b0w f (l0, (k0 : Int)) = some (l0 ++ ((List.range' k0 (n - k0)).filter p).map e) := by
 have key : ∀ (d k : Nat) (l : List α), n - k = d -> k <= n -> l.length <= B + k -> b0w f (l, (k : Int)) = some (l ++ ((List.range' k d).filter p).map e) := by
  intro d
  induction d with
  | zero =>
   intro k s hd hk hi
   have : k = n := by omega
   subst this
   rw [b3d (fin s)]; simp
  | succ d ih =>
   intro k s hd hk hi
   rw [w91 (step s k (by omega) hi)]
   have := ih (k + 1) (if p k then s ++ [e k] else s) (by omega) (by omega) (by split <;> (try simp only [List.length_append, List.length_cons, List.length_nil]) <;> omega)
   rw [show ((k + 1 : Nat) : Int) = (k : Int) + 1 by omega] at this
   rw [this, List.range'_succ]
   cases hp : p k <;> simp [hp]
 exact key _ k0 l0 rfl hk hl
theorem C2h {α : Type} {f : (List α × Int) -> Option (Out (List α × Int) (List α))} (n : Nat) (p : Nat -> Bool) (e : Nat -> α)
  (step : ∀ (l : List α) (k : Nat), k < n -> l.length <= k -> f (l, (k : Int)) = some (.nx (if p k then l ++ [e k] else l, (k : Int) + 1)))
  (fin : ∀ l, f (l, (n : Int)) = some (.br l)) : b0w f ([], 0) = some (((List.range n).filter p).map e) := by
 have := C2g n 0 p e (fun l k h1 h2 => step l k h1 (by omega)) fin [] 0 (Nat.zero_le _) (Nat.zero_le _)
 rw [List.range_eq_range']
 simpa using this
theorem s9p (a : Nat) (ha : a < 18446744073709551616) : (BitVec.ofInt 64 (a : Int)).toNat = a := by
 rw [BitVec.ofInt_natCast, BitVec.toNat_ofNat]; exact Nat.mod_eq_of_lt (by simpa using ha)
theorem u4f {a : Nat} (ha : a < 9223372036854775808) : IntKind.wrap .i64 (a : Int) = a := g3z (by omega) (by omega)
theorem u6m {a b : Nat} (ha : a < 9223372036854775808) (hb : b < 9223372036854775808) : b6y (a : Int) (b : Int) = ((a &&& b : Nat) : Int) := by
 show IntKind.wrap .i64 ((BitVec.ofInt 64 (a : Int) &&& BitVec.ofInt 64 (b : Int)).toNat : Int) = _
 rw [BitVec.toNat_and, s9p a (by omega), s9p b (by omega)]
 exact u4f (Nat.lt_of_le_of_lt Nat.and_le_left ha)
theorem u22 {a b : Nat} (ha : a < 9223372036854775808) (hb : b < 9223372036854775808) : bor (a : Int) (b : Int) = ((a ||| b : Nat) : Int) := by
 show IntKind.wrap .i64 ((BitVec.ofInt 64 (a : Int) ||| BitVec.ofInt 64 (b : Int)).toNat : Int) = _
 rw [BitVec.toNat_or, s9p a (by omega), s9p b (by omega)]
 exact u4f (show _ < 2 ^ 63 from Nat.or_lt_two_pow ha hb)
theorem u9n {a y : Nat} (hy : y <= 64) : d45 .i64 (a : Int) (y : Int) = ((a >>> y : Nat) : Int) := by
 have : Nat.min (y : Int).toNat IntKind.i64.bits = y := Nat.min_eq_left (by rw [show IntKind.i64.bits = 64 from rfl]; omega)
 unfold d45
 rw [this, Nat.shiftRight_eq_div_pow]
 have h2 : (2 : Int) ^ y = ((2 ^ y : Nat) : Int) := by simp
 rw [h2, Int.fdiv_eq_ediv_of_nonneg _ (Int.natCast_nonneg _)]; rfl
theorem u6r {a y : Nat} (ha : a < 9223372036854775808) (hy : y <= 64) : b6y (d45 .i64 (a : Int) (y : Int)) 1 = if a.testBit y then 1 else 0 := by
 rw [u9n hy]
 have h1 : a >>> y < 9223372036854775808 := by rw [Nat.shiftRight_eq_div_pow]; exact Nat.lt_of_le_of_lt (Nat.div_le_self _ _) ha
 have := u6m h1 (show (1 : Nat) < 9223372036854775808 by omega)
 rw [show ((1 : Nat) : Int) = 1 from rfl] at this
 rw [this, Nat.testBit, Nat.and_comm]
 have h2 : 1 &&& (a >>> y) = (a >>> y) % 2 := by rw [Nat.and_comm, Nat.and_one_is_mod]
 rw [h2]
 have h3 : (a >>> y) % 2 = 0 \/ (a >>> y) % 2 = 1 := by omega
 rcases h3 with h3 | h3 <;> rw [h3] <;> rfl
theorem u1e {y : Nat} (hy : y <= 62) : shl .i64 1 (y : Int) = some ((2 ^ y : Nat) : Int) := by
 rw [l5j (by omega) (by omega)]; simp
theorem u4e {y : Nat} (hy : y < 18446744073709551616) : IntKind.wrap .u64 (y : Int) = y := c9p (by omega) (by omega)
theorem u3z {y : Nat} (hy : y <= 62) : 2 ^ y < 9223372036854775808 := by
 have := Nat.pow_le_pow_right (n := 2) (by omega) hy
 omega
def Sub (a b : Nat) : Prop := ∀ i, a.testBit i = true -> b.testBit i = true
theorem sub_zero (a : Nat) : Sub 0 a := fun i h => by simp at h
end Go.Nw
namespace Go.Nw
theorem b1h {α : Type} {l : List α} {k : Nat} {x : α} (h : l[k]? = some x) : get l (k : Int) = some x := by
 unfold get; rw [if_pos (by omega)]; simpa using h
theorem b1k {α : Type} {l : List α} {k : Nat} {x : α} (h : l[k]? = some x) : k < l.length := (gS9.1 h).1
theorem b3b {α : Type} {l : List α} {k : Nat} (h : k < l.length) : ∃ x, l[k]? = some x := ⟨_, gG9 h⟩
theorem c3v {α β : Type} {f : Int -> Option (Out Int β)} (l : List α) (bad : Nat -> α -> Prop) (e u : β)
  (bstep : ∀ k x, l[k]? = some x -> bad k x -> f (k : Int) = some (.br e)) (nstep : ∀ k x, l[k]? = some x -> ¬ bad k x -> f (k : Int) = some (.nx ((k : Int) + 1)))
  (fin : f (l.length : Int) = some (.br u)) : ((∀ k x, l[k]? = some x -> ¬ bad k x) /\ b0w f 0 = some u) \/ ((∃ k x, l[k]? = some x /\ bad k x) /\ b0w f 0 = some e) := by
 have key : ∀ (d k : Nat), l.length - k = d -> k <= l.length -> (∀ j x, j < k -> l[j]? = some x -> ¬ bad j x) ->
   ((∀ k x, l[k]? = some x -> ¬ bad k x) /\ b0w f (k : Int) = some u) \/ ((∃ k x, l[k]? = some x /\ bad k x) /\ b0w f (k : Int) = some e) := by
  intro d
  induction d with
  | zero =>
   intro k hd hk hb
   have : k = l.length := by omega
   subst this
   exact .inl ⟨fun j x hx => hb j x (b1k hx) hx, b3d fin⟩
  | succ d ih =>
   intro k hd hk hb
   obtain ⟨x, hx⟩ := b3b (show k < l.length by omega)
   by_cases h : bad k x
   ·exact .inr ⟨⟨k, x, hx, h⟩, b3d (bstep k x hx h)⟩
   ·rw [w91 (nstep k x hx h)]
    refine ih (k + 1) (by omega) (by omega) fun j y hj hy => ?_
    by_cases e : j = k
    ·subst e; rw [hx] at hy; cases hy; exact h
    ·exact hb j y (by omega) hy
 exact key l.length 0 (by omega) (by omega) fun j x hj => by omega
theorem j7y {σ τ β : Type} {f : τ -> Option (Out τ β)} (n : Nat) (mk : σ -> Int -> τ) (S : Nat -> σ) (b : β)
  (step : ∀ k : Nat, k < n -> f (mk (S k) k) = some (.nx (mk (S (k + 1)) ((k : Int) + 1)))) (fin : f (mk (S n) n) = some (.br b)) (k0 : Nat) (hk0 : k0 <= n) : b0w f (mk (S k0) k0) = some b := by
 obtain ⟨b', h1, h2⟩ := j7u (f := f) n mk (fun k s => s = S k) (fun x => x = b) (fun s k hk hs => by
  subst hs; exact .inl ⟨_, step k hk, rfl⟩) (fun s hs => by subst hs; exact ⟨b, fin, rfl⟩) k0 hk0 rfl
 rw [h1, h2]
theorem j7z {σ τ β : Type} {f : τ -> Option (Out τ β)} (n : Nat) (mk : σ -> Int -> τ) (S : Nat -> σ) (b : β)
  (step : ∀ k : Nat, k < n -> f (mk (S k) k) = some (.nx (mk (S (k + 1)) ((k : Int) + 1)))) (fin : f (mk (S n) n) = some (.br b)) : b0w f (mk (S 0) 0) = some b :=
 j7y n mk S b step fin 0 (Nat.zero_le _)
theorem b4h {σ τ β : Type} {f : τ -> Option (Out τ β)} (n : Nat) (mk : σ -> Int -> τ) (S : Nat -> σ) (b : β) {s0 : σ} (h0 : s0 = S 0)
  (step : ∀ k : Nat, k < n -> f (mk (S k) k) = some (.nx (mk (S (k + 1)) ((k : Int) + 1)))) (fin : f (mk (S n) n) = some (.br b)) : b0w f (mk s0 0) = some b := by
 subst h0; exact j7z n mk S b step fin
theorem g1j {α σ τ β : Type} {f : τ -> Option (Out τ β)} (l : List α) (mk : σ -> Int -> τ) (S : Nat -> σ) (bad : Nat -> α -> Prop) (e u : β)
  (bstep : ∀ k x, (∀ j y, j < k -> l[j]? = some y -> ¬ bad j y) -> l[k]? = some x -> bad k x -> f (mk (S k) k) = some (.br e))
  (nstep : ∀ k x, (∀ j y, j < k -> l[j]? = some y -> ¬ bad j y) -> l[k]? = some x -> ¬ bad k x -> f (mk (S k) k) = some (.nx (mk (S (k + 1)) ((k : Int) + 1))))
  (fin : f (mk (S l.length) l.length) = some (.br u)) {s0 : σ} (h0 : s0 = S 0) : ((∀ k x, l[k]? = some x -> ¬ bad k x) /\ b0w f (mk s0 0) = some u) \/ ((∃ k x, l[k]? = some x /\ bad k x) /\ b0w f (mk s0 0) = some e) := by
 subst h0
 have key : ∀ (d k : Nat), l.length - k = d -> k <= l.length -> (∀ j x, j < k -> l[j]? = some x -> ¬ bad j x) ->
   ((∀ k x, l[k]? = some x -> ¬ bad k x) /\ b0w f (mk (S k) k) = some u) \/ ((∃ k x, l[k]? = some x /\ bad k x) /\ b0w f (mk (S k) k) = some e) := by
  intro d
  induction d with
  | zero =>
   intro k hd hk hb
   have : k = l.length := by omega
   subst this
   exact .inl ⟨fun j x hx => hb j x (b1k hx) hx, b3d fin⟩
  | succ d ih =>
   intro k hd hk hb
   obtain ⟨x, hx⟩ := b3b (show k < l.length by omega)
   by_cases h : bad k x
   ·exact .inr ⟨⟨k, x, hx, h⟩, b3d (bstep k x hb hx h)⟩
   ·rw [w91 (nstep k x hb hx h)]
    refine ih (k + 1) (by omega) (by omega) fun j y hj hy => ?_
    by_cases e : j = k
    ·subst e; rw [hx] at hy; cases hy; exact h
    ·exact hb j y (by omega) hy
 exact key l.length 0 (by omega) (by omega) fun j x hj => by omega
theorem D5v {α β : Type} {f : Int -> Option (Out Int β)} (l : List α) (bad : Nat -> α -> Prop) (e u : β)
  (bstep : ∀ k x, (∀ j y, j < k -> l[j]? = some y -> ¬ bad j y) -> l[k]? = some x -> bad k x -> f (k : Int) = some (.br e)) (nstep : ∀ k x, (∀ j y, j < k -> l[j]? = some y -> ¬ bad j y) -> l[k]? = some x -> ¬ bad k x -> f (k : Int) = some (.nx ((k : Int) + 1)))
  (fin : f (l.length : Int) = some (.br u)) : ((∀ k x, l[k]? = some x -> ¬ bad k x) /\ b0w f 0 = some u) \/ ((∃ k x, l[k]? = some x /\ bad k x) /\ b0w f 0 = some e) := by
 have := g1j (f := f) (σ := Unit) l (fun _ k => k) (fun _ => ()) bad e u (fun k x h1 h2 h3 => bstep k x h1 h2 h3) (fun k x h1 h2 h3 => nstep k x h1 h2 h3) fin (s0 := ()) rfl
 exact this
theorem b2r {k n : Nat} (h : k < n) (hn : n <= maxLen) : wr ((k : Int) + 1) = (k : Int) + 1 := b3t (by omega) (by simp only [maxLen] at hn; omega)
def b6i {α : Type} (s : List α) (f : α -> Option Bool) : Int -> Option (Out Int (Unit ⊕ Int)) := fun x =>
 if decide (x < (List.length s : Int)) then (get s x).bind fun a => (f a).bind fun y => if y then some (.br (.inr x)) else some (.nx (wr (x + 1)))
 else some (.br (.inl ()))
theorem j4x {α : Type} {s : List α} {f : α -> Option Bool} {p : α -> Prop} (hl : s.length <= maxLen) (hf : ∀ x ∈ s, ∃ b, f x = some b /\ (b = true ↔ p x)) :
  (∃ (k : Nat) (x : α), s[k]? = some x /\ p x /\ (∀ j y, j < k -> s[j]? = some y -> ¬ p y) /\ b0w (b6i s f) 0 = some (.inr (k : Int))) \/ ((∀ x ∈ s, ¬ p x) /\ b0w (b6i s f) 0 = some (.inl ())) := by
 have key : ∀ (d k : Nat), s.length - k = d -> k <= s.length -> (∀ j y, j < k -> s[j]? = some y -> ¬ p y) ->
   (∃ (k' : Nat) (x : α), s[k']? = some x /\ p x /\ (∀ j y, j < k' -> s[j]? = some y -> ¬ p y) /\ b0w (b6i s f) (k : Int) = some (.inr (k' : Int))) \/ ((∀ x ∈ s, ¬ p x) /\ b0w (b6i s f) (k : Int) = some (.inl ())) := by
  intro d
  induction d with
  | zero =>
   intro k hd hk hb
   have : k = s.length := by omega
   subst this
   refine .inr ⟨fun x hx => ?_, b3d (by simp [b6i])⟩
   obtain ⟨j, hj, rfl⟩ := List.getElem_of_mem hx
   exact hb j _ hj (gG9 hj)
  | succ d ih =>
   intro k hd hk hb
   obtain ⟨x, hx⟩ := b3b (show k < s.length by omega)
   obtain ⟨b, hb1, hb2⟩ := hf x (mG9 hx)
   cases b with
   | true => exact .inl ⟨k, x, hx, hb2.1 rfl, hb, b3d (by simp [b6i, b1h hx, hb1, b1k hx])⟩
   | false =>
    rw [w91 (s' := (k : Int) + 1) (by simp [b6i, b1h hx, hb1, b1k hx, b2r (b1k hx) hl])]
    refine ih (k + 1) (by omega) (by omega) fun j y hj hy => ?_
    by_cases e : j = k
    ·subst e; rw [hx] at hy; cases hy; exact fun hp => by have := hb2.2 hp; cases this
    ·exact hb j y (by omega) hy
 exact key s.length 0 (by omega) (by omega) fun j x hj => by omega
theorem j40 {α : Type} {s : List α} {f : α -> Option Bool} {p : α -> Prop} {g : Option Int} (hg : g = (b0w (b6i s f) 0).bind fun | (.inl ()) => some (-1) | (.inr r') => some r')
  (hl : s.length <= maxLen) (hf : ∀ x ∈ s, ∃ b, f x = some b /\ (b = true ↔ p x)) :
  (∃ (k : Nat) (x : α), s[k]? = some x /\ p x /\ (∀ j y, j < k -> s[j]? = some y -> ¬ p y) /\ g = some (k : Int)) \/ ((∀ x ∈ s, ¬ p x) /\ g = some (-1)) := by
 subst hg
 rcases j4x hl hf with ⟨k, x, h1, h2, h3, h4⟩ | ⟨h1, h2⟩
 ·exact .inl ⟨k, x, h1, h2, h3, by rw [h4]; rfl⟩
 ·exact .inr ⟨h1, by rw [h2]; rfl⟩
theorem c20 {α : Type} {s : List α} {f : α -> Option Bool} {p : α -> Prop} {g : Option Bool} (hg : g = ((b0w (b6i s f) 0).bind fun | (.inl ()) => some (-1) | (.inr r') => some r').bind fun y => some (decide (0 <= y)))
  (hl : s.length <= maxLen) (hf : ∀ x ∈ s, ∃ b, f x = some b /\ (b = true ↔ p x)) : ∃ b, g = some b /\ (b = true ↔ ∃ x ∈ s, p x) := by
 subst hg
 rcases j40 rfl hl hf with ⟨k, x, h1, h2, h3, h4⟩ | ⟨h1, h2⟩
 ·rw [h4]; exact ⟨_, rfl, by simp; exact ⟨x, mG9 h1, h2⟩⟩
 ·rw [h2]; exact ⟨_, rfl, by simp; exact h1⟩
def tab {α : Type} (n : Nat) (f : Nat -> α) : List α := (List.range n).map f
def fill {α : Type} (n : Nat) (f : Nat -> α) (z : α) (k : Nat) : List α := tab n fun i => if i < k then f i else z
end Go.Nw
namespace Go.Nw.WN
open Go.Nw.Ft3
set_option maxHeartbeats 4000000
variable {O : Orac} [MapsOk O]
theorem z8x (hf : Has O "slices.SortFunc[[]int,int]" x_slices_SortFunc___int_int_) (D2m : D2a O) (z8n : z5v O) : z5x O := by
 intro x v_0 cmp_n cmp_a cmp_b cmp cmp_z cmp_h h0 ow_p0 r hm0
 unfold z5q at hm0
 split at hm0
 case isFalse => cases hm0
 rename_i hlen
 obtain ⟨lim, hlim, hm0⟩ := b0g hm0
 rcases ow_p0 with ⟨_, he⟩ | ⟨i_0, rfl, ob_p0, lt_p0⟩
 ·have : x = [] := List.map_eq_nil_iff.1 he
  rw [this] at hlen; simp at hlen
 rw [List.length_map]
 refine d8g hf rfl ?_
 refine b1c (fun t h => t 0 = .rs i_0 0 (List.length x) /\ t 1 = .fn cmp_n cmp_a cmp_b /\ h = h0) ⟨rfl, rfl, rfl⟩ fun t h ⟨s0, s1, hh⟩ => ?_
 subst hh
 simp only [x_slices_SortFunc___int_int_]
 refine b0b fun K hK => ?_
 simp only [go_sem, s0]
 refine hK _ _ ?_
 clear hK K
 refine b03 fun K hK => ?_
 simp only [go_sem, s0, s1]
 refine b01 (z8n _ _ hlim) ?_
 simp only [go_sem, s0, s1]
 refine d9m (D2m (x.length + 1) x i_0 0 (x.length : Int) lim cmp_n cmp_a cmp_b cmp cmp_z cmp_h h ob_p0 lt_p0 r hm0) ?_
 rintro _ h2 ⟨rfl, ob_y, le_y, fr_y, fx_y⟩
 simp only [go_sem]
 refine hK _ _ ?_
 clear hK K
 exact c4o (Post := fun v h' => v = .tup [] /\ b2a h' (.rs i_0 0 (List.length x)) 1 (List.map eI r) /\ (∀ j, j < h.nx -> b07 (.rs i_0 0 (List.length x)) j -> h'.ob j = h.ob j) /\ h.nx <= h'.nx) ⟨rfl, b2v ob_y (by rw [List.length_map, le_y]) (by omega), fun j hj hn => fr_y j hj (fun e => hn e.symm), fx_y⟩
theorem z8k (hf : Has O "newel/faults.fewest" x_faults_fewest) (z8i : z7e O) (C84 : z7k O) (z8l : z7h O) (z8x : z5x O) : z7g O := by
 intro p seen r hm0
 unfold B8n at hm0
 obtain ⟨q10, h_q10, hm0⟩ := b0g hm0
 obtain ⟨lf, hlf, hm0⟩ := b0g hm0
 refine b1i hf rfl (b0a (.agg _ (b0a (b0e _) (b0a (b0c fun a _ => b8i a) b0j))) (b0a (b0c fun a _ => b8h a) b0j)) (b0c fun a _ => b1t a) ?_
 refine b1c (fun t h => t 0 = .agg [I p.Parts, .fs 1 (List.map b2f p.Alarms)] /\ t 1 = .fs 1 (List.map eB seen)) ⟨rfl, rfl⟩ fun t h ⟨s0, s1⟩ => ?_
 simp only [x_faults_fewest]
 refine b0b fun K hK => ?_
 simp only [go_sem, s0]
 refine hK _ _ ?_
 clear hK K
 refine b0b fun K hK => ?_
 simp only [go_sem]
 refine hK _ _ ?_
 clear hK K
 refine b0v ?_
 refine b0b fun K hK => ?_
 simp only [go_sem, B8s h_q10]
 refine hK _ _ ?_
 clear hK K
 refine b0i fun K1 hK1 => ?_
 simp only [b0u]
 refine b1j hlf (fun | (l, i), t, h => ∃ v, t 1 = .fs 1 (List.map eB seen) /\ t 2 = .fp [I p.Parts, .fs 1 (List.map b2f p.Alarms)] 0 /\ t 5 = v /\ t 10 = I q10 /\ t 11 = I i /\ b2a h v 1 (List.map eI l)) ?_ ?_
 ·exact ⟨.v (.slice none 0 0), (by simp only [go_sem, s1]), (by simp only [go_sem]), (by simp only [go_sem]), (by simp only [go_sem]), (by simp only [go_sem]), c0o⟩
 clear s0 s1
 rintro ⟨l, i⟩ o t h ⟨v, s1, s2, s5, s10, s11, ow⟩ hm1 hb
 simp only [B8o] at hm1
 rw [v5v]
 refine b0b fun K hK => ?_
 simp only [go_sem, s10, s11]
 refine hK _ _ ?_
 clear hK K
 refine b0i fun K4 hK4 => ?_
 simp only [go_sem]
 refine b0k (fun hc => ?_) (fun hc => ?_)
 ·rw [b0r hc] at hm1
  simp only [b0s, b02, b0f]
  refine hK4 _ _ ?_
  obtain ⟨s, h_s, hm1⟩ := b0g hm1
  refine b0i fun K6 hK6 => ?_
  have J7 : ∀ (l2 : List Int) (v : AV) (t : Slots) (h : Heap), t 1 = .fs 1 (List.map eB seen) -> t 2 = .fp [I p.Parts, .fs 1 (List.map b2f p.Alarms)] 0 -> t 5 = v -> t 10 = I q10 -> t 11 = I i -> b2a h v 1 (List.map eI l2) -> o = .nx (l2, wr (i + 1)) -> K6 t h := by
   intro l2 v t h s1 s2 s5 s10 s11 ow ho
   refine hK6 _ _ ?_
   subst ho
   refine b03 fun K hK => ?_
   simp only [go_sem, s11]
   refine hK _ _ ?_
   clear hK K
   simp only [b02, b0f]
   exact ⟨_, rfl, v, s1, s2, s5, s10, (by simp only [go_sem, s11]), ow⟩
  clear hK6
  simp only [b0u]
  refine b0b fun K hK => ?_
  simp only [go_sem, s11]
  refine hK _ _ ?_
  clear hK K
  refine b0b fun K hK => ?_
  simp only [go_sem, s1, s2]
  refine b01 (z8i p seen i _ h_s) ?_
  simp only [go_sem]
  refine hK _ _ ?_
  clear hK K
  simp only [b0u]
  cases l with
  | nil =>
   have hm1' := Option.some.inj hm1
   refine b2p (fun t h => t 1 = .fs 1 (List.map eB seen) /\ t 2 = .fp [I p.Parts, .fs 1 (List.map b2f p.Alarms)] 0 /\ t 7 = I s /\ t 10 = I q10 /\ t 11 = I i /\ t 18 = B (decide ((([] : List Int).length : Int) = 0))) (fun K hK => ?_) ?_
   ·simp only [go_sem, s5, b5r v, l3r ow]
    refine b0k (fun hg17 => ?_) (fun hg17 => by simp at hg17)
    simp only [go_sem, s5, hg17]
    exact hK _ _ ⟨(by simp only [go_sem, s1]), (by simp only [go_sem, s2]), (by simp only [go_sem]), (by simp only [go_sem, s10]), (by simp only [go_sem, s11]), (by simp only [go_sem, hg17])⟩
   clear s1 s2 s5 s10 s11 ow
   rintro t h ⟨s1, s2, s7, s10, s11, s18⟩
   simp only [go_sem, s18]
   refine b0k (fun hc2 => ?_) (fun hc2 => by simp at hc2)
   refine b03 fun K hK => ?_
   simp only [go_sem, s7]
   refine hK _ _ ?_
   clear hK K
   simp only [b02, b0f]
   exact J7 [s] _ _ _ (by simp only [go_sem, s1]) (by simp only [go_sem, s2]) rfl (by simp only [go_sem, s10]) (by simp only [go_sem, s11]) (by simp only [go_sem]; exact b2v (by first | (simp only [go_sem]; done) | (simp only [go_sem]; rfl)) rfl (by first | (simp only [go_sem, nxs]; done) | (simp only [go_sem, nxs]; omega) | omega)) hm1'.symm
  | cons x xs =>
   obtain ⟨c1, h_c1, hm1⟩ := b0g hm1
   obtain ⟨c2, h_c2, hm1⟩ := b0g hm1
   have hg : get (x :: xs) 0 = some x := b1h (k := 0) rfl
   have hne : ¬ decide (((x :: xs).length : Int) = 0) = true := by simp; omega
   generalize x :: xs = L at *
   have hg0 := b05 hg
   have hg1 := b06 hg
   obtain ⟨iq, rfl, ob_l, lt_l⟩ := l3q ow hg
   refine b2p (fun t h' => t 1 = .fs 1 (List.map eB seen) /\ t 2 = .fp [I p.Parts, .fs 1 (List.map b2f p.Alarms)] 0 /\ t 5 = .rs iq 0 (List.length L) /\ t 7 = I s /\ t 10 = I q10 /\ t 11 = I i /\ t 18 = B (decide (c1 < c2)) /\ h' = h) (fun K hK => ?_) ?_
   ·simp only [go_sem, s5, ob_l]
    refine b0k (fun hg17 => ?_) (fun hg17 => ?_)
    ·exact absurd hg17 hne
    simp only [go_sem, s5, ob_l, hg17]
    refine b01 (C84 _ _ h_c1) ?_
    simp only [go_sem, s5, ob_l, hg17, b08 hg, b3n hg, hg0, hg1]
    refine b01 (C84 _ _ h_c2) ?_
    simp only [go_sem, s5, ob_l, hg17, b08 hg, b3n hg, hg0, hg1]
    exact hK _ _ ⟨(by simp only [go_sem, s1]), (by simp only [go_sem, s2]), (by simp only [go_sem, s5]), (by simp only [go_sem]), (by simp only [go_sem, s10]), (by simp only [go_sem, s11]), (by simp only [go_sem, hg17]), rfl⟩
   clear s1 s2 s5 s10 s11
   rintro t h' ⟨s1, s2, s5, s7, s10, s11, s18, hh⟩
   subst hh
   simp only [go_sem, s18]
   refine b0k (fun hc2 => ?_) (fun hc2 => ?_)
   ·rw [b0r hc2] at hm1
    refine b03 fun K hK => ?_
    simp only [go_sem, s7]
    refine hK _ _ ?_
    clear hK K
    simp only [b02, b0f]
    exact J7 [s] _ _ _ (by simp only [go_sem, s1]) (by simp only [go_sem, s2]) rfl (by simp only [go_sem, s10]) (by simp only [go_sem, s11]) (by simp only [go_sem]; exact b2v (by first | (simp only [go_sem]; done) | (simp only [go_sem]; rfl)) rfl (by first | (simp only [go_sem, nxs]; done) | (simp only [go_sem, nxs]; omega) | omega)) (Option.some.inj hm1).symm
   rw [b0q hc2] at hm1
   refine b0b fun K hK => ?_
   simp only [go_sem, s7]
   refine b01 (C84 _ _ h_c1) ?_
   simp only [go_sem, s5, ob_l, b08 hg, b3n hg, hg0, hg1]
   refine b01 (C84 _ _ h_c2) ?_
   simp only [go_sem]
   refine hK _ _ ?_
   clear hK K
   simp only [go_sem]
   refine b0k (fun hc3 => ?_) (fun hc3 => ?_)
   ·rw [b0r hc3] at hm1
    obtain ⟨l2, h_l2, hm1⟩ := b0g hm1
    refine b03 fun K hK => ?_
    simp only [go_sem, s5, s7]
    refine b3a (f := eI) (l := L) (m := [s]) (b2v (by simp only [go_sem, ob_l, lt_l]) (by simp) (by first | (simp only [go_sem, nxs]; done) | (simp only [go_sem, nxs]; omega) | omega)) (b4t (by first | (simp only [go_sem]; done) | (simp only [go_sem]; rfl)) rfl) (b4r (by show ¬ iq = h'.nx; omega)) (fun _ => by simp) h_l2 ?_
    simp only [go_sem]
    refine hK _ _ ?_
    clear hK K
    simp only [b02, b0f]
    exact J7 l2 _ _ _ (by simp only [go_sem, s1]) (by simp only [go_sem, s2]) rfl (by simp only [go_sem, s10]) (by simp only [go_sem, s11]) (by simp only [go_sem]; exact b2v (by simp only [go_sem]) (by simp) (by first | (simp only [go_sem, nxs]; done) | (simp only [go_sem, nxs]; omega) | omega)) (Option.some.inj hm1).symm
   ·rw [b0q hc3] at hm1
    simp only [b0s, b02, b0f]
    exact J7 L _ _ _ (by simp only [go_sem, s1]) (by simp only [go_sem, s2]) rfl (by simp only [go_sem, s10]) (by simp only [go_sem, s11]) (by simp only [go_sem, s5]; exact b2v ob_l (by simp) lt_l) (Option.some.inj hm1).symm
 ·rw [b0q hc] at hm1
  simp only [b09, b1b, b1a, b0f]
  obtain rfl := Option.some.inj hm1
  obtain rfl := hb _ rfl
  refine hK1 _ _ ?_
  refine b0b fun K hK => ?_
  simp only [go_sem, s5, b5r v]
  refine d9m (z8x l v "newel/faults.fewest$1" [] [] (fun z0 z1 => c71 z0 z1) (.fn _ _ _ b0j b0j) (fun z0 z1 y hz => z8l z0 z1 y hz) h ow r hm0) ?_
  rintro _ h2 ⟨rfl, ow_y, fr_y, fx_y⟩
  simp only [go_sem]
  refine hK _ _ ?_
  clear hK K
  refine b0b fun K hK => ?_
  simp only [go_sem, s5, b5r v]
  refine hK _ _ ?_
  clear hK K
  simp only [b0x, b1p, b2e, b0y]
  exact b8e (v := v) (by simp only [go_sem]) (r8x ow_y b1t b8p)
end Go.Nw.WN
namespace Go.Nw.WN
noncomputable section
open Go.Sort (swp PermIn SortedIn SWO)
def z9d (S : Int -> Prop) (cmp : Int -> Int -> Option Int) (lt : Int -> Int -> Bool) : Prop := ∀ x y, S x -> S y -> ∃ z, cmp x y = some z /\ lt x y = decide (z < 0)
def c33 (S : Int -> Prop) (d : Array Int) : Prop := ∀ i, i < d.size -> S d[i]!
theorem z51 {d : Array Int} {i : Nat} (h : i < d.size) : get d.toList (i : Int) = some d[i]! := by
 refine b1h ?_
 rw [Array.getElem?_toList, Array.getElem?_eq_getElem h, getElem!_pos d i h]
theorem B4f {d : Array Int} {i j : Nat} (hi : i < d.size) (hj : j < d.size) : (d.toList.set i d[j]!).set j d[i]! = (swp d i j).toList := by
 unfold swp
 rw [Array.toList_setIfInBounds, Array.toList_setIfInBounds]
theorem z6w {d : Array Int} {i j : Nat} : (swp d i j).size = d.size := by simp [swp]
theorem B4e {S : Int -> Prop} {d : Array Int} {i j : Nat} (h : c33 S d) (hi : i < d.size) (hj : j < d.size) : c33 S (swp d i j) := by
 intro k hk
 rw [z6w] at hk
 rw [Go.Sort.swp_get d hi hj]
 split
 ·exact h i hi
 ·split
  ·exact h j hj
  ·exact h k hk
section
variable {S : Int -> Prop} {cmp : Int -> Int -> Option Int} {lt : Int -> Int -> Bool} (hc : z9d S cmp lt)
include hc
theorem z9s (a : Nat) : ∀ (j : Nat) (d : Array Int), c33 S d -> j < d.size -> d.size <= 1000000 -> b0w (B8g (a : Int) cmp) (d.toList, (j : Int)) = some (Go.Sort.insInner lt a j d).toList /\ c33 S (Go.Sort.insInner lt a j d) /\ (Go.Sort.insInner lt a j d).size = d.size
 | 0, d, hS, hj, hn => by
  have h : ¬ (a : Int) < ((0 : Nat) : Int) := by omega
  refine ⟨b3d ?_, hS, rfl⟩
  unfold B8g
  simp only [h, decide_false, fT9, if_false, bS9]
  rfl
 | j + 1, d, hS, hj, hn => by
  have hw : wr (((j + 1 : Nat) : Int) - 1) = (j : Int) := by rw [b3t (by omega) (by omega)]; omega
  by_cases ha : a < j + 1
  case neg =>
   have h : ¬ (a : Int) < ((j + 1 : Nat) : Int) := by omega
   have e : Go.Sort.insInner lt a (j + 1) d = d := by
    unfold Go.Sort.insInner
    rw [if_neg (by simp; omega)]
   rw [e]
   refine ⟨b3d ?_, hS, rfl⟩
   unfold B8g
   simp only [h, decide_false, fT9, if_false, bS9]
  have h : (a : Int) < ((j + 1 : Nat) : Int) := by omega
  obtain ⟨z, hz, hlt⟩ := hc d[j + 1]! d[j]! (hS _ hj) (hS _ (by omega))
  by_cases hq : z < 0
  case neg =>
   have e : Go.Sort.insInner lt a (j + 1) d = d := by
    unfold Go.Sort.insInner
    rw [if_neg (by rw [hlt]; simp [hq])]
   rw [e]
   refine ⟨b3d ?_, hS, rfl⟩
   unfold B8g
   simp only [h, decide_true, if_true, hw, z51 hj, z51 (show j < d.size by omega), bS9, hz, hq, decide_false, fT9, if_false]
  have e : Go.Sort.insInner lt a (j + 1) d = Go.Sort.insInner lt a j (swp d (j + 1) j) := by
   conv => lhs; unfold Go.Sort.insInner
   rw [if_pos (by rw [hlt]; simp [hq]; omega)]
  have hS2 := B4e hS hj (show j < d.size by omega)
  obtain ⟨r1, r2, r3⟩ := z9s a j (swp d (j + 1) j) hS2 (by rw [z6w]; omega) (by rw [z6w]; exact hn)
  rw [e]
  refine ⟨?_, r2, by rw [r3, z6w]⟩
  refine (w91 ?_).trans r1
  have hgs : ∃ y, get (d.toList.set (j + 1) d[j]!) (j : Int) = some y := by
   obtain ⟨y, hy⟩ := b3b (l := d.toList.set (j + 1) d[j]!) (k := j) (by simp; omega)
   exact ⟨y, b1h hy⟩
  obtain ⟨y, hy⟩ := hgs
  unfold B8g
  simp only [h, decide_true, if_true, hw, z51 hj, z51 (show j < d.size by omega), bS9, hz, hq, Int.toNat_natCast, hy]
  rw [B4f hj (by omega)]
theorem z9t (a b : Nat) : ∀ (k i : Nat) (d : Array Int), b - i = k -> c33 S d -> b <= d.size -> d.size <= 1000000 -> b0w (z5r (a : Int) (b : Int) cmp) (d.toList, (i : Int)) = some (Go.Sort.insOuter lt a b i d).toList /\ c33 S (Go.Sort.insOuter lt a b i d) /\ (Go.Sort.insOuter lt a b i d).size = d.size
 | 0, i, d, hk, hS, hb, hn => by
  have h : ¬ (i : Int) < (b : Int) := by omega
  have e : Go.Sort.insOuter lt a b i d = d := by unfold Go.Sort.insOuter; rw [if_neg (by omega)]
  rw [e]
  refine ⟨b3d ?_, hS, rfl⟩
  unfold z5r
  simp only [h, decide_false, fT9, if_false]
 | k + 1, i, d, hk, hS, hb, hn => by
  have h : (i : Int) < (b : Int) := by omega
  obtain ⟨q1, q2, q3⟩ := z9s hc a i d hS (by omega) hn
  obtain ⟨r1, r2, r3⟩ := z9t a b k (i + 1) (Go.Sort.insInner lt a i d) (by omega) q2 (by rw [q3]; exact hb) (by rw [q3]; exact hn)
  have e : Go.Sort.insOuter lt a b i d = Go.Sort.insOuter lt a b (i + 1) (Go.Sort.insInner lt a i d) := by
   conv => lhs; unfold Go.Sort.insOuter
   rw [if_pos (by omega)]
  rw [e]
  refine ⟨?_, r2, by rw [r3, q3]⟩
  refine (w91 ?_).trans r1
  unfold z5r z6v
  simp only [h, decide_true, if_true, q1, bS9]
  rw [b3t (by omega) (by omega)]
  congr 4
theorem B3g (a b : Nat) (d : Array Int) (hS : c33 S d) (hb : b <= d.size) (ha : a <= b) (hn : d.size <= 1000000) : x73 d.toList (a : Int) (b : Int) cmp = some (Go.Sort.insertionSort lt d a b).toList /\ c33 S (Go.Sort.insertionSort lt d a b) /\ (Go.Sort.insertionSort lt d a b).size = d.size := by
 obtain ⟨r1, r2, r3⟩ := z9t hc a b _ (a + 1) d rfl hS hb hn
 refine ⟨?_, r2, r3⟩
 unfold x73 z6u
 rw [b3t (by omega) (by omega)]
 have : ((a : Int) + 1) = ((a + 1 : Nat) : Int) := by omega
 rw [this, r1]; rfl
end
end
end Go.Nw.WN
namespace Go.Nw.WN
noncomputable section
open Go.Sort (swp PermIn SortedIn SWO)
theorem D88 {d : Array Int} {i j : Nat} {v : Int} (h : j < d.size) : ∃ y, get (d.toList.set i v) (j : Int) = some y := by
 obtain ⟨y, hy⟩ := b3b (l := d.toList.set i v) (k := j) (by simp; omega)
 exact ⟨y, b1h hy⟩
section
variable {S : Int -> Prop}
theorem D3l : ∀ (n i j : Nat) (d : Array Int), j - i <= n -> c33 S d -> j < d.size -> d.size <= 1000000 -> b0w D00 (d.toList, (i : Int), (j : Int)) = some (Go.Sort.reverseLoop i j d).toList /\ c33 S (Go.Sort.reverseLoop i j d) /\ (Go.Sort.reverseLoop i j d).size = d.size
 | n, i, j, d, hn, hS, hj, hs => by
  by_cases h : i < j
  ·cases n with
   | zero => omega
   | succ n =>
    have e : Go.Sort.reverseLoop i j d = Go.Sort.reverseLoop (i + 1) (j - 1) (swp d i j) := by
     conv => lhs; unfold Go.Sort.reverseLoop
     rw [if_pos h]
    have hS2 := B4e hS (show i < d.size by omega) hj
    obtain ⟨r1, r2, r3⟩ := D3l n (i + 1) (j - 1) (swp d i j) (by omega) hS2 (by rw [z6w]; omega) (by rw [z6w]; exact hs)
    rw [e]
    refine ⟨?_, r2, by rw [r3, z6w]⟩
    refine (w91 ?_).trans r1
    obtain ⟨y, hy⟩ := D88 (d := d) (i := i) (j := j) (v := d[j]!) hj
    unfold D00
    have hi : (i : Int) < (j : Int) := by omega
    simp only [hi, decide_true, if_true, z51 hj, z51 (show i < d.size by omega), bS9, Int.toNat_natCast, hy]
    rw [B4f (by omega) hj, b3t (n := (i : Int) + 1) (by omega) (by omega), b3t (n := (j : Int) - 1) (by omega) (by omega)]
    have e1 : ((i : Int) + 1) = ((i + 1 : Nat) : Int) := by omega
    have e2 : ((j : Int) - 1) = ((j - 1 : Nat) : Int) := by omega
    rw [e1, e2]
  ·have e : Go.Sort.reverseLoop i j d = d := by unfold Go.Sort.reverseLoop; rw [if_neg h]
   rw [e]
   refine ⟨b3d ?_, hS, rfl⟩
   unfold D00
   have hi : ¬ (i : Int) < (j : Int) := by omega
   simp only [hi, decide_false, fT9, if_false]
theorem D6d (cmp : Int -> Int -> Option Int) (a b : Nat) (d : Array Int) (hS : c33 S d) (ha : a < b) (hb : b <= d.size) (hs : d.size <= 1000000) :
  D0z d.toList (a : Int) (b : Int) cmp = some (Go.Sort.reverseRange d a b).toList /\ c33 S (Go.Sort.reverseRange d a b) /\ (Go.Sort.reverseRange d a b).size = d.size := by
 obtain ⟨r1, r2, r3⟩ := D3l _ a (b - 1) d (Nat.le_refl _) hS (by omega) hs
 refine ⟨?_, r2, r3⟩
 unfold D0z D1y
 rw [b3t (n := (b : Int) - 1) (by omega) (by omega), show (b : Int) - 1 = ((b - 1 : Nat) : Int) by omega, r1]; rfl
end
section
variable {S : Int -> Prop} {cmp : Int -> Int -> Option Int} {lt : Int -> Int -> Bool} (hc : z9d S cmp lt)
def unS : List Int ⊕ List Int -> List Int
 | .inl x => x
 | .inr x => x
include hc
theorem D6i {first root child : Nat} {d : Array Int} (hS : c33 S d) (hr : first + root < d.size) (hh : first + child < d.size) (hs : d.size <= 1000000) :
  C8y (first : Int) cmp d.toList (root : Int) (child : Int) = some (if lt d[first + root]! d[first + child]! then .nx ((swp d (first + root) (first + child)).toList, (child : Int)) else .br (.inr d.toList)) := by
 have w1 : wr ((first : Int) + (root : Int)) = ((first + root : Nat) : Int) := by rw [b3t (by omega) (by omega)]; omega
 have w2 : wr ((first : Int) + (child : Int)) = ((first + child : Nat) : Int) := by rw [b3t (by omega) (by omega)]; omega
 obtain ⟨z, hz, hl⟩ := hc _ _ (hS _ hr) (hS _ hh)
 obtain ⟨y, hy⟩ := D88 (d := d) (i := first + root) (j := first + child) (v := d[first + child]!) hh
 unfold C8y
 simp only [w1, w2, z51 hr, z51 hh, bS9, hz, hl, Int.toNat_natCast, hy]
 by_cases g : z < 0
 ·simp only [g, decide_true, Bool.not_true, fT9, if_false, if_true]
  rw [B4f hr hh]
 ·simp only [g, decide_false, Bool.not_false, if_true, fT9, if_false]
theorem D3s (first hi : Nat) : ∀ (n root : Nat) (d : Array Int), hi - root <= n -> c33 S d -> first + hi <= d.size -> root < hi \/ hi <= root -> d.size <= 1000000 -> root <= 1000000 ->
  (∃ b, b0w (C8i (hi : Int) (first : Int) cmp) (d.toList, (root : Int)) = some b /\ unS b = (Go.Sort.siftDown lt hi first root d).toList) /\ c33 S (Go.Sort.siftDown lt hi first root d) /\ (Go.Sort.siftDown lt hi first root d).size = d.size
 | n, root, d, hn, hS, hb, _, hs, hr6 => by
  have w0 : wr (2 * (root : Int)) = ((2 * root : Nat) : Int) := by rw [b3t (by omega) (by omega)]; omega
  have w1 : wr (((2 * root : Nat) : Int) + 1) = ((2 * root + 1 : Nat) : Int) := by rw [b3t (by omega) (by omega)]; omega
  have w2 : wr (((2 * root + 1 : Nat) : Int) + 1) = ((2 * root + 2 : Nat) : Int) := by rw [b3t (by omega) (by omega)]; omega
  by_cases h : 2 * root + 1 >= hi
  ·have e : Go.Sort.siftDown lt hi first root d = d := by unfold Go.Sort.siftDown; rw [dif_pos h]
   rw [e]
   refine ⟨⟨.inl d.toList, b3d ?_, rfl⟩, hS, rfl⟩
   unfold C8i
   have h' : (hi : Int) <= ((2 * root + 1 : Nat) : Int) := by omega
   simp only [w0, w1, h', decide_true, if_true]
  cases n with
  | zero => omega
  | succ n =>
   have h' : ¬ (hi : Int) <= ((2 * root + 1 : Nat) : Int) := by omega
   have hr : first + root < d.size := by omega
   have h1 : first + (2 * root + 1) < d.size := by omega
   have hchild : ∀ child : Nat, child < hi -> root < child -> (C8i (hi : Int) (first : Int) cmp (d.toList, (root : Int)) = C8y (first : Int) cmp d.toList (root : Int) (child : Int)) ->
     (Go.Sort.siftDown lt hi first root d = if !lt d[first + root]! d[first + child]! then d else Go.Sort.siftDown lt hi first child (swp d (first + root) (first + child))) ->
     (∃ b, b0w (C8i (hi : Int) (first : Int) cmp) (d.toList, (root : Int)) = some b /\ unS b = (Go.Sort.siftDown lt hi first root d).toList) /\ c33 S (Go.Sort.siftDown lt hi first root d) /\ (Go.Sort.siftDown lt hi first root d).size = d.size := by
    intro child hch hrc hL e
    have hh : first + child < d.size := by omega
    rw [D6i hc hS hr hh hs] at hL
    cases hlt : lt d[first + root]! d[first + child]! with
    | false =>
     rw [hlt] at hL e
     simp only [Bool.not_false, if_true] at e
     simp only [fT9, if_false] at hL
     rw [e]
     exact ⟨⟨.inr d.toList, b3d hL, rfl⟩, hS, rfl⟩
    | true =>
     rw [hlt] at hL e
     simp only [Bool.not_true, fT9, if_false] at e
     simp only [if_true] at hL
     have hS2 := B4e hS hr hh
     obtain ⟨⟨b, r0, r1⟩, r2, r3⟩ := D3s first hi n child (swp d (first + root) (first + child)) (by omega) hS2 (by rw [z6w]; exact hb) (.inl hch) (by rw [z6w]; exact hs) (by omega)
     rw [e]
     exact ⟨⟨b, (w91 hL).trans r0, r1⟩, r2, by rw [r3, z6w]⟩
   have w3 : wr ((first : Int) + ((2 * root + 1 : Nat) : Int)) = ((first + (2 * root + 1) : Nat) : Int) := by rw [b3t (by omega) (by omega)]; omega
   have w4 : wr (((first + (2 * root + 1) : Nat) : Int) + 1) = ((first + (2 * root + 1) + 1 : Nat) : Int) := by rw [b3t (by omega) (by omega)]; omega
   by_cases g : 2 * root + 1 + 1 < hi
   ·have g' : ((2 * root + 2 : Nat) : Int) < (hi : Int) := by omega
    have h2 : first + (2 * root + 1) + 1 < d.size := by omega
    obtain ⟨z, hz, hl⟩ := hc _ _ (hS _ h1) (hS _ h2)
    cases q : lt d[first + (2 * root + 1)]! d[first + (2 * root + 1) + 1]! with
    | true =>
     have hz0 : z < 0 := by rw [hl] at q; exact of_decide_eq_true q
     refine hchild (2 * root + 2) (by omega) (by omega) ?_ ?_
     ·conv => lhs; unfold C8i
      simp only [w0, w1, w2, w3, w4, h', g', decide_false, fT9, if_false, decide_true, if_true, z51 h1, z51 h2, bS9, hz, hz0]
     ·conv => lhs; unfold Go.Sort.siftDown
      rw [dif_neg h, q]
      simp only [g, decide_true, Bool.and_self, if_true]
      rw [dif_pos trivial]
    | false =>
     have hz0 : ¬ z < 0 := by rw [hl] at q; exact of_decide_eq_false q
     refine hchild (2 * root + 1) (by omega) (by omega) ?_ ?_
     ·conv => lhs; unfold C8i
      simp only [w0, w1, w2, w3, w4, h', g', decide_false, fT9, if_false, decide_true, if_true, z51 h1, z51 h2, bS9, hz, hz0]
     ·conv => lhs; unfold Go.Sort.siftDown
      rw [dif_neg h, q]
      simp only [Bool.and_false, fT9, if_false]
   ·have g' : ¬ ((2 * root + 2 : Nat) : Int) < (hi : Int) := by omega
    refine hchild (2 * root + 1) (by omega) (by omega) ?_ ?_
    ·conv => lhs; unfold C8i
     simp only [w0, w1, w2, h', g', decide_false, fT9, if_false, bS9]
    ·conv => lhs; unfold Go.Sort.siftDown
     rw [dif_neg h]
     simp only [g, decide_false, Bool.false_and, fT9, if_false]
theorem D3r (first hi root : Nat) (d : Array Int) (hS : c33 S d) (hb : first + hi <= d.size) (hs : d.size <= 1000000) (hr : root <= 1000000) :
  C9s d.toList (root : Int) (hi : Int) (first : Int) cmp = some (Go.Sort.siftDown lt hi first root d).toList /\ c33 S (Go.Sort.siftDown lt hi first root d) /\ (Go.Sort.siftDown lt hi first root d).size = d.size := by
 obtain ⟨⟨b, r0, r1⟩, r2, r3⟩ := D3s hc first hi _ root d (Nat.le_refl _) hS hb (by omega) hs hr
 refine ⟨?_, r2, r3⟩
 unfold C9s
 rw [r0, bS9, <- r1]
 cases b <;> rfl
theorem D22 (a b : Nat) (hab : a <= b) : ∀ (k : Nat) (d : Array Int), c33 S d -> b <= d.size -> d.size <= 1000000 -> k <= 1000000 ->
  b0w (D0l (a : Int) (b : Int) cmp) (d.toList, (k : Int) - 1) = some (Go.Sort.heapBuild lt (b - a) a k d).toList /\ c33 S (Go.Sort.heapBuild lt (b - a) a k d) /\ (Go.Sort.heapBuild lt (b - a) a k d).size = d.size
 | 0, d, hS, hb, hs, hk => by
  refine ⟨b3d ?_, hS, rfl⟩
  unfold D0l
  simp only [show ¬ (0 : Int) <= ((0 : Nat) : Int) - 1 by omega, decide_false, fT9, if_false]; rfl
 | k + 1, d, hS, hb, hs, hk => by
  obtain ⟨q1, q2, q3⟩ := D3r hc a (b - a) k d hS (by omega) hs (by omega)
  obtain ⟨r1, r2, r3⟩ := D22 a b hab k (Go.Sort.siftDown lt (b - a) a k d) q2 (by rw [q3]; exact hb) (by rw [q3]; exact hs) (by omega)
  refine ⟨(w91 ?_).trans r1, r2, by show (Go.Sort.heapBuild lt (b - a) a k (Go.Sort.siftDown lt (b - a) a k d)).size = _; rw [r3, q3]⟩
  have e1 : ((k + 1 : Nat) : Int) - 1 = (k : Int) := by omega
  have e2 : wr ((b : Int) - (a : Int)) = ((b - a : Nat) : Int) := by rw [b3t (by omega) (by omega)]; omega
  rw [e1]
  unfold D0l
  simp only [show (0 : Int) <= (k : Int) by omega, decide_true, if_true, e2, q1, bS9]
  rw [b3t (n := (k : Int) - 1) (by omega) (by omega)]
theorem D3i (a b : Nat) : ∀ (k : Nat) (d : Array Int), c33 S d -> a + k <= b -> b <= d.size -> d.size <= 1000000 ->
  b0w (D0k (a : Int) cmp) (d.toList, (k : Int) - 1) = some (Go.Sort.heapPop lt a k d).toList /\ c33 S (Go.Sort.heapPop lt a k d) /\ (Go.Sort.heapPop lt a k d).size = d.size
 | 0, d, hS, hk, hb, hs => by
  refine ⟨b3d ?_, hS, rfl⟩
  unfold D0k
  simp only [show ¬ (0 : Int) <= ((0 : Nat) : Int) - 1 by omega, decide_false, fT9, if_false]; rfl
 | k + 1, d, hS, hk, hb, hs => by
  have h1 : a < d.size := by omega
  have h2 : a + k < d.size := by omega
  have hS2 := B4e hS h1 h2
  obtain ⟨q1, q2, q3⟩ := D3r hc a k 0 (swp d a (a + k)) hS2 (by rw [z6w]; omega) (by rw [z6w]; exact hs) (by omega)
  obtain ⟨r1, r2, r3⟩ := D3i a b k (Go.Sort.siftDown lt k a 0 (swp d a (a + k))) q2 (by omega) (by rw [q3, z6w]; exact hb) (by rw [q3, z6w]; exact hs)
  refine ⟨(w91 ?_).trans r1, r2, by show (Go.Sort.heapPop lt a k (Go.Sort.siftDown lt k a 0 (swp d a (a + k)))).size = _; rw [r3, q3, z6w]⟩
  have e1 : ((k + 1 : Nat) : Int) - 1 = (k : Int) := by omega
  have e2 : wr ((a : Int) + (k : Int)) = ((a + k : Nat) : Int) := by rw [b3t (by omega) (by omega)]; omega
  obtain ⟨y, hy⟩ := D88 (d := d) (i := a) (j := a + k) (v := d[a + k]!) h2
  rw [e1]
  unfold D0k
  simp only [show (0 : Int) <= (k : Int) by omega, decide_true, if_true, e2, z51 h1, z51 h2, bS9, Int.toNat_natCast, hy]
  rw [B4f h1 h2, show (0 : Int) = ((0 : Nat) : Int) from rfl, q1, bS9, b3t (n := (k : Int) - 1) (by omega) (by omega)]
theorem D5o (a b : Nat) (d : Array Int) (hS : c33 S d) (hab : a < b) (hb : b <= d.size) (hs : d.size <= 1000000) :
  D0j d.toList (a : Int) (b : Int) cmp = some (Go.Sort.heapSort lt d a b).toList /\ c33 S (Go.Sort.heapSort lt d a b) /\ (Go.Sort.heapSort lt d a b).size = d.size := by
 obtain ⟨q1, q2, q3⟩ := D22 hc a b (by omega) ((b - a - 1) / 2 + 1) d hS hb hs (by omega)
 obtain ⟨r1, r2, r3⟩ := D3i hc a b (b - a) (Go.Sort.heapBuild lt (b - a) a ((b - a - 1) / 2 + 1) d) q2 (by omega) (by rw [q3]; exact hb) (by rw [q3]; exact hs)
 refine ⟨?_, r2, by show (Go.Sort.heapPop lt a (b - a) _).size = _; rw [r3, q3]⟩
 have e2 : wr ((b : Int) - (a : Int)) = ((b - a : Nat) : Int) := by rw [b3t (by omega) (by omega)]; omega
 have e3 : wr (((b - a : Nat) : Int) - 1) = ((b - a : Nat) : Int) - 1 := b3t (by omega) (by omega)
 have e4 : quo .i64 (((b - a : Nat) : Int) - 1) 2 = some ((((b - a - 1) / 2 + 1 : Nat) : Int) - 1) := by
  rw [D1n (by decide), show ((b - a : Nat) : Int) - 1 = ((b - a - 1 : Nat) : Int) by omega, Int.tdiv_eq_ediv_of_nonneg (by omega)]
  rw [show IntKind.i64.wrap (((b - a - 1 : Nat) : Int) / 2) = ((b - a - 1 : Nat) : Int) / 2 from b3t (by omega) (by omega)]
  congr 1; omega
 unfold D0j
 rw [e2, e3, e4, bS9, q1, bS9]
 unfold D1t D1u
 rw [e2, e3, r1]; rfl
end
end
end Go.Nw.WN
namespace Go.Nw.WN
noncomputable section
open Go.Sort (swp PermIn SortedIn SWO scanUp scanDown)
theorem D2x {f : Int -> Option (Out Int Int)} {p : Int -> Bool} {d : Array Int} {j : Nat} (hin : ∀ i : Nat, i <= j -> f (i : Int) = some (if p d[i]! then .nx ((i : Int) + 1) else .br (i : Int)))
  (hout : ∀ i : Nat, ¬ i <= j -> f (i : Int) = some (.br (i : Int))) : ∀ (n i : Nat), j + 1 - i = n -> b0w f (i : Int) = some ((scanUp p d j i : Nat) : Int) := by
 intro n
 induction n with
 | zero =>
  intro i hn
  have e : scanUp p d j i = i := by rw [scanUp, if_neg (by simp; omega)]
  rw [e]
  exact b3d (hout i (by omega))
 | succ n ih =>
  intro i hn
  have hi : i <= j := by omega
  cases hp : p d[i]! with
  | true =>
   have e : scanUp p d j i = scanUp p d j (i + 1) := by conv => lhs; rw [scanUp, if_pos (by simp [hp, hi])]
   rw [e]
   refine (w91 (s' := ((i + 1 : Nat) : Int)) ?_).trans (ih (i + 1) (by omega))
   rw [hin i hi, hp]; rfl
  | false =>
   have e : scanUp p d j i = i := by rw [scanUp, if_neg (by simp [hp])]
   rw [e]
   refine b3d ?_
   rw [hin i hi, hp]; rfl
theorem D1b {f : Int -> Option (Out Int Int)} {p : Int -> Bool} {d : Array Int} {i J : Nat} (h1 : 1 <= i) (hin : ∀ j : Nat, i <= j -> j <= J -> f (j : Int) = some (if p d[j]! then .nx ((j : Int) - 1) else .br (j : Int)))
  (hout : ∀ j : Nat, ¬ i <= j -> f (j : Int) = some (.br (j : Int))) : ∀ (j : Nat), j <= J -> b0w f (j : Int) = some ((scanDown p d i j : Nat) : Int)
 | 0, _ => by
  show b0w f ((0 : Nat) : Int) = some (((0 : Nat)) : Int)
  exact b3d (hout 0 (by omega))
 | j + 1, hj => by
  by_cases hi : i <= j + 1
  ·cases hp : p d[j + 1]! with
   | true =>
    have e : scanDown p d i (j + 1) = scanDown p d i j := by rw [scanDown, if_pos (by simp [hp, hi])]
    rw [e]
    refine (w91 (s' := (j : Int)) ?_).trans (D1b h1 hin hout j (by omega))
    rw [hin (j + 1) hi hj, hp, if_pos rfl]; congr 2; omega
   | false =>
    have e : scanDown p d i (j + 1) = j + 1 := by rw [scanDown, if_neg (by simp [hp])]
    rw [e]
    refine b3d ?_
    rw [hin (j + 1) hi hj, hp]; rfl
  ·have e : scanDown p d i (j + 1) = j + 1 := by rw [scanDown, if_neg (by simp [hi])]
   rw [e]
   exact b3d (hout (j + 1) hi)
section
variable {S : Int -> Prop} {cmp : Int -> Int -> Option Int} {lt : Int -> Int -> Bool} (hc : z9d S cmp lt)
include hc
theorem s38 {d : Array Int} (hS : c33 S d) {x y : Nat} (hx : x < d.size) (hy : y < d.size) : ∃ z, cmp d[x]! d[y]! = some z /\ decide (z < 0) = lt d[x]! d[y]! := by
 obtain ⟨z, h1, h2⟩ := hc _ _ (hS _ hx) (hS _ hy)
 exact ⟨z, h1, h2.symm⟩
theorem D3h {a j i : Nat} {d : Array Int} (hS : c33 S d) (ha : a < d.size) (hj : j < d.size) (hs : d.size <= 1000000) :
  b0w (D0v (a : Int) cmp d.toList (j : Int)) (i : Int) = some ((scanUp (fun x => !lt d[a]! x) d j i : Nat) : Int) := by
 refine D2x (fun i hi => ?_) (fun i hi => ?_) _ i rfl
 ·obtain ⟨z, hz, hl⟩ := s38 hc hS ha (show i < d.size by omega)
  unfold D0v
  simp only [show (i : Int) <= (j : Int) by omega, decide_true, if_true, z51 ha, z51 (show i < d.size by omega), bS9, hz, hl]
  rw [b3t (n := (i : Int) + 1) (by omega) (by omega)]
  cases lt d[a]! d[i]! <;> rfl
 ·unfold D0v
  simp only [show ¬ (i : Int) <= (j : Int) by omega, decide_false, fT9, if_false, bS9]
theorem D3g {a j i : Nat} {d : Array Int} (hS : c33 S d) (ha : a < d.size) (hj : j < d.size) (hi1 : 1 <= i) (hs : d.size <= 1000000) :
  b0w (D0w (a : Int) cmp d.toList (i : Int)) (j : Int) = some ((scanDown (fun x => lt d[a]! x) d i j : Nat) : Int) := by
 refine D1b hi1 (fun k hk hkj => ?_) (fun k hk => ?_) j (Nat.le_refl _)
 ·obtain ⟨z, hz, hl⟩ := s38 hc hS ha (show k < d.size by omega)
  unfold D0w
  simp only [show (i : Int) <= (k : Int) by omega, decide_true, if_true, z51 ha, z51 (show k < d.size by omega), bS9, hz, hl]
  rw [b3t (n := (k : Int) - 1) (by omega) (by omega)]
  cases lt d[a]! d[k]! <;> rfl
 ·unfold D0w
  simp only [show ¬ (i : Int) <= (k : Int) by omega, decide_false, fT9, if_false, bS9]
theorem D57 (a : Nat) : ∀ (n i j : Nat) (d : Array Int), j + 1 - i <= n -> a < i -> j < d.size -> a < d.size -> c33 S d -> d.size <= 1000000 -> i <= 1000000 ->
  b0w (C9o (a : Int) cmp) (d.toList, (i : Int), (j : Int)) = some (((Go.Sort.partEqLoop lt a i j d).1 : Int), (Go.Sort.partEqLoop lt a i j d).2.toList) /\ c33 S (Go.Sort.partEqLoop lt a i j d).2 /\ (Go.Sort.partEqLoop lt a i j d).2.size = d.size := by
 intro n
 induction n with
 | zero =>
  intro i j d hn hai hj ha hS hs hi6
  have e1 : scanUp (fun x => !lt d[a]! x) d j i = i := by rw [scanUp, if_neg (by simp; omega)]
  have hd := Go.Sort.scanDown_le (fun x => lt d[a]! x) d i j
  have e : Go.Sort.partEqLoop lt a i j d = (i, d) := by rw [Go.Sort.partEqLoop_eq, e1, if_pos (by omega)]
  rw [e]
  refine ⟨b3d ?_, hS, rfl⟩
  unfold C9o D0x C8w
  simp only [D3h hc hS ha hj hs, e1, bS9, D3g hc hS ha hj (show 1 <= i by omega) hs]
  rw [if_pos (by simp only [decide_eq_true_eq]; omega)]
 | succ n ih =>
  intro i j d hn hai hj ha hS hs hi6
  obtain ⟨i2, hi2⟩ : ∃ i2, i2 = scanUp (fun x => !lt d[a]! x) d j i := ⟨_, rfl⟩
  obtain ⟨j2, hj2⟩ : ∃ j2, j2 = scanDown (fun x => lt d[a]! x) d i2 j := ⟨_, rfl⟩
  have g1 : i <= i2 := hi2 ▸ Go.Sort.scanUp_ge _ d j i
  have g2 : j2 <= j := hj2 ▸ Go.Sort.scanDown_le _ d i2 j
  have hL : C9o (a : Int) cmp (d.toList, (i : Int), (j : Int)) = C8w d.toList (i2 : Int) (j2 : Int) := by
   unfold C9o D0x
   simp only [D3h hc hS ha hj hs, <- hi2, bS9, D3g hc hS ha hj (show 1 <= i2 by omega) hs, <- hj2]
  by_cases h : i2 > j2
  ·have e : Go.Sort.partEqLoop lt a i j d = (i2, d) := by rw [Go.Sort.partEqLoop_eq, <- hi2, <- hj2, if_pos h]
   rw [e]
   refine ⟨b3d ?_, hS, rfl⟩
   rw [hL]
   unfold C8w
   rw [if_pos (by simp only [decide_eq_true_eq]; omega)]
  ·have e : Go.Sort.partEqLoop lt a i j d = Go.Sort.partEqLoop lt a (i2 + 1) (j2 - 1) (swp d i2 j2) := by
    conv => lhs; rw [Go.Sort.partEqLoop_eq, <- hi2, <- hj2, if_neg h]
   have hb2 : i2 < d.size := by omega
   have hb3 : j2 < d.size := by omega
   have hS2 := B4e hS hb2 hb3
   obtain ⟨r1, r2, r3⟩ := ih (i2 + 1) (j2 - 1) (swp d i2 j2) (by omega) (by omega) (by rw [z6w]; omega) (by rw [z6w]; exact ha) hS2 (by rw [z6w]; exact hs) (by omega)
   rw [e]
   refine ⟨(w91 ?_).trans r1, r2, by rw [r3, z6w]⟩
   rw [hL]
   obtain ⟨y, hy⟩ := D88 (d := d) (i := i2) (j := j2) (v := d[j2]!) hb3
   unfold C8w D1x
   rw [if_neg (by simp only [decide_eq_true_eq]; omega)]
   simp only [z51 hb2, z51 hb3, bS9, Int.toNat_natCast, hy]
   rw [B4f hb2 hb3, b3t (n := (i2 : Int) + 1) (by omega) (by omega), b3t (n := (j2 : Int) - 1) (by omega) (by omega), show (i2 : Int) + 1 = ((i2 + 1 : Nat) : Int) by omega, show (j2 : Int) - 1 = ((j2 - 1 : Nat) : Int) by omega]
theorem D56 (a b pivot : Nat) (d : Array Int) (hS : c33 S d) (hap : a <= pivot) (hpb : pivot < b) (hb : b <= d.size) (hs : d.size <= 1000000) :
  D0u d.toList (a : Int) (b : Int) (pivot : Int) cmp = some (((Go.Sort.partitionEqual lt d a b pivot).1 : Int), (Go.Sort.partitionEqual lt d a b pivot).2.toList) /\ c33 S (Go.Sort.partitionEqual lt d a b pivot).2 /\ (Go.Sort.partitionEqual lt d a b pivot).2.size = d.size := by
 have ha : a < d.size := by omega
 have hp : pivot < d.size := by omega
 have hS2 := B4e hS ha hp
 obtain ⟨r1, r2, r3⟩ := D57 hc a _ (a + 1) (b - 1) (swp d a pivot) (Nat.le_refl _) (by omega) (by rw [z6w]; omega) (by rw [z6w]; exact ha) hS2 (by rw [z6w]; exact hs) (by omega)
 obtain ⟨y, hy⟩ := D88 (d := d) (i := a) (j := pivot) (v := d[pivot]!) hp
 refine ⟨?_, r2, by show (Go.Sort.partEqLoop lt a (a + 1) (b - 1) (swp d a pivot)).2.size = _; rw [r3, z6w]⟩
 unfold D0u
 simp only [z51 ha, z51 hp, bS9, Int.toNat_natCast, hy]
 rw [B4f ha hp, b3t (n := (a : Int) + 1) (by omega) (by omega), b3t (n := (b : Int) - 1) (by omega) (by omega), show (a : Int) + 1 = ((a + 1 : Nat) : Int) by omega, show (b : Int) - 1 = ((b - 1 : Nat) : Int) by omega, r1]
 rfl
theorem D3k {a j i : Nat} {d : Array Int} (hS : c33 S d) (ha : a < d.size) (hj : j < d.size) (hs : d.size <= 1000000) :
  b0w (D0o (a : Int) cmp d.toList (j : Int)) (i : Int) = some ((scanUp (fun x => lt x d[a]!) d j i : Nat) : Int) := by
 refine D2x (fun i hi => ?_) (fun i hi => ?_) _ i rfl
 ·obtain ⟨z, hz, hl⟩ := s38 hc hS (show i < d.size by omega) ha
  unfold D0o
  simp only [show (i : Int) <= (j : Int) by omega, decide_true, if_true, z51 ha, z51 (show i < d.size by omega), bS9, hz, hl]
  rw [b3t (n := (i : Int) + 1) (by omega) (by omega)]
  cases lt d[i]! d[a]! <;> rfl
 ·unfold D0o
  simp only [show ¬ (i : Int) <= (j : Int) by omega, decide_false, fT9, if_false, bS9]
theorem D3j {a j i : Nat} {d : Array Int} (hS : c33 S d) (ha : a < d.size) (hj : j < d.size) (hi1 : 1 <= i) (hs : d.size <= 1000000) :
  b0w (D0p (a : Int) cmp d.toList (i : Int)) (j : Int) = some ((scanDown (fun x => !lt x d[a]!) d i j : Nat) : Int) := by
 refine D1b hi1 (fun k hk hkj => ?_) (fun k hk => ?_) j (Nat.le_refl _)
 ·obtain ⟨z, hz, hl⟩ := s38 hc hS (show k < d.size by omega) ha
  unfold D0p
  simp only [show (i : Int) <= (k : Int) by omega, decide_true, if_true, z51 ha, z51 (show k < d.size by omega), bS9, hz, hl]
  rw [b3t (n := (k : Int) - 1) (by omega) (by omega)]
  cases lt d[k]! d[a]! <;> rfl
 ·unfold D0p
  simp only [show ¬ (i : Int) <= (k : Int) by omega, decide_false, fT9, if_false, bS9]
theorem D6c (a : Nat) : ∀ (n i j : Nat) (d : Array Int), j + 1 - i <= n -> a < i -> j < d.size -> a < d.size -> c33 S d -> d.size <= 1000000 -> i <= 1000000 ->
  b0w (C9m (a : Int) cmp) (d.toList, (i : Int), (j : Int)) = some ((Go.Sort.partLoop lt a i j d).2.toList, ((Go.Sort.partLoop lt a i j d).1 : Int)) /\ c33 S (Go.Sort.partLoop lt a i j d).2 /\ (Go.Sort.partLoop lt a i j d).2.size = d.size /\ (Go.Sort.partLoop lt a i j d).1 <= j := by
 intro n
 induction n with
 | zero =>
  intro i j d hn hai hj ha hS hs hi6
  have e1 : scanUp (fun x => lt x d[a]!) d j i = i := by rw [scanUp, if_neg (by simp; omega)]
  have hd := Go.Sort.scanDown_le (fun x => !lt x d[a]!) d i j
  have e : Go.Sort.partLoop lt a i j d = (scanDown (fun x => !lt x d[a]!) d i j, d) := by rw [Go.Sort.partLoop_eq, e1, if_pos (by omega)]
  rw [e]
  refine ⟨b3d ?_, hS, rfl, hd⟩
  unfold C9m D0t C8v
  simp only [D3k hc hS ha hj hs, e1, bS9, D3j hc hS ha hj (show 1 <= i by omega) hs]
  rw [if_pos (by simp only [decide_eq_true_eq]; omega)]
 | succ n ih =>
  intro i j d hn hai hj ha hS hs hi6
  obtain ⟨i2, hi2⟩ : ∃ i2, i2 = scanUp (fun x => lt x d[a]!) d j i := ⟨_, rfl⟩
  obtain ⟨j2, hj2⟩ : ∃ j2, j2 = scanDown (fun x => !lt x d[a]!) d i2 j := ⟨_, rfl⟩
  have g1 : i <= i2 := hi2 ▸ Go.Sort.scanUp_ge _ d j i
  have g2 : j2 <= j := hj2 ▸ Go.Sort.scanDown_le _ d i2 j
  have hL : C9m (a : Int) cmp (d.toList, (i : Int), (j : Int)) = C8v d.toList (i2 : Int) (j2 : Int) := by
   unfold C9m D0t
   simp only [D3k hc hS ha hj hs, <- hi2, bS9, D3j hc hS ha hj (show 1 <= i2 by omega) hs, <- hj2]
  by_cases h : i2 > j2
  ·have e : Go.Sort.partLoop lt a i j d = (j2, d) := by rw [Go.Sort.partLoop_eq, <- hi2, <- hj2, if_pos h]
   rw [e]
   refine ⟨b3d ?_, hS, rfl, g2⟩
   rw [hL]
   unfold C8v
   rw [if_pos (by simp only [decide_eq_true_eq]; omega)]
  ·have e : Go.Sort.partLoop lt a i j d = Go.Sort.partLoop lt a (i2 + 1) (j2 - 1) (swp d i2 j2) := by
    conv => lhs; rw [Go.Sort.partLoop_eq, <- hi2, <- hj2, if_neg h]
   have hb2 : i2 < d.size := by omega
   have hb3 : j2 < d.size := by omega
   have hS2 := B4e hS hb2 hb3
   obtain ⟨r1, r2, r3, r4⟩ := ih (i2 + 1) (j2 - 1) (swp d i2 j2) (by omega) (by omega) (by rw [z6w]; omega) (by rw [z6w]; exact ha) hS2 (by rw [z6w]; exact hs) (by omega)
   rw [e]
   refine ⟨(w91 ?_).trans r1, r2, by rw [r3, z6w], by omega⟩
   rw [hL]
   obtain ⟨y, hy⟩ := D88 (d := d) (i := i2) (j := j2) (v := d[j2]!) hb3
   unfold C8v D1v
   rw [if_neg (by simp only [decide_eq_true_eq]; omega)]
   simp only [z51 hb2, z51 hb3, bS9, Int.toNat_natCast, hy]
   rw [B4f hb2 hb3, b3t (n := (i2 : Int) + 1) (by omega) (by omega), b3t (n := (j2 : Int) - 1) (by omega) (by omega), show (i2 : Int) + 1 = ((i2 + 1 : Nat) : Int) by omega, show (j2 : Int) - 1 = ((j2 - 1 : Nat) : Int) by omega]
theorem D6b (a b pivot : Nat) (d : Array Int) (hS : c33 S d) (hap : a <= pivot) (hpb : pivot < b) (hb : b <= d.size) (hs : d.size <= 1000000) :
  C9l d.toList (a : Int) (b : Int) (pivot : Int) cmp = some (((Go.Sort.partition lt d a b pivot).1 : Int), (Go.Sort.partition lt d a b pivot).2.1, (Go.Sort.partition lt d a b pivot).2.2.toList) /\ c33 S (Go.Sort.partition lt d a b pivot).2.2 /\ (Go.Sort.partition lt d a b pivot).2.2.size = d.size := by
 have ha : a < d.size := by omega
 have hp : pivot < d.size := by omega
 have hS2 := B4e hS ha hp
 obtain ⟨e, he⟩ : ∃ e, e = swp d a pivot := ⟨_, rfl⟩
 rw [<- he] at hS2
 have hes : e.size = d.size := by rw [he, z6w]
 have hae : a < e.size := by omega
 obtain ⟨y, hy⟩ := D88 (d := d) (i := a) (j := pivot) (v := d[pivot]!) hp
 have hsw : List.set (List.set d.toList a d[pivot]!) pivot d[a]! = e.toList := by rw [he]; exact B4f ha hp
 obtain ⟨i, hi⟩ : ∃ i, i = scanUp (fun x => lt x e[a]!) e (b - 1) (a + 1) := ⟨_, rfl⟩
 obtain ⟨j, hj⟩ : ∃ j, j = scanDown (fun x => !lt x e[a]!) e i (b - 1) := ⟨_, rfl⟩
 have g1 : a + 1 <= i := hi ▸ Go.Sort.scanUp_ge _ e (b - 1) (a + 1)
 have g2 : j <= b - 1 := hj ▸ Go.Sort.scanDown_le _ e i (b - 1)
 have wb : wr ((b : Int) - 1) = ((b - 1 : Nat) : Int) := by rw [b3t (by omega) (by omega)]; omega
 have wa : wr ((a : Int) + 1) = ((a + 1 : Nat) : Int) := by rw [b3t (by omega) (by omega)]; omega
 have hup : b0w (D0q d.toList (a : Int) (b : Int) (pivot : Int) cmp d[pivot]! d[a]!) ((a + 1 : Nat) : Int) = some (i : Int) := by
  rw [hi]
  refine D2x (fun i hi => ?_) (fun i hi => ?_) _ (a + 1) rfl
  ·obtain ⟨z, hz, hl⟩ := s38 hc hS2 (show i < e.size by omega) hae
   unfold D0q
   simp only [wb, show (i : Int) <= ((b - 1 : Nat) : Int) by omega, decide_true, if_true, Int.toNat_natCast, hsw, z51 hae, z51 (show i < e.size by omega), bS9, hz, hl]
   rw [b3t (n := (i : Int) + 1) (by omega) (by omega)]
   cases lt e[i]! e[a]! <;> rfl
  ·unfold D0q
   simp only [wb, show ¬ (i : Int) <= ((b - 1 : Nat) : Int) by omega, decide_false, fT9, if_false, bS9]
 have hdn : b0w (D0r d.toList (a : Int) (pivot : Int) cmp d[pivot]! d[a]! (i : Int)) ((b - 1 : Nat) : Int) = some (j : Int) := by
  rw [hj]
  refine D1b (J := b - 1) (by omega) (fun k hk hkj => ?_) (fun k hk => ?_) (b - 1) (Nat.le_refl _)
  ·obtain ⟨z, hz, hl⟩ := s38 hc hS2 (show k < e.size by omega) hae
   unfold D0r
   simp only [show (i : Int) <= (k : Int) by omega, decide_true, if_true, Int.toNat_natCast, hsw, z51 hae, z51 (show k < e.size by omega), bS9, hz, hl]
   rw [b3t (n := (k : Int) - 1) (by omega) (by omega)]
   cases lt e[k]! e[a]! <;> rfl
  ·unfold D0r
   simp only [show ¬ (i : Int) <= (k : Int) by omega, decide_false, fT9, if_false, bS9]
 have hpe : Go.Sort.partition lt d a b pivot = if i > j then (j, true, swp e j a) else ((Go.Sort.partLoop lt a (i + 1) (j - 1) (swp e i j)).1, false, swp (Go.Sort.partLoop lt a (i + 1) (j - 1) (swp e i j)).2 (Go.Sort.partLoop lt a (i + 1) (j - 1) (swp e i j)).1 a) := by
  unfold Go.Sort.partition
  simp only [<- he, <- hi, <- hj]
 have hm : C9l d.toList (a : Int) (b : Int) (pivot : Int) cmp = C9n d.toList (a : Int) (pivot : Int) cmp d[pivot]! d[a]! (i : Int) (j : Int) := by
  unfold C9l D1w
  simp only [z51 ha, z51 hp, bS9, Int.toNat_natCast, hy, wa, wb, hup, hdn]
 rw [hm, hpe]
 have hje : j < e.size := by omega
 by_cases h : i > j
 ·rw [if_pos h]
  refine ⟨?_, B4e hS2 hje hae, by show (swp e j a).size = _; rw [z6w, hes]⟩
  obtain ⟨y2, hy2⟩ := D88 (d := e) (i := j) (j := a) (v := e[a]!) hae
  unfold C9n
  rw [if_pos (by simp only [decide_eq_true_eq]; omega)]
  simp only [Int.toNat_natCast, hsw, z51 hae, z51 hje, bS9, hy2]
  rw [B4f hje hae]
 ·rw [if_neg h]
  have hie : i < e.size := by omega
  have hS3 := B4e hS2 hie hje
  have hs3 : (swp e i j).size = d.size := by rw [z6w, hes]
  obtain ⟨r1, r2, r3, r4⟩ := D6c hc a _ (i + 1) (j - 1) (swp e i j) (Nat.le_refl _) (by omega) (by omega) (by omega) hS3 (by omega) (by omega)
  obtain ⟨y2, hy2⟩ := D88 (d := e) (i := i) (j := j) (v := e[j]!) hje
  obtain ⟨q, hq⟩ : ∃ q, q = Go.Sort.partLoop lt a (i + 1) (j - 1) (swp e i j) := ⟨_, rfl⟩
  rw [<- hq] at r1 r2 r3 r4 ⊢
  have hq1 : q.1 < q.2.size := by omega
  have hq2 : a < q.2.size := by omega
  obtain ⟨y3, hy3⟩ := D88 (d := q.2) (i := q.1) (j := a) (v := q.2[a]!) hq2
  refine ⟨?_, B4e r2 hq1 hq2, by show (swp q.2 q.1 a).size = _; rw [z6w]; omega⟩
  unfold C9n
  rw [if_neg (by simp only [decide_eq_true_eq]; omega)]
  simp only [Int.toNat_natCast, hsw, z51 hie, z51 hje, bS9, hy2]
  rw [B4f hie hje, b3t (n := (i : Int) + 1) (by omega) (by omega), b3t (n := (j : Int) - 1) (by omega) (by omega), show (i : Int) + 1 = ((i + 1 : Nat) : Int) by omega, show (j : Int) - 1 = ((j - 1 : Nat) : Int) by omega, r1]
  show D0s (a : Int) q.2.toList (q.1 : Int) = _
  unfold D0s
  simp only [z51 hq1, z51 hq2, bS9, Int.toNat_natCast, hy3]
  rw [B4f hq1 hq2]
end
end
end Go.Nw.WN
namespace Go.Nw.WN
noncomputable section
open Go.Sort (swp PermIn SortedIn SWO)
section
variable {S : Int -> Prop} {cmp : Int -> Int -> Option Int} {lt : Int -> Int -> Bool} (hc : z9d S cmp lt)
include hc
theorem D6k {b : Nat} {d : Array Int} (hS : c33 S d) (hb : b <= d.size) (hs : d.size <= 1000000) : ∀ (n i : Nat), b - i = n -> 1 <= i -> i <= b ->
  b0w (C9j (b : Int) cmp d.toList) (i : Int) = some ((Go.Sort.scanSorted lt d b i : Nat) : Int) /\ i <= Go.Sort.scanSorted lt d b i /\ Go.Sort.scanSorted lt d b i <= b := by
 intro n
 induction n with
 | zero =>
  intro i hn h1 hib
  have e : Go.Sort.scanSorted lt d b i = i := by rw [Go.Sort.scanSorted, if_neg (by simp; omega)]
  rw [e]
  refine ⟨b3d ?_, Nat.le_refl _, hib⟩
  unfold C9j
  simp only [show ¬ (i : Int) < (b : Int) by omega, decide_false, fT9, if_false, bS9]
 | succ n ih =>
  intro i hn h1 hib
  have hi : i < b := by omega
  have w1 : wr ((i : Int) - 1) = ((i - 1 : Nat) : Int) := by rw [b3t (by omega) (by omega)]; omega
  obtain ⟨z, hz, hl⟩ := s38 hc hS (show i < d.size by omega) (show i - 1 < d.size by omega)
  have hL : C9j (b : Int) cmp d.toList (i : Int) = if lt d[i]! d[i - 1]! then some (.br (i : Int)) else some (.nx ((i : Int) + 1)) := by
   unfold C9j
   simp only [show (i : Int) < (b : Int) by omega, decide_true, if_true, w1, z51 (show i < d.size by omega), z51 (show i - 1 < d.size by omega), bS9, hz, hl]
   rw [b3t (n := (i : Int) + 1) (by omega) (by omega)]
   cases lt d[i]! d[i - 1]! <;> rfl
  cases q : lt d[i]! d[i - 1]! with
  | true =>
   have e : Go.Sort.scanSorted lt d b i = i := by rw [Go.Sort.scanSorted, if_neg (by simp [q])]
   rw [e]
   refine ⟨b3d ?_, Nat.le_refl _, hib⟩
   rw [hL, q]; rfl
  | false =>
   have e : Go.Sort.scanSorted lt d b i = Go.Sort.scanSorted lt d b (i + 1) := by conv => lhs; rw [Go.Sort.scanSorted, if_pos (by simp [q, hi])]
   obtain ⟨r1, r2, r3⟩ := ih (i + 1) (by omega) (by omega) (by omega)
   rw [e]
   refine ⟨(w91 ?_).trans r1, by omega, r3⟩
   rw [hL, q]; rfl
theorem D3p : ∀ (j : Nat) (d : Array Int), c33 S d -> j < d.size -> d.size <= 1000000 ->
  b0w (C9h cmp) (d.toList, (j : Int)) = some (Go.Sort.shiftDown lt j d).toList /\ c33 S (Go.Sort.shiftDown lt j d) /\ (Go.Sort.shiftDown lt j d).size = d.size
 | 0, d, hS, hj, hs => by
  refine ⟨b3d ?_, hS, rfl⟩
  unfold C9h
  simp only [show ¬ (1 : Int) <= ((0 : Nat) : Int) by omega, decide_false, fT9, if_false]; rfl
 | j + 1, d, hS, hj, hs => by
  have w1 : wr (((j + 1 : Nat) : Int) - 1) = (j : Int) := by rw [b3t (by omega) (by omega)]; omega
  have hj' : j < d.size := by omega
  obtain ⟨z, hz, hl⟩ := s38 hc hS hj hj'
  obtain ⟨y, hy⟩ := D88 (d := d) (i := j + 1) (j := j) (v := d[j]!) hj'
  have hL : C9h cmp (d.toList, ((j + 1 : Nat) : Int)) = if lt d[j + 1]! d[j]! then some (.nx ((swp d (j + 1) j).toList, (j : Int))) else some (.br d.toList) := by
   unfold C9h
   simp only [show (1 : Int) <= ((j + 1 : Nat) : Int) by omega, decide_true, if_true, w1, z51 hj, z51 hj', bS9, hz, hl, Int.toNat_natCast, hy]
   rw [B4f hj hj']
   cases lt d[j + 1]! d[j]! <;> rfl
  cases q : lt d[j + 1]! d[j]! with
  | true =>
   have e : Go.Sort.shiftDown lt (j + 1) d = Go.Sort.shiftDown lt j (swp d (j + 1) j) := by
    show (if !lt d[j + 1]! d[j]! then d else Go.Sort.shiftDown lt j (swp d (j + 1) j)) = _
    rw [q]; rfl
   obtain ⟨r1, r2, r3⟩ := D3p j (swp d (j + 1) j) (B4e hS hj hj') (by rw [z6w]; exact hj') (by rw [z6w]; exact hs)
   rw [e]
   refine ⟨(w91 ?_).trans r1, r2, by rw [r3, z6w]⟩
   rw [hL, q]; rfl
  | false =>
   have e : Go.Sort.shiftDown lt (j + 1) d = d := by
    show (if !lt d[j + 1]! d[j]! then d else Go.Sort.shiftDown lt j (swp d (j + 1) j)) = _
    rw [q]; rfl
   rw [e]
   refine ⟨b3d ?_, hS, rfl⟩
   rw [hL, q]; rfl
theorem D6l (b : Nat) (i : Int) : ∀ (n j : Nat) (d : Array Int), b - j = n -> 1 <= j -> c33 S d -> b <= d.size -> d.size <= 1000000 -> j <= 1000000 ->
  b0w (C9i (b : Int) cmp i) (d.toList, (j : Int)) = some ((Go.Sort.shiftUp lt b j d).toList, i) /\ c33 S (Go.Sort.shiftUp lt b j d) /\ (Go.Sort.shiftUp lt b j d).size = d.size := by
 intro n
 induction n with
 | zero =>
  intro j d hn h1 hS hb hs hj6
  have e : Go.Sort.shiftUp lt b j d = d := by rw [Go.Sort.shiftUp, if_neg (by omega)]
  rw [e]
  refine ⟨b3d ?_, hS, rfl⟩
  unfold C9i
  simp only [show ¬ (j : Int) < (b : Int) by omega, decide_false, fT9, if_false]
 | succ n ih =>
  intro j d hn h1 hS hb hs hj6
  have hj : j < d.size := by omega
  have hj' : j - 1 < d.size := by omega
  have w1 : wr ((j : Int) - 1) = ((j - 1 : Nat) : Int) := by rw [b3t (by omega) (by omega)]; omega
  obtain ⟨z, hz, hl⟩ := s38 hc hS hj hj'
  obtain ⟨y, hy⟩ := D88 (d := d) (i := j) (j := j - 1) (v := d[j - 1]!) hj'
  have hL : C9i (b : Int) cmp i (d.toList, (j : Int)) = if lt d[j]! d[j - 1]! then some (.nx ((swp d j (j - 1)).toList, ((j + 1 : Nat) : Int))) else some (.br (d.toList, i)) := by
   unfold C9i
   simp only [show (j : Int) < (b : Int) by omega, decide_true, if_true, w1, z51 hj, z51 hj', bS9, hz, hl, Int.toNat_natCast, hy]
   rw [B4f hj hj', b3t (n := (j : Int) + 1) (by omega) (by omega), show (j : Int) + 1 = ((j + 1 : Nat) : Int) by omega]
   cases lt d[j]! d[j - 1]! <;> rfl
  cases q : lt d[j]! d[j - 1]! with
  | true =>
   have e : Go.Sort.shiftUp lt b j d = Go.Sort.shiftUp lt b (j + 1) (swp d j (j - 1)) := by conv => lhs; rw [Go.Sort.shiftUp, if_pos (by omega), q]; simp
   obtain ⟨r1, r2, r3⟩ := ih (j + 1) (swp d j (j - 1)) (by omega) (by omega) (B4e hS hj hj') (by rw [z6w]; exact hb) (by rw [z6w]; exact hs) (by omega)
   rw [e]
   refine ⟨(w91 ?_).trans r1, r2, by rw [r3, z6w]⟩
   rw [hL, q]; rfl
  | false =>
   have e : Go.Sort.shiftUp lt b j d = d := by conv => lhs; rw [Go.Sort.shiftUp, if_pos (by omega), q]; simp
   rw [e]
   refine ⟨b3d ?_, hS, rfl⟩
   rw [hL, q]; rfl
def unP : List Int ⊕ (Bool × List Int) -> Bool × List Int
 | .inl d => (false, d)
 | .inr r => r
omit hc in
theorem D59 {a b s i : Nat} {d : Array Int} : Go.Sort.partialIns lt a b (s + 1) i d =
  if Go.Sort.scanSorted lt d b i = b then (d, true) else if b - a < 50 then (d, false) else
  Go.Sort.partialIns lt a b s (Go.Sort.scanSorted lt d b i) (if b - Go.Sort.scanSorted lt d b i >= 2 then Go.Sort.shiftUp lt b (Go.Sort.scanSorted lt d b i + 1) (if Go.Sort.scanSorted lt d b i - a >= 2 then Go.Sort.shiftDown lt (Go.Sort.scanSorted lt d b i - 1) (swp d (Go.Sort.scanSorted lt d b i) (Go.Sort.scanSorted lt d b i - 1)) else swp d (Go.Sort.scanSorted lt d b i) (Go.Sort.scanSorted lt d b i - 1)) else (if Go.Sort.scanSorted lt d b i - a >= 2 then Go.Sort.shiftDown lt (Go.Sort.scanSorted lt d b i - 1) (swp d (Go.Sort.scanSorted lt d b i) (Go.Sort.scanSorted lt d b i - 1)) else swp d (Go.Sort.scanSorted lt d b i) (Go.Sort.scanSorted lt d b i - 1))) := rfl
theorem D6a (a b : Nat) (hab : a < b) : ∀ (s i : Nat) (d : Array Int), s <= 5 -> a < i -> i <= b -> c33 S d -> b <= d.size -> d.size <= 1000000 ->
  (∃ r, b0w (C8m (a : Int) (b : Int) cmp) (d.toList, (i : Int), ((5 - s : Nat) : Int)) = some r /\ unP r = ((Go.Sort.partialIns lt a b s i d).2, (Go.Sort.partialIns lt a b s i d).1.toList)) /\ c33 S (Go.Sort.partialIns lt a b s i d).1 /\ (Go.Sort.partialIns lt a b s i d).1.size = d.size := by
 intro s
 induction s with
 | zero =>
  intro i d hs5 hai hib hS hb hs
  refine ⟨⟨.inl d.toList, b3d ?_, rfl⟩, hS, rfl⟩
  unfold C8m
  simp only [show ¬ ((5 - 0 : Nat) : Int) < 5 by omega, decide_false, fT9, if_false]
 | succ s ih =>
  intro i d hs5 hai hib hS hb hs
  obtain ⟨q1, q2, q3⟩ := D6k hc hS hb hs _ i rfl (by omega) hib
  have wab : wr ((b : Int) - (a : Int)) = ((b - a : Nat) : Int) := by rw [b3t (by omega) (by omega)]; omega
  have hL : C8m (a : Int) (b : Int) cmp (d.toList, (i : Int), ((5 - (s + 1) : Nat) : Int)) = C8n (a : Int) (b : Int) cmp d.toList ((5 - (s + 1) : Nat) : Int) ((Go.Sort.scanSorted lt d b i : Nat) : Int) := by
   unfold C8m
   simp only [show ((5 - (s + 1) : Nat) : Int) < 5 by omega, decide_true, if_true, q1, bS9]
  rw [D59]
  generalize Go.Sort.scanSorted lt d b i = k at *
  by_cases c1 : k = b
  ·rw [if_pos c1]
   refine ⟨⟨.inr (true, d.toList), b3d ?_, rfl⟩, hS, rfl⟩
   rw [hL]
   unfold C8n
   simp only [show (k : Int) = (b : Int) by omega, decide_true, if_true]
  rw [if_neg c1]
  by_cases c2 : b - a < 50
  ·rw [if_pos c2]
   refine ⟨⟨.inr (false, d.toList), b3d ?_, rfl⟩, hS, rfl⟩
   rw [hL]
   unfold C8n
   simp only [show ¬ (k : Int) = (b : Int) by omega, decide_false, fT9, if_false, wab, show ((b - a : Nat) : Int) < 50 by omega, decide_true, if_true]
  rw [if_neg c2]
  have hk : k < d.size := by omega
  have hk' : k - 1 < d.size := by omega
  have w1 : wr ((k : Int) - 1) = ((k - 1 : Nat) : Int) := by rw [b3t (by omega) (by omega)]; omega
  have w2 : wr ((k : Int) - (a : Int)) = ((k - a : Nat) : Int) := by rw [b3t (by omega) (by omega)]; omega
  have w3 : wr ((b : Int) - (k : Int)) = ((b - k : Nat) : Int) := by rw [b3t (by omega) (by omega)]; omega
  have w4 : wr ((k : Int) + 1) = ((k + 1 : Nat) : Int) := by rw [b3t (by omega) (by omega)]; omega
  have w5 : wr (((5 - (s + 1) : Nat) : Int) + 1) = ((5 - s : Nat) : Int) := by rw [b3t (by omega) (by omega)]; omega
  obtain ⟨y, hy⟩ := D88 (d := d) (i := k) (j := k - 1) (v := d[k - 1]!) hk'
  have rest : ∀ e : Array Int, c33 S e -> e.size = d.size -> (hj : C8m (a : Int) (b : Int) cmp (d.toList, (i : Int), ((5 - (s + 1) : Nat) : Int)) = C8u (b : Int) cmp ((5 - (s + 1) : Nat) : Int) (k : Int) e.toList) ->
    (∃ r, b0w (C8m (a : Int) (b : Int) cmp) (d.toList, (i : Int), ((5 - (s + 1) : Nat) : Int)) = some r /\ unP r = ((Go.Sort.partialIns lt a b s k (if b - k >= 2 then Go.Sort.shiftUp lt b (k + 1) e else e)).2, (Go.Sort.partialIns lt a b s k (if b - k >= 2 then Go.Sort.shiftUp lt b (k + 1) e else e)).1.toList)) /\ c33 S (Go.Sort.partialIns lt a b s k (if b - k >= 2 then Go.Sort.shiftUp lt b (k + 1) e else e)).1 /\ (Go.Sort.partialIns lt a b s k (if b - k >= 2 then Go.Sort.shiftUp lt b (k + 1) e else e)).1.size = d.size := by
   intro e hSe hes hj
   by_cases c3 : b - k >= 2
   ·obtain ⟨u1, u2, u3⟩ := D6l hc b (k : Int) _ (k + 1) e rfl (by omega) hSe (by omega) (by omega) (by omega)
    obtain ⟨⟨r, r1, r2⟩, r3, r4⟩ := ih k (Go.Sort.shiftUp lt b (k + 1) e) (by omega) (by omega) q3 u2 (by omega) (by omega)
    rw [if_pos c3]
    refine ⟨⟨r, (w91 ?_).trans r1, r2⟩, r3, by omega⟩
    rw [hj]
    unfold C8u C9k
    simp only [w3, show (2 : Int) <= ((b - k : Nat) : Int) by omega, decide_true, if_true, w4, u1, bS9, w5]
   ·obtain ⟨⟨r, r1, r2⟩, r3, r4⟩ := ih k e (by omega) (by omega) q3 hSe (by omega) (by omega)
    rw [if_neg c3]
    refine ⟨⟨r, (w91 ?_).trans r1, r2⟩, r3, by omega⟩
    rw [hj]
    unfold C8u C9k
    simp only [w3, show ¬ (2 : Int) <= ((b - k : Nat) : Int) by omega, decide_false, fT9, if_false, w5]
  have hS2 := B4e hS hk hk'
  by_cases c4 : k - a >= 2
  ·obtain ⟨u1, u2, u3⟩ := D3p hc (k - 1) (swp d k (k - 1)) hS2 (by rw [z6w]; exact hk') (by rw [z6w]; exact hs)
   rw [if_pos c4]
   refine rest _ u2 (by rw [u3, z6w]) ?_
   rw [hL]
   unfold C8n
   simp only [show ¬ (k : Int) = (b : Int) by omega, decide_false, fT9, if_false, wab, show ¬ ((b - a : Nat) : Int) < 50 by omega, w1, z51 hk, z51 hk', bS9, Int.toNat_natCast, hy, w2, show (2 : Int) <= ((k - a : Nat) : Int) by omega, decide_true, if_true]
   rw [B4f hk hk', u1, bS9]
  ·rw [if_neg c4]
   refine rest _ hS2 (by rw [z6w]) ?_
   rw [hL]
   unfold C8n
   simp only [show ¬ (k : Int) = (b : Int) by omega, decide_false, fT9, if_false, wab, show ¬ ((b - a : Nat) : Int) < 50 by omega, w1, z51 hk, z51 hk', bS9, Int.toNat_natCast, hy, w2, show ¬ (2 : Int) <= ((k - a : Nat) : Int) by omega]
   rw [B4f hk hk']
theorem D58 (a b : Nat) (d : Array Int) (hS : c33 S d) (hab : a < b) (hb : b <= d.size) (hs : d.size <= 1000000) :
  D0n d.toList (a : Int) (b : Int) cmp = some ((Go.Sort.partialInsertionSort lt d a b).2, (Go.Sort.partialInsertionSort lt d a b).1.toList) /\ c33 S (Go.Sort.partialInsertionSort lt d a b).1 /\ (Go.Sort.partialInsertionSort lt d a b).1.size = d.size := by
 obtain ⟨⟨r, r1, r2⟩, r3, r4⟩ := D6a hc a b hab 5 (a + 1) d (Nat.le_refl _) (by omega) (by omega) hS hb hs
 refine ⟨?_, r3, r4⟩
 unfold D0n
 rw [b3t (n := (a : Int) + 1) (by omega) (by omega), show (a : Int) + 1 = ((a + 1 : Nat) : Int) by omega]
 rw [show ((5 - 5 : Nat) : Int) = 0 from rfl] at r1
 rw [r1, bS9]
 show _ = some ((Go.Sort.partialIns lt a b 5 (a + 1) d).2, (Go.Sort.partialIns lt a b 5 (a + 1) d).1.toList)
 rw [<- r2]
 cases r <;> rfl
end
end
end Go.Nw.WN
namespace Go.Nw.WN
noncomputable section
set_option maxHeartbeats 4000000
open Go.Nw.Ft3
open Go.Sort (swp PermIn SortedIn SWO Below)
theorem D5t : ((List.range 1025).all fun n => match z6d ((n : Nat) : Int) with | some (.ofNat L) => decide (L <= 11) && (decide (n < 2 ^ L) && decide (n = 0 \/ 2 ^ L <= 2 * n)) | _ => false) = true := by decide +kernel
theorem D29 {n : Nat} (h : n <= 1024) : ∃ L : Nat, z6d ((n : Nat) : Int) = some (L : Int) /\ L <= 11 /\ n < 2 ^ L /\ (n = 0 \/ 2 ^ L <= 2 * n) := by
 have g := List.all_eq_true.1 D5t n (List.mem_range.2 (by omega))
 split at g
 ·rename_i L e
  simp only [Bool.and_eq_true, decide_eq_true_eq] at g
  exact ⟨L, e, g.1, g.2.1, g.2.2⟩
 ·cases g
theorem D3t {y : Nat} (hy : y < 18446744073709551616) : IntKind.wrap .u64 (y : Int) = y := u4e hy
theorem D5w (x : Int) {m : Nat} (hm : m < 4096) : ∃ o : Nat, d05 .u64 x (m : Int) = (o : Int) /\ o <= m := by
 refine ⟨(BitVec.ofInt 64 x &&& BitVec.ofInt 64 (m : Int)).toNat, ?_, ?_⟩
 ·show IntKind.wrap .u64 (((BitVec.ofInt 64 x &&& BitVec.ofInt 64 (m : Int)).toNat : Nat) : Int) = _
  exact u4e (BitVec.isLt _)
 ·rw [BitVec.toNat_and, s9p m (by omega)]; exact Nat.and_le_right
theorem D52 (r : Int) : ∃ y, C9u r = some y := by
 unfold C9u
 rw [l5k (by decide), bS9, g29 (by decide), bS9, l5k (by decide)]
 exact ⟨_, rfl⟩
section
variable {S : Int -> Prop} {cmp : Int -> Int -> Option Int} {lt : Int -> Int -> Bool} (hc : z9d S cmp lt)
theorem D4b (a b : Nat) (d : Array Int) (hS : c33 S d) (hab : a + 12 < b) (hb : b <= d.size) (hs : d.size <= 1024) :
  ∃ e : Array Int, D0i d.toList (a : Int) (b : Int) cmp = some e.toList /\ PermIn a b d e /\ c33 S e := by
 have wl : wr ((b : Int) - (a : Int)) = ((b - a : Nat) : Int) := by rw [b3t (by omega) (by omega)]; omega
 obtain ⟨L, hL, hL11, hL1, hL2⟩ := D29 (show b - a <= 1024 by omega)
 have hLp : 2 ^ L <= 2 ^ 11 := Nat.pow_le_pow_right (by omega) hL11
 have hLpos := Nat.two_pow_pos L
 have hL2 : 2 ^ L <= 2 * (b - a) := by omega
 have hq : quo .i64 ((b - a : Nat) : Int) 4 = some (((b - a) / 4 : Nat) : Int) := by
  rw [D1n (by decide), Int.tdiv_eq_ediv_of_nonneg (by omega)]
  rw [show IntKind.i64.wrap (((b - a : Nat) : Int) / 4) = ((b - a : Nat) : Int) / 4 from b3t (by omega) (by omega)]
  congr 1
 have w2 : wr ((((b - a) / 4 : Nat) : Int) * 2) = (((b - a) / 4 * 2 : Nat) : Int) := by rw [b3t (by omega) (by omega)]; omega
 have w3 : wr ((a : Int) + (((b - a) / 4 * 2 : Nat) : Int)) = ((a + (b - a) / 4 * 2 : Nat) : Int) := by rw [b3t (by omega) (by omega)]; omega
 have w4 : wr (((a + (b - a) / 4 * 2 : Nat) : Int) + 1) = ((a + (b - a) / 4 * 2 + 1 : Nat) : Int) := by rw [b3t (by omega) (by omega)]; omega
 have w5 : wr (((a + (b - a) / 4 * 2 : Nat) : Int) - 1) = ((a + (b - a) / 4 * 2 - 1 : Nat) : Int) := by rw [b3t (by omega) (by omega)]; omega
 have hpw : D0m ((b - a : Nat) : Int) = some ((2 ^ L : Nat) : Int) := by
  unfold D0m
  rw [D3t (by omega), hL, bS9, l5k (by omega), bS9]
  congr 1
  show IntKind.wrap .u64 (1 * 2 ^ (Nat.min (L : Int).toNat IntKind.u64.bits)) = _
  rw [show Nat.min (L : Int).toNat IntKind.u64.bits = L from Nat.min_eq_left (by rw [show IntKind.u64.bits = 64 from rfl]; omega), Int.one_mul]
  rw [show ((2 : Int) ^ L) = ((2 ^ L : Nat) : Int) by simp]
  exact u4e (by omega)
 have hm1 : IntKind.wrap .u64 (((2 ^ L : Nat) : Int) - 1) = ((2 ^ L - 1 : Nat) : Int) := by
  rw [show ((2 ^ L : Nat) : Int) - 1 = ((2 ^ L - 1 : Nat) : Int) by omega]; exact u4e (by omega)
 obtain ⟨e, he, hP⟩ := j7u (f := C8l (a : Int) (b : Int) ((2 ^ L : Nat) : Int)) (a + (b - a) / 4 * 2 + 2) (fun (x : List Int × Int) k => (x.1, x.2, k)) (fun k x => a + (b - a) / 4 * 2 - 1 <= k /\ ∃ e : Array Int, x.1 = e.toList /\ PermIn a b d e /\ c33 S e) (fun r => ∃ e : Array Int, r = e.toList /\ PermIn a b d e /\ c33 S e) (fun x k hk hi => by
   obtain ⟨l, rr⟩ := x
   obtain ⟨hka, e, he, hPe, hSe⟩ := hi
   have he : l = e.toList := he
   subst he
   have hes := hPe.1
   ·obtain ⟨y, hy⟩ := D52 rr
    obtain ⟨o, ho, hom⟩ := D5w y.1 (show 2 ^ L - 1 < 4096 by omega)
    have wo : IntKind.wrap .i64 (o : Int) = (o : Int) := u4f (by omega)
    have other : ∃ t : Nat, t < b - a /\ C8l (a : Int) (b : Int) ((2 ^ L : Nat) : Int) (e.toList, rr, (k : Int)) = C9c (a : Int) e.toList (k : Int) y (t : Int) := by
     by_cases g : b - a <= o
     ·refine ⟨o - (b - a), by omega, ?_⟩
      unfold C8l
      have g' : ((b - a : Nat) : Int) <= (o : Int) := by omega
      have ws : wr ((o : Int) - ((b - a : Nat) : Int)) = ((o - (b - a) : Nat) : Int) := by rw [b3t (by omega) (by omega)]; omega
      simp only [wl, hq, bS9, w2, w3, w4, show (k : Int) <= ((a + (b - a) / 4 * 2 + 1 : Nat) : Int) by omega, decide_true, if_true, hy, hm1, ho, wo, g', ws]
     ·refine ⟨o, by omega, ?_⟩
      unfold C8l
      have g' : ¬ ((b - a : Nat) : Int) <= (o : Int) := by omega
      simp only [wl, hq, bS9, w2, w3, w4, show (k : Int) <= ((a + (b - a) / 4 * 2 + 1 : Nat) : Int) by omega, decide_true, if_true, hy, hm1, ho, wo, g', decide_false, fT9, if_false]
    obtain ⟨t, ht, hL11'⟩ := other
    have hk1 : k < e.size := by omega
    have hk2 : a + t < e.size := by omega
    obtain ⟨y2, hy2⟩ := D88 (d := e) (i := k) (j := a + t) (v := e[a + t]!) hk2
    have wt : wr ((a : Int) + (t : Int)) = ((a + t : Nat) : Int) := by rw [b3t (by omega) (by omega)]; omega
    refine .inl ⟨((swp e k (a + t)).toList, y.2), ?_, by omega, swp e k (a + t), rfl, Go.Sort.permIn_trans _ _ _ a b hPe (Go.Sort.swp_permIn e a b k (a + t) (by omega) (by omega) (by omega) (by omega) (by omega)), B4e hSe hk1 hk2⟩
    show C8l (a : Int) (b : Int) ((2 ^ L : Nat) : Int) (e.toList, rr, (k : Int)) = _
    rw [hL11']
    unfold C9c
    simp only [wt, z51 hk1, z51 hk2, bS9, Int.toNat_natCast, hy2]
    rw [B4f hk1 hk2, b3t (n := (k : Int) + 1) (by omega) (by omega)]) (fun x hi => by
   obtain ⟨l, rr⟩ := x
   obtain ⟨_, e, he, hPe, hSe⟩ := hi
   have he : l = e.toList := he
   subst he
   refine ⟨e.toList, ?_, e, rfl, hPe, hSe⟩
   unfold C8l
   simp only [wl, hq, bS9, w2, w3, w4, show ¬ ((a + (b - a) / 4 * 2 + 2 : Nat) : Int) <= ((a + (b - a) / 4 * 2 + 1 : Nat) : Int) by omega, decide_false, fT9, if_false]) (s := (d.toList, IntKind.wrap .u64 ((b - a : Nat) : Int))) (a + (b - a) / 4 * 2 - 1) (by omega) ⟨Nat.le_refl _, d, rfl, Go.Sort.permIn_refl d a b, hS⟩
 obtain ⟨e2, rfl, hP1, hP2⟩ := hP
 refine ⟨e2, ?_, hP1, hP2⟩
 unfold D0i D1s
 simp only [wl, show (8 : Int) <= ((b - a : Nat) : Int) by omega, decide_true, if_true, hpw, bS9, hq, w2, w3, w5]
 rw [he]; rfl
include hc
theorem D2q {a b s : Nat} {d : Array Int} (hS : c33 S d) (ha : a < d.size) (hb : b < d.size) (hs : s <= 100) :
  ∃ x y s' : Nat, C8t d.toList (a : Int) (b : Int) (s : Int) cmp = some ((x : Int), (y : Int), d.toList, (s' : Int)) /\ ((x = a /\ y = b) \/ (x = b /\ y = a)) /\ s' <= s + 1 := by
 obtain ⟨z, hz, hl⟩ := s38 hc hS hb ha
 unfold C8t
 simp only [z51 ha, z51 hb, bS9, hz]
 by_cases g : z < 0
 ·refine ⟨b, a, s + 1, ?_, .inr ⟨rfl, rfl⟩, Nat.le_refl _⟩
  simp only [g, decide_true, if_true]
  rw [b3t (n := (s : Int) + 1) (by omega) (by omega)]; rfl
 ·refine ⟨a, b, s, ?_, .inl ⟨rfl, rfl⟩, by omega⟩
  simp only [g, decide_false, fT9, if_false]
theorem D3c {a b c s : Nat} {d : Array Int} (hS : c33 S d) (ha : a < d.size) (hb : b < d.size) (hcc : c < d.size) (hs : s <= 90) :
  ∃ m s' : Nat, C9g d.toList (a : Int) (b : Int) (c : Int) (s : Int) cmp = some ((m : Int), d.toList, (s' : Int)) /\ (m = a \/ m = b \/ m = c) /\ s' <= s + 3 := by
 obtain ⟨x1, y1, s1, e1, h1, g1⟩ := D2q hc hS ha hb (s := s) (by omega)
 obtain ⟨x2, y2, s2, e2, h2, g2⟩ := D2q hc hS (a := y1) (b := c) (by omega) hcc (s := s1) (by omega)
 obtain ⟨x3, y3, s3, e3, h3, g3⟩ := D2q hc hS (a := x1) (b := x2) (by omega) (by omega) (s := s2) (by omega)
 refine ⟨y3, s3, ?_, by omega, by omega⟩
 unfold C9g
 simp only [e1, bS9, e2, e3]
theorem D2c {a s : Nat} {d : Array Int} (hS : c33 S d) (h1 : 1 <= a) (h2 : a + 1 < d.size) (hs : s <= 90) (h6 : d.size <= 1024) :
  ∃ m s' : Nat, C8s d.toList (a : Int) (s : Int) cmp = some ((m : Int), d.toList, (s' : Int)) /\ (m = a - 1 \/ m = a \/ m = a + 1) /\ s' <= s + 3 := by
 obtain ⟨m, s', e, h, g⟩ := D3c hc hS (a := a - 1) (b := a) (c := a + 1) (by omega) (by omega) h2 hs
 refine ⟨m, s', ?_, h, g⟩
 unfold C8s
 rw [b3t (n := (a : Int) - 1) (by omega) (by omega), b3t (n := (a : Int) + 1) (by omega) (by omega), show (a : Int) - 1 = ((a - 1 : Nat) : Int) by omega, show (a : Int) + 1 = ((a + 1 : Nat) : Int) by omega, e]
 rfl
omit hc in
theorem D5p (s j : Nat) (l : List Int) : ∃ h : Int, C9e (s : Int) (j : Int) l = some ((j : Int), h, l) := by
 unfold C9e
 split
 ·exact ⟨_, rfl⟩
 ·split
  ·exact ⟨_, rfl⟩
  ·exact ⟨_, rfl⟩
theorem D4x (a b : Nat) (d : Array Int) (hS : c33 S d) (hab : a + 12 < b) (hb : b <= d.size) (hs : d.size <= 1024) :
  ∃ (p : Nat) (h : Int), C9d d.toList (a : Int) (b : Int) cmp = some ((p : Int), h, d.toList) /\ a <= p /\ p < b := by
 have wl : wr ((b : Int) - (a : Int)) = ((b - a : Nat) : Int) := by rw [b3t (by omega) (by omega)]; omega
 have hq : quo .i64 ((b - a : Nat) : Int) 4 = some (((b - a) / 4 : Nat) : Int) := by
  rw [D1n (by decide), Int.tdiv_eq_ediv_of_nonneg (by omega)]
  rw [show IntKind.i64.wrap (((b - a : Nat) : Int) / 4) = ((b - a : Nat) : Int) / 4 from b3t (by omega) (by omega)]
  congr 1
 have m1 : wr ((a : Int) + wr ((((b - a) / 4 : Nat) : Int) * 1)) = ((a + (b - a) / 4 * 1 : Nat) : Int) := by rw [b3t (n := (((b - a) / 4 : Nat) : Int) * 1) (by omega) (by omega), b3t (by omega) (by omega)]; omega
 have m2 : wr ((a : Int) + wr ((((b - a) / 4 : Nat) : Int) * 2)) = ((a + (b - a) / 4 * 2 : Nat) : Int) := by rw [b3t (n := (((b - a) / 4 : Nat) : Int) * 2) (by omega) (by omega), b3t (by omega) (by omega)]; omega
 have m3 : wr ((a : Int) + wr ((((b - a) / 4 : Nat) : Int) * 3)) = ((a + (b - a) / 4 * 3 : Nat) : Int) := by rw [b3t (n := (((b - a) / 4 : Nat) : Int) * 3) (by omega) (by omega), b3t (by omega) (by omega)]; omega
 have fin : ∀ i j k s : Nat, a <= i -> i < b -> a <= j -> j < b -> a <= k -> k < b -> s <= 9 -> ∃ (p : Nat) (h : Int), C9f cmp d.toList (s : Int) (i : Int) (j : Int) (k : Int) = some ((p : Int), h, d.toList) /\ a <= p /\ p < b := by
  intro i j k s h1 h2 h3 h4 h5 h6 h7
  obtain ⟨m, s', e, g, _⟩ := D3c hc hS (a := i) (b := j) (c := k) (s := s) (by omega) (by omega) (by omega) (by omega)
  obtain ⟨h, e2⟩ := D5p s' m d.toList
  refine ⟨m, h, ?_, by omega, by omega⟩
  unfold C9f
  rw [e, bS9, e2]
 have g8 : (8 : Int) <= ((b - a : Nat) : Int) := by omega
 by_cases g : 50 <= b - a
 ·have g50 : (50 : Int) <= ((b - a : Nat) : Int) := by omega
  obtain ⟨i, s1, e1, h1, q1⟩ := D2c hc hS (a := a + (b - a) / 4 * 1) (s := 0) (by omega) (by omega) (by omega) hs
  obtain ⟨j, s2, e2, h2, q2⟩ := D2c hc hS (a := a + (b - a) / 4 * 2) (s := s1) (by omega) (by omega) (by omega) hs
  obtain ⟨k, s3, e3, h3, q3⟩ := D2c hc hS (a := a + (b - a) / 4 * 3) (s := s2) (by omega) (by omega) (by omega) hs
  obtain ⟨p, h, e, r1, r2⟩ := fin i j k s3 (by omega) (by omega) (by omega) (by omega) (by omega) (by omega) (by omega)
  refine ⟨p, h, ?_, r1, r2⟩
  unfold C9d
  rw [show ((0 : Nat) : Int) = 0 from rfl] at e1
  simp only [wl, hq, bS9, g8, g50, decide_true, if_true, m1, m2, m3, e1, e2, e3, e]
 ·have g50 : ¬ (50 : Int) <= ((b - a : Nat) : Int) := by omega
  obtain ⟨p, h, e, r1, r2⟩ := fin (a + (b - a) / 4 * 1) (a + (b - a) / 4 * 2) (a + (b - a) / 4 * 3) 0 (by omega) (by omega) (by omega) (by omega) (by omega) (by omega) (by omega)
  refine ⟨p, h, ?_, r1, r2⟩
  unfold C9d
  rw [show ((0 : Nat) : Int) = 0 from rfl] at e
  simp only [wl, hq, bS9, g8, g50, decide_true, if_true, decide_false, fT9, if_false, m1, m2, m3, e]
variable (hw : SWO lt)
def Fin (S : Int -> Prop) (lt : Int -> Int -> Bool) (a b : Nat) (d : Array Int) (out : Out (List Int × Int × Int × Int × Bool × Bool) (List Int)) : Prop :=
 (∃ r : Array Int, out = .br r.toList /\ PermIn a b d r /\ SortedIn lt a b r /\ c33 S r) \/
 ∃ (e : Array Int) (a' b' : Nat) (l : Int) (x y : Bool), out = .nx (e.toList, (a' : Int), (b' : Int), l, x, y) /\ a' <= b' /\ b' <= e.size /\ e.size = d.size /\ b' - a' < b - a /\ c33 S e /\ Below lt a' b' e /\
  ∀ R, PermIn a' b' e R -> SortedIn lt a' b' R -> PermIn a b d R /\ SortedIn lt a b R
omit hc in
theorem D2g {a b : Nat} {d e : Array Int} {out : Out (List Int × Int × Int × Int × Bool × Bool) (List Int)} (h : PermIn a b d e) (hf : Fin S lt a b e out) : Fin S lt a b d out := by
 rcases hf with ⟨r, h1, h2, h3, h4⟩ | ⟨e', a', b', l, x, y, h1, h2, h3, h4, h5, h6, h7, h8⟩
 ·exact .inl ⟨r, h1, Go.Sort.permIn_trans _ _ _ a b h h2, h3, h4⟩
 ·exact .inr ⟨e', a', b', l, x, y, h1, h2, h3, by rw [h4, h.1], h5, h6, h7, fun R g1 g2 => ⟨Go.Sort.permIn_trans _ _ _ a b h (h8 R g1 g2).1, (h8 R g1 g2).2⟩⟩
def C8z (S : Int -> Prop) (lt : Int -> Int -> Bool) (cmp : Int -> Int -> Option Int) (self : List Int -> Int -> Int -> Int -> (Int -> Int -> Option Int) -> Option (List Int)) (n : Nat) : Prop :=
 ∀ (d : Array Int) (a b : Nat) (l : Int), b - a < n -> a <= b -> b <= d.size -> d.size <= 1024 -> c33 S d -> Below lt a b d -> ∃ r : Array Int, self d.toList (a : Int) (b : Int) l cmp = some r.toList /\ PermIn a b d r /\ SortedIn lt a b r /\ c33 S r
include hw
theorem D28 {self : List Int -> Int -> Int -> Int -> (Int -> Int -> Option Int) -> Option (List Int)} (a b p : Nat) (d : Array Int) (wb wp : Bool) (l : Int) (hself : C8z S lt cmp self (b - a)) (hS : c33 S d) (hab : a + 12 < b) (hb : b <= d.size) (hs : d.size <= 1024) (hB : Below lt a b d) (hp1 : a <= p) (hp2 : p < b) :
  ∃ out, C9r self cmp (a : Int) (b : Int) wb wp l (p : Int) d.toList = some out /\ Fin S lt a b d out := by
 have hps : p < d.size := by omega
 have hcond : ∃ c, (if decide ((0 : Int) < (a : Int)) then (get d.toList (wr ((a : Int) - 1))).bind fun x25 => (get d.toList (p : Int)).bind fun x26 => (cmp x25 x26).bind fun y27 => some (!(decide (y27 < 0))) else some false) = some c /\ (c = true -> 0 < a /\ lt d[a - 1]! d[p]! = false) := by
  by_cases h0 : 0 < a
  ·have w1 : wr ((a : Int) - 1) = ((a - 1 : Nat) : Int) := by rw [b3t (by omega) (by omega)]; omega
   obtain ⟨z, hz, hl⟩ := s38 hc hS (show a - 1 < d.size by omega) hps
   refine ⟨!(decide (z < 0)), ?_, fun h => ⟨h0, ?_⟩⟩
   ·simp only [show (0 : Int) < (a : Int) by omega, decide_true, if_true, w1, z51 (show a - 1 < d.size by omega), z51 hps, bS9, hz]
   ·rw [<- hl]; simpa using h
  ·exact ⟨false, by simp only [show ¬ (0 : Int) < (a : Int) by omega, decide_false, fT9, if_false], fun h => by cases h⟩
 obtain ⟨c, hc1, hc2⟩ := hcond
 unfold C9r
 rw [hc1, bS9]
 cases c with
 | true =>
  obtain ⟨h0, hnl⟩ := hc2 rfl
  obtain ⟨q1, q2, q3⟩ := D56 hc a b p d hS hp1 hp2 hb (by omega)
  simp only [if_true, q1, bS9]
  obtain ⟨r1, r2, r3, r4, r5⟩ := Go.Sort.round_eq hw (Go.Sort.partitionEqual_holds lt) h0 hp1 hp2 hb hB hnl (mid := (Go.Sort.partitionEqual lt d a b p).1) (d4 := (Go.Sort.partitionEqual lt d a b p).2) rfl
  exact ⟨_, rfl, .inr ⟨(Go.Sort.partitionEqual lt d a b p).2, (Go.Sort.partitionEqual lt d a b p).1, b, l, wb, wp, rfl, r2, by omega, q3, by omega, q2, r4, r5⟩⟩
 | false =>
  obtain ⟨q1, q2, q3⟩ := D6b hc a b p d hS hp1 hp2 hb (by omega)
  simp only [fT9, if_false, q1, bS9]
  obtain ⟨mid, hmid⟩ : ∃ mid, mid = (Go.Sort.partition lt d a b p).1 := ⟨_, rfl⟩
  obtain ⟨ap, hap⟩ : ∃ ap, ap = (Go.Sort.partition lt d a b p).2.1 := ⟨_, rfl⟩
  obtain ⟨d4, hd4⟩ : ∃ d4, d4 = (Go.Sort.partition lt d a b p).2.2 := ⟨_, rfl⟩
  obtain ⟨r1, r2, r3, r4, r5, r6, r7⟩ := Go.Sort.round_part hw (Go.Sort.partition_holds lt) hp1 hp2 hb hB (mid := mid) (ap := ap) (d4 := d4) (by rw [hmid, hap, hd4])
  rw [<- hd4] at q2 q3
  simp only [<- hmid, <- hap, <- hd4]
  have wl : wr ((b : Int) - (a : Int)) = ((b - a : Nat) : Int) := by rw [b3t (by omega) (by omega)]; omega
  have hq : quo .i64 ((b - a : Nat) : Int) 8 = some (((b - a) / 8 : Nat) : Int) := by
   rw [D1n (by decide), Int.tdiv_eq_ediv_of_nonneg (by omega)]
   rw [show IntKind.i64.wrap (((b - a : Nat) : Int) / 8) = ((b - a : Nat) : Int) / 8 from b3t (by omega) (by omega)]
   congr 1
  have w1 : wr ((mid : Int) - (a : Int)) = ((mid - a : Nat) : Int) := by rw [b3t (by omega) (by omega)]; omega
  have w2 : wr ((b : Int) - (mid : Int)) = ((b - mid : Nat) : Int) := by rw [b3t (by omega) (by omega)]; omega
  have w3 : wr ((mid : Int) + 1) = ((mid + 1 : Nat) : Int) := by rw [b3t (by omega) (by omega)]; omega
  simp only [wl, hq, bS9, w1, w2, w3]
  by_cases g : mid - a < b - mid
  ·obtain ⟨L, e1, e2, e3, e4⟩ := hself d4 a mid l (by omega) r1 (by omega) (by omega) q2 r4
   obtain ⟨b1, b2⟩ := r6 L e2 e3
   simp only [show ((mid - a : Nat) : Int) < ((b - mid : Nat) : Int) by omega, decide_true, if_true, e1, bS9]
   exact ⟨_, rfl, .inr ⟨L, mid + 1, b, l, _, _, rfl, by omega, by rw [e2.1]; omega, by rw [e2.1]; exact q3, by omega, e4, b1, b2⟩⟩
  ·obtain ⟨L, e1, e2, e3, e4⟩ := hself d4 (mid + 1) b l (by omega) (by omega) (by omega) (by omega) q2 r5
   obtain ⟨b1, b2⟩ := r7 L e2 e3
   simp only [show ¬ ((mid - a : Nat) : Int) < ((b - mid : Nat) : Int) by omega, decide_false, fT9, if_false, e1, bS9]
   exact ⟨_, rfl, .inr ⟨L, a, mid, l, _, _, rfl, r1, by rw [e2.1]; omega, by rw [e2.1]; exact q3, by omega, e4, b1, b2⟩⟩
theorem D27 {self : List Int -> Int -> Int -> Int -> (Int -> Int -> Option Int) -> Option (List Int)} (a b p : Nat) (d : Array Int) (wb wp : Bool) (l h : Int) (hself : C8z S lt cmp self (b - a)) (hS : c33 S d) (hab : a + 12 < b) (hb : b <= d.size) (hs : d.size <= 1024) (hB : Below lt a b d) (hp1 : a <= p) (hp2 : p < b) :
  ∃ out, C9q self cmp (a : Int) (b : Int) wb wp l d.toList (p : Int) h = some out /\ Fin S lt a b d out := by
 unfold C9q
 split
 ·obtain ⟨q1, q2, q3⟩ := D58 hc a b d hS (by omega) hb (by omega)
  obtain ⟨s1, s2⟩ := Go.Sort.partialInsertionSort_holds hw d a b (by omega) hb hB
  rw [q1, bS9]
  obtain ⟨e, he⟩ : ∃ e, e = (Go.Sort.partialInsertionSort lt d a b).1 := ⟨_, rfl⟩
  rw [<- he] at q2 q3 s1 s2
  simp only [<- he]
  cases hq : (Go.Sort.partialInsertionSort lt d a b).2 with
  | true => exact ⟨_, rfl, .inl ⟨e, rfl, s1, s2 hq, q2⟩⟩
  | false =>
   obtain ⟨out, o1, o2⟩ := D28 hc hw a b p e wb wp l hself q2 hab (by omega) (by omega) (hB.perm hb s1) hp1 hp2
   exact ⟨out, o1, D2g s1 o2⟩
 ·exact D28 hc hw a b p d wb wp l hself hS hab hb hs hB hp1 hp2
theorem D26 {self : List Int -> Int -> Int -> Int -> (Int -> Int -> Option Int) -> Option (List Int)} (a b : Nat) (d : Array Int) (wb wp : Bool) (l : Int) (hself : C8z S lt cmp self (b - a)) (hS : c33 S d) (hab : a + 12 < b) (hb : b <= d.size) (hs : d.size <= 1024) (hB : Below lt a b d) :
  ∃ out, C9p self cmp (a : Int) (b : Int) wb wp d.toList l = some out /\ Fin S lt a b d out := by
 obtain ⟨p, h, e, p1, p2⟩ := D4x hc a b d hS hab hb hs
 unfold C9p
 rw [e, bS9]
 by_cases g : h = 2
 ·obtain ⟨q1, q2, q3⟩ := D6d cmp a b d hS (by omega) hb (by omega)
  have s1 := Go.Sort.reverseRange_holds d a b (by omega) hb
  have w1 : wr (wr ((b : Int) - 1) - wr ((p : Int) - (a : Int))) = ((b - 1 - (p - a) : Nat) : Int) := by
   rw [b3t (n := (b : Int) - 1) (by omega) (by omega), b3t (n := (p : Int) - (a : Int)) (by omega) (by omega), b3t (by omega) (by omega)]; omega
  simp only [g, decide_true, if_true, q1, bS9, w1]
  obtain ⟨out, o1, o2⟩ := D27 hc hw a b (b - 1 - (p - a)) (Go.Sort.reverseRange d a b) wb wp l 1 hself q2 hab (by omega) (by omega) (hB.perm hb s1) (by omega) (by omega)
  exact ⟨out, o1, D2g s1 o2⟩
 ·simp only [g, decide_false, fT9, if_false]
  exact D27 hc hw a b p d wb wp l h hself hS hab hb hs hB p1 p2
theorem D3m {self : List Int -> Int -> Int -> Int -> (Int -> Int -> Option Int) -> Option (List Int)} (a b : Nat) (d : Array Int) (wb wp : Bool) (l : Int) (hself : C8z S lt cmp self (b - a)) (hS : c33 S d) (hab : a <= b) (hb : b <= d.size) (hs : d.size <= 1024) (hB : Below lt a b d) :
  ∃ out, D0y self cmp (d.toList, (a : Int), (b : Int), l, wb, wp) = some out /\ Fin S lt a b d out := by
 have wl : wr ((b : Int) - (a : Int)) = ((b - a : Nat) : Int) := by rw [b3t (by omega) (by omega)]; omega
 unfold D0y
 by_cases g : b - a <= 12
 ·obtain ⟨q1, q2, q3⟩ := B3g hc a b d hS hb hab (by omega)
  obtain ⟨s1, s2⟩ := Go.Sort.insertionSort_holds hw d a b hab hb
  simp only [wl, show ((b - a : Nat) : Int) <= 12 by omega, decide_true, if_true, q1, bS9]
  exact ⟨_, rfl, .inl ⟨_, rfl, s1, s2, q2⟩⟩
 simp only [wl, show ¬ ((b - a : Nat) : Int) <= 12 by omega, decide_false, fT9, if_false]
 by_cases g0 : l = 0
 ·obtain ⟨q1, q2, q3⟩ := D5o hc a b d hS (by omega) hb (by omega)
  obtain ⟨s1, s2⟩ := Go.Sort.heapSort_holds hw d a b hab hb
  simp only [g0, decide_true, if_true, q1, bS9]
  exact ⟨_, rfl, .inl ⟨_, rfl, s1, s2, q2⟩⟩
 simp only [g0, decide_false, fT9, if_false]
 cases wb with
 | true =>
  simp only [Bool.not_true, fT9, if_false]
  exact D26 hc hw a b d true wp l hself hS (by omega) hb hs hB
 | false =>
  obtain ⟨e, e1, e2, e3⟩ := D4b (cmp := cmp) a b d hS (by omega) hb hs
  simp only [Bool.not_false, if_true, e1, bS9]
  obtain ⟨out, o1, o2⟩ := D26 hc hw a b e false wp (wr (l - 1)) hself e3 (by omega) (by rw [e2.1]; exact hb) (by rw [e2.1]; exact hs) (hB.perm hb e2)
  exact ⟨out, o1, D2g e2 o2⟩
theorem D55 : ∀ (n m : Nat) (d : Array Int) (a b : Nat) (l : Int) (wb wp : Bool), b - a <= n -> n <= m -> a <= b -> b <= d.size -> d.size <= 1024 -> c33 S d -> Below lt a b d ->
  ∃ r : Array Int, b0w (D0y (C8h m) cmp) (d.toList, (a : Int), (b : Int), l, wb, wp) = some r.toList /\ PermIn a b d r /\ SortedIn lt a b r /\ c33 S r := by
 intro n
 induction n with
 | zero =>
  intro m d a b l wb wp hn hm hab hb hs hS hB
  have hself : C8z S lt cmp (C8h m) (b - a) := fun d' a' b' l' h1 => by omega
  obtain ⟨out, o1, o2⟩ := D3m hc hw a b d wb wp l hself hS hab hb hs hB
  rcases o2 with ⟨r, rfl, h2, h3, h4⟩ | ⟨e', a', b', l', x, y, _, _, _, _, h5, _⟩
  ·exact ⟨r, b3d o1, h2, h3, h4⟩
  ·omega
 | succ n ih =>
  intro m d a b l wb wp hn hm hab hb hs hS hB
  have hself : C8z S lt cmp (C8h m) (b - a) := by
   intro d' a' b' l' h1 h2 h3 h4 h5 h6
   obtain ⟨m', rfl⟩ : ∃ m', m = m' + 1 := ⟨m - 1, by omega⟩
   obtain ⟨r, e1, e2⟩ := ih m' d' a' b' l' true true (by omega) (by omega) h2 h3 h4 h5 h6
   refine ⟨r, ?_, e2⟩
   show C8x (C8h m') d'.toList (a' : Int) (b' : Int) l' cmp = _
   unfold C8x
   rw [e1]; rfl
  obtain ⟨out, o1, o2⟩ := D3m hc hw a b d wb wp l hself hS hab hb hs hB
  rcases o2 with ⟨r, rfl, h2, h3, h4⟩ | ⟨e', a', b', l', x, y, rfl, h2, h3, h4, h5, h6, h7, h8⟩
  ·exact ⟨r, b3d o1, h2, h3, h4⟩
  ·obtain ⟨r, e1, e2, e3, e4⟩ := ih m e' a' b' l' x y (by omega) (by omega) h2 h3 (by omega) h6 h7
   obtain ⟨f1, f2⟩ := h8 r e2 e3
   exact ⟨r, (w91 o1).trans e1, f1, f2, e4⟩
end
theorem D6j {S : Int -> Prop} {cmp : Int -> Int -> Option Int} {lt : Int -> Int -> Bool} (hc : z9d S cmp lt) (hw : SWO lt) {x : List Int} (h0 : x ≠ []) (hx : x.length <= 1024) (hS : ∀ a ∈ x, S a) :
  ∃ r : List Int, z5q x cmp = some r /\ r.Perm x /\ SortedIn lt 0 r.toArray.size r.toArray := by
 have hS' : c33 S x.toArray := fun i hi => by
  rw [getElem!_pos _ i hi]
  exact hS _ (by simp)
 obtain ⟨L, hL, _⟩ := D29 hx
 obtain ⟨r, e1, e2, e3, e4⟩ := D55 hc hw x.length x.length x.toArray 0 x.length (L : Int) true true (by omega) (Nat.le_refl _) (Nat.zero_le _) (by simp) (by simpa using hx) hS' (.inl rfl)
 have hrs : r.size = x.length := by rw [e2.1]; simp
 refine ⟨r.toList, ?_, ?_, ?_⟩
 ·unfold z5q
  rw [if_pos (List.length_pos_iff.2 h0), D3t (by omega), hL, bS9]
  show C8x (C8h x.length) x ((0 : Nat) : Int) (x.length : Int) (L : Int) cmp = _
  unfold C8x
  rw [e1]; rfl
 ·have p3 := e2.2.2
  have q1 : ∀ (a : Array Int) (n : Nat), a.size = n -> a.extract 0 n = a := fun a n h => by subst h; simp
  rw [q1 _ _ hrs, q1 _ _ (by simp)] at p3
  simpa using p3
 ·rw [show r.toList.toArray = r by simp, hrs]; exact e3
end
end Go.Nw.WN
