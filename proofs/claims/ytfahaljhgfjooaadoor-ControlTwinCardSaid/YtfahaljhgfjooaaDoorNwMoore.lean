/- States that some word tells apart are told apart by a word shorter than there are states. -/
import Derived.Test.YtfahaljhgfjooaaDoorNwSearch
set_option linter.all false
namespace Go.Nw
section
variable {σ : Type} (sh : σ -> Int) (st : σ -> Nat -> σ) (N : Nat)
def Eqv : Nat -> σ -> σ -> Prop
 | 0, u, v => sh u = sh v
 | k + 1, u, v => sh u = sh v /\ ∀ x, x < N -> Eqv k (st u x) (st v x)
def goW : σ -> List Nat -> σ
 | u, [] => u
 | u, x :: l => goW (st u x) l
variable {sh st N}
theorem r2q : ∀ (k : Nat) (u : σ), Eqv sh st N k u u
 | 0, _ => rfl
 | k + 1, u => ⟨rfl, fun x _ => r2q k _⟩
theorem r1o : ∀ {k : Nat} {u v : σ}, Eqv sh st N k u v -> Eqv sh st N k v u
 | 0, _, _, h => Eq.symm h
 | k + 1, _, _, ⟨h1, h2⟩ => ⟨h1.symm, fun x hx => r1o (h2 x hx)⟩
theorem r17 : ∀ {k : Nat} {u v w : σ}, Eqv sh st N k u v -> Eqv sh st N k v w -> Eqv sh st N k u w
 | 0, _, _, _, h, h' => Eq.trans h h'
 | k + 1, _, _, _, ⟨h1, h2⟩, ⟨h3, h4⟩ => ⟨h1.trans h3, fun x hx => r17 (h2 x hx) (h4 x hx)⟩
theorem r1d : ∀ {k : Nat} {u v : σ}, Eqv sh st N (k + 1) u v -> Eqv sh st N k u v
 | 0, _, _, h => h.1
 | k + 1, _, _, ⟨h1, h2⟩ => ⟨h1, fun x hx => r1d (h2 x hx)⟩
theorem r3t {k j : Nat} {u v : σ} (h : k <= j) (he : Eqv sh st N j u v) : Eqv sh st N k u v := by
 induction j with
 | zero =>
  have : k = 0 := by omega
  subst this; exact he
 | succ j ih =>
  by_cases e : k = j + 1
  ·subst e; exact he
  ·exact ih (by omega) (r1d he)
variable {U : σ -> Prop} (hU : ∀ u, U u -> ∀ x, x < N -> U (st u x))
include hU
theorem r3u {k : Nat} (h : ∀ u, U u -> ∀ v, U v -> Eqv sh st N k u v -> Eqv sh st N (k + 1) u v) : ∀ d, ∀ u, U u -> ∀ v, U v -> Eqv sh st N k u v -> Eqv sh st N (k + d) u v := by
 have step : ∀ d, ∀ u, U u -> ∀ v, U v -> Eqv sh st N (k + d) u v -> Eqv sh st N (k + d + 1) u v := by
  intro d
  induction d with
  | zero => exact h
  | succ d ih => exact fun u hu v hv ⟨h1, h2⟩ => ⟨h1, fun x hx => ih _ (hU u hu x hx) _ (hU v hv x hx) (h2 x hx)⟩
 intro d
 induction d with
 | zero => exact fun u _ v _ he => he
 | succ d ih => exact fun u hu v hv he => step d u hu v hv (ih u hu v hv he)
omit hU in
open Classical in
theorem r2p {u0 : σ} (h0 : U u0) : ∀ k, (∀ j, j < k -> ¬ ∀ u, U u -> ∀ v, U v -> Eqv sh st N j u v -> Eqv sh st N (j + 1) u v) -> ∃ R : List σ, k + 1 <= R.length /\ (∀ r ∈ R, U r) /\ R.Pairwise fun a b => ¬ Eqv sh st N k a b
 | 0, _ => ⟨[u0], by simp, fun r hr => by simp at hr; subst hr; exact h0, by simp⟩
 | k + 1, h => by
  obtain ⟨R, h1, h2, h3⟩ := r2p h0 k fun j hj => h j (by omega)
  have hk := h k (by omega)
  simp only [Classical.not_forall] at hk
  obtain ⟨u, hu, v, hv, he, hn⟩ := hk
  have hf : R.length <= (R.filter fun r => decide (¬ Eqv sh st N k r u)).length + 1 := by
   clear h1 h2
   induction R with
   | nil => simp
   | cons r R ih =>
    rw [List.pairwise_cons] at h3
    by_cases hr : Eqv sh st N k r u
    ·have : (R.filter fun r => decide (¬ Eqv sh st N k r u)) = R := by
      rw [List.filter_eq_self]
      intro r' hr'
      rw [decide_eq_true_eq]
      exact fun h' => h3.1 r' hr' (r17 hr (r1o h'))
     rw [List.filter_cons, if_neg (by simpa using hr), this]; simp
    ·rw [List.filter_cons, if_pos (by simpa using hr)]
     have := ih h3.2
     simp only [List.length_cons]; omega
  have hmem : ∀ r ∈ (R.filter fun r => decide (¬ Eqv sh st N k r u)), r ∈ R /\ ¬ Eqv sh st N k r u := fun r hr => by
   rw [List.mem_filter, decide_eq_true_eq] at hr; exact hr
  refine ⟨u :: v :: (R.filter fun r => decide (¬ Eqv sh st N k r u)), by simp only [List.length_cons]; omega, fun r hr => ?_, ?_⟩
  ·simp only [List.mem_cons] at hr
   rcases hr with rfl | rfl | hr
   ·exact hu
   ·exact hv
   ·exact h2 r (hmem r hr).1
  ·rw [List.pairwise_cons, List.pairwise_cons]
   refine ⟨fun r hr => ?_, fun r hr => ?_, ?_⟩
   ·rcases List.mem_cons.1 hr with rfl | hr
    ·exact hn
    ·exact fun h' => (hmem r hr).2 (r1o (r1d h'))
   ·exact fun h' => (hmem r hr).2 (r1o (r17 he (r1d h')))
   ·exact (h3.sublist List.filter_sublist).imp fun hab h' => hab (r1d h')
omit hU in
theorem r2r : ∀ {k : Nat} {u v : σ}, ¬ Eqv sh st N k u v -> ∃ l : List Nat, l.length <= k /\ (∀ x ∈ l, x < N) /\ sh (goW st u l) ≠ sh (goW st v l)
 | 0, u, v, h => ⟨[], by simp, by simp, h⟩
 | k + 1, u, v, h => by
  by_cases h1 : sh u = sh v
  ·have : ∃ x, x < N /\ ¬ Eqv sh st N k (st u x) (st v x) := by
    refine Classical.byContradiction fun hn => h ⟨h1, fun x hx => Classical.byContradiction fun h' => hn ⟨x, hx, h'⟩⟩
   obtain ⟨x, hx, hx2⟩ := this
   obtain ⟨l, a, b, c⟩ := r2r hx2
   exact ⟨x :: l, by simp; omega, fun y hy => by rcases List.mem_cons.1 hy with rfl | hy; exact hx; exact b y hy, c⟩
  ·exact ⟨[], by simp, by simp, h1⟩
omit hU in
theorem r3b : ∀ {l : List Nat} {u v : σ}, (∀ x ∈ l, x < N) -> sh (goW st u l) ≠ sh (goW st v l) -> ¬ Eqv sh st N l.length u v
 | [], u, v, _, h => h
 | x :: l, u, v, hl, h => fun he => r3b (fun y hy => hl y (List.mem_cons_of_mem _ hy)) h (he.2 x (hl x List.mem_cons_self))
theorem r4g {M : Nat} (hM : ∀ R : List σ, R.Nodup -> (∀ r ∈ R, U r) -> R.length <= M) {u v : σ} (hu : U u) (hv : U v) {l : List Nat} (hl : ∀ x ∈ l, x < N) (h : sh (goW st u l) ≠ sh (goW st v l)) :
  ∃ w : List Nat, w.length <= M /\ (∀ x ∈ w, x < N) /\ sh (goW st u w) ≠ sh (goW st v w) := by
 have hst : ∃ j, j <= M /\ ∀ u, U u -> ∀ v, U v -> Eqv sh st N j u v -> Eqv sh st N (j + 1) u v := by
  refine Classical.byContradiction fun hn => ?_
  obtain ⟨R, h1, h2, h3⟩ := r2p (sh := sh) (st := st) (N := N) hu (M + 1) fun j hj hs => hn ⟨j, by omega, hs⟩
  have hnd : R.Nodup := h3.imp fun {a b} hab (e : a = b) => hab (by rw [e]; exact r2q _ _)
  have := hM R hnd h2
  omega
 obtain ⟨j, hj, hs⟩ := hst
 have hne : ¬ Eqv sh st N j u v := fun he => by
  have h1 := r3u hU hs l.length u hu v hv he
  exact r3b hl h (r3t (by omega) h1)
 obtain ⟨w, a, b, c⟩ := r2r hne
 exact ⟨w, by omega, b, c⟩
end
end Go.Nw
