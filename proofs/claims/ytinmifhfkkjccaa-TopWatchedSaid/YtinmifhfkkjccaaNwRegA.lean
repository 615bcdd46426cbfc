/- A region whose later operations look only at what an earlier one of unknown order leaves alone: a rule for .regW with looks behind the change. -/
import Derived.Test.YtinmifhfkkjccaaP1
import Derived.Test.YtinmifhfkkjccaaNwHeap
set_option linter.all false
namespace Go.Nw
def K0e (l : List XO) (n : Nat) (prs : List (Nat × Nat)) (ss : List Nat) : Bool :=
 prs.all fun p => p.2 == n && decide (n < p.1) && match l[p.1]? with
  | some x => (match x.op.lookX with | .t s => ss.contains s && (l.drop p.1).all (fun y => y.dst != some s) | _ => !x.op.look)
  | none => true
def J94 (ss : List Nat) (z : Nat) (t : Slots) : Prop := ∀ s ∈ ss, ∀ id, E65 (t s) = some id -> id = z
theorem K1e {O : Orac} {l : List XO} {n z : Nat} {prs : List (Nat × Nat)} {ss : List Nat} {Q : XExit -> Slots -> Heap -> Prop} {t : Slots} {h : Heap} (hn : n < l.length) (hp : K0e l n prs ss = true)
  (hw : b0d O (l.take n) (fun t1 h1 => b0d O ((l.drop n).take 1) (fun t2 h2 => h2.ob z = h1.ob z /\ b0d O (l.drop (n + 1)) (fun t3 h3 => J94 ss z t3 /\ Q .normal t3 h3) t2 h2) t1 h1) t h) : cw O (.regW l prs) Q t h := by
 letI : Cfg := ⟨fun _ => none, fun _ => false⟩
 have e1 : (l.drop n).take 1 = [l[n]] := by rw [List.drop_eq_getElem_cons hn]; rfl
 rw [e1] at hw
 obtain ⟨S, h0, hS, hK⟩ := d6s hw
 obtain ⟨s', h1, h2, h3⟩ := c5b hK
 obtain ⟨S3, g0, gS, gK⟩ := d6s h3
 have hL : (l.take n).length = n := by rw [List.length_take]; omega
 rw [hL] at h1 h2
 have e4 : (l.drop (n + 1)).length = l.length - n - 1 := by rw [List.length_drop]; omega
 refine ⟨fun i => if i <= n then S i else S3 (i - n - 1), ?_, fun i x hx => ?_, ?_, ?_⟩
 ·simp only [Nat.zero_le, if_true]; exact h0
 ·by_cases hi : i < n
  ·have e1 : i <= n := Nat.le_of_lt hi
   have e2 : i + 1 <= n := hi
   simp only [e1, e2, if_true]
   exact hS i x (by rw [List.getElem?_take, if_pos hi]; exact hx)
  ·have e2 : ¬ i + 1 <= n := by omega
   by_cases e : i = n
   ·subst e
    have hx' : x = l[i] := by rw [gG9 hn] at hx; exact (Option.some.inj hx).symm
    subst hx'
    have e4 : i + 1 - i - 1 = 0 := by omega
    simp only [Nat.le_refl, if_true, e2, if_false, e4]
    rw [g0]; exact h1
   ·obtain ⟨k, rfl⟩ : ∃ k, i = n + 1 + k := ⟨i - n - 1, by omega⟩
    have e3 : ¬ n + 1 + k <= n := by omega
    have e6 : n + 1 + k - n - 1 = k := by omega
    have e7 : n + 1 + k + 1 - n - 1 = k + 1 := by omega
    simp only [e3, e2, if_false, e6, e7]
    exact gS k x (by rw [List.getElem?_drop]; exact hx)
 ·intro j k x y id hjk hj hk hlook _ _ href
  have hq := List.all_eq_true.1 hp (j, k) hjk
  simp only [Bool.and_eq_true, beq_iff_eq, decide_eq_true_eq] at hq
  obtain ⟨⟨rfl, hjn⟩, hm⟩ := hq
  rw [hj] at hm
  dsimp only at hm
  have hjl : j < l.length := (gS9.1 hj).1
  have e2 : ¬ k + 1 <= k := by omega
  have e3 : ¬ j <= k := by omega
  have e5 : k + 1 - k - 1 = 0 := by omega
  simp only [Nat.le_refl, if_true, e2, if_false, e5]
  rw [g0]
  simp only [e3, if_false] at href
  cases hx : x.op.lookX with
  | t s =>
   rw [hx] at hm href
   simp only [Bool.and_eq_true, List.contains_iff_mem, List.all_eq_true, bne_iff_ne, ne_eq] at hm
   obtain ⟨a, rfl⟩ : ∃ a, j = k + 1 + a := ⟨j - k - 1, by omega⟩
   have e6 : k + 1 + a - k - 1 = a := by omega
   rw [e6] at href
   have same : ∀ d, a + d <= l.length - k - 1 -> (S3 (a + d)).t s = (S3 a).t s := by
    intro d
    induction d with
    | zero => intro _; rfl
    | succ d ih =>
     intro hd
     obtain ⟨y, hy⟩ : ∃ y, l[k + 1 + a + d]? = some y := ⟨_, gG9 (by omega)⟩
     have hw := gS (a + d) y (by rw [List.getElem?_drop, show k + 1 + (a + d) = k + 1 + a + d by omega]; exact hy)
     have hne : y.dst ≠ some s := hm.2 y (by
      have : (l.drop (k + 1 + a))[d]? = some y := by rw [List.getElem?_drop]; exact hy
      exact mG9 this)
     rw [show a + (d + 1) = a + d + 1 by omega, v02 hw hne]
     exact ih (by omega)
   have := same (l.length - k - 1 - a) (by omega)
   rw [show a + (l.length - k - 1 - a) = l.length - k - 1 by omega] at this
   have hz : id = z := by
    have hg := gK.1 s hm.1 id
    rw [e4] at hg
    exact hg (by rw [this]; exact href)
   rw [hz]; exact h2
  | tf s => rw [hx] at hm; simp [hlook] at hm
  | c v => rw [hx] at hm; simp [hlook] at hm
  | f nm => rw [hx] at hm; simp [hlook] at hm
  | g a b => rw [hx] at hm; simp [hlook] at hm
 ·have e2 : ¬ l.length <= n := by omega
  simp only [e2, if_false]
  rw [<- e4]
  exact gK.2
theorem K1d {O : Orac} {l : List XO} {n : Nat} {prs : List (Nat × Nat)} {b : XCode} {Q : XExit -> Slots -> Heap -> Prop} {t : Slots} {h : Heap} (ss : List Nat) (z : Nat) (post : Slots -> Heap -> Prop) (hn : n < l.length) (hp : K0e l n prs ss = true)
  (h1 : ∀ K : Slots -> Heap -> Prop, (∀ t h, post t h -> K t h) -> b0d O (l.take n) (fun t1 h1 => b0d O ((l.drop n).take 1) (fun t2 h2 => h2.ob z = h1.ob z /\ b0d O (l.drop (n + 1)) (fun t3 h3 => J94 ss z t3 /\ K t3 h3) t2 h2) t1 h1) t h)
  (h2 : ∀ t h, post t h -> cw O b Q t h) : cw O (.seq (.regW l prs) b) Q t h := by
 rw [b9z]; exact K1e hn hp (h1 _ h2)
theorem K0a {O : Orac} {l : List XO} {n : Nat} {prs : List (Nat × Nat)} {b : XCode} {Q : XExit -> Slots -> Heap -> Prop} {t : Slots} {h : Heap} (ss : List Nat) (hn : n < l.length) (hp : u5d l n prs ss = true)
  (h1 : ∀ K : Slots -> Heap -> Prop, (∀ t h, cw O b Q t h -> K t h) -> b0d O (l.take n) (fun t1 h1 => b0d O ((l.drop n).take 1) (fun t2 h2 => u4i ss t1 h1 h2 /\ b0d O (l.drop (n + 1)) K t2 h2) t1 h1) t h) : cw O (.seq (.regW l prs) b) Q t h := by
 rw [b9z]; exact u7h hn hp (h1 _ fun _ _ h2 => h2)
theorem J9h {n n' q sz sz' id id' m m' : Nat} {cs cs' : List AV} {r r' u s : AV} {t : Slots} {h : Heap} (ht : t n = .rp id 0 0) (ho : h.ob id = some (m, [cs])) (hl : cs.length = sz) (ht' : t n' = .rp id' 0 0) (ho' : h.ob id' = some (m', [cs'])) (hl' : cs'.length = sz') (hu : t q = u)
  (hz : Fz h (.agg cs) r) (hz' : Fz h (.agg cs') r') (hz2 : Fz h u s) : b4b [.cell n true sz, .cell n' true sz', .t q] (.tup [r, r', s]) [] ⟨t, h⟩ := by
 refine .inl ⟨rfl, [.agg cs, .agg cs', u], ?_, d8a (.cons hz (.cons hz' (.cons hz2 .nil)))⟩
 subst hl; subst hl'; subst hu
 simp [c46, eff, St.ev, ht, ho, ht', ho']
end Go.Nw
