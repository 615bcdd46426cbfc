/- Rows of one's own: slices whose elements are slices of one's own, written in place. -/
import Derived.Test.YtgkhgpphjhefaaaDoorNwOwn
set_option linter.all false
namespace Go.Nw
def eW (w : AV) : List AV := [w]
theorem y8e {l : List AV} {n : Nat} {v : AV} : (List.map eW l).set n [v] = List.map eW (l.set n v) := by rw [List.map_set]; rfl
attribute [go_sem] eW y8e
abbrev nilS : AV := .v (.slice none 0 0)
def s8i (v : AV) (hs : List AV) (k : Nat) : Prop := b07 v k /\ ∀ w ∈ hs, b07 w k
structure RR {α : Type} (h : Heap) (v : AV) (hs : List AV) (sz : Nat) (f : α -> List AV) (rows : List (List α)) : Prop where
 top : b2a h v 1 (List.map eW hs)
 len : hs.length = rows.length
 row : ∀ (i : Nat) w r, hs[i]? = some w -> rows[i]? = some r -> b2a h w sz (List.map f r)
 off : ∀ (i : Nat) w, hs[i]? = some w -> ∀ k, ¬ b07 v k -> b07 w k
 apart : ∀ (i j : Nat) w u, i ≠ j -> hs[i]? = some w -> hs[j]? = some u -> ∀ k, ¬ b07 w k -> b07 u k
section
variable {α : Type} {h h' : Heap} {v w : AV} {hs : List AV} {sz : Nat} {f : α -> List AV} {rows : List (List α)} {i : Int} {x : List α}
theorem y8c {k iq lo n : Nat} (hk : s8i (.rs iq lo n) hs k) : ¬ iq = k := hk.1
theorem s1l {k : Nat} (h1 : b07 v k) (h2 : ∀ (i : Nat) w, hs[i]? = some w -> b07 w k) : s8i v hs k := ⟨h1, fun w hw => by
 obtain ⟨i, hi, rfl⟩ := List.getElem_of_mem hw
 exact h2 i _ (gG9 hi)⟩
theorem s1c {k : Nat} (hk : ¬ s8i v hs k) : ¬ b07 v k \/ ∃ (i : Nat) (w : AV), hs[i]? = some w /\ ¬ b07 w k := by
 by_cases h1 : b07 v k
 ·refine .inr (Classical.byContradiction fun hn => hk (s1l h1 fun i w hw => Classical.byContradiction fun h2 => hn ⟨i, w, hw, h2⟩))
 ·exact .inl h1
theorem r8j (R : RR h v hs sz f rows) (hk : ∀ j, ¬ s8i v hs j -> j < h.nx -> h'.ob j = h.ob j) (hn : h.nx <= h'.nx) : RR h' v hs sz f rows :=
 ⟨b3x R.top (fun j hj hl => hk j (fun hh => hj hh.1) hl) hn, R.len,
  fun i w r hw hr => b3x (R.row i w r hw hr) (fun j hj hl => hk j (fun hh => hj (hh.2 w (mG9 hw))) hl) hn, R.off, R.apart⟩
theorem l3r {α : Type} {f : α -> List AV} {l : List α} {k : Int -> Prop} (hv : b2a h v sz (List.map f l)) : @l58 v ⟨k⟩ = k (List.length l : Int) := by
 rcases hv with ⟨rfl, h1⟩ | ⟨iq, rfl, h2, h3⟩
 ·have e : l = [] := by simpa using h1
  subst e; rw [d2f]; rfl
 ·rw [d2g, List.length_map]
theorem s1q {e : List α -> List AV} (R : RR h v hs sz f rows) (he : ∀ r, e r = [.fs sz (List.map f r)]) (hf : ∀ a, ∀ c ∈ f a, Frz c) (hl : ∀ a, (f a).length = sz) : Fz h v (.fs 1 (List.map e rows)) := by
 rcases R.top with ⟨rfl, h1⟩ | ⟨iq, rfl, h2, h3⟩
 ·have e1 : hs = [] := by simpa using h1
  have := R.len
  have e2 : rows = [] := by cases rows with | nil => rfl | cons => simp_all
  rw [e2]; exact .nil 1
 ·refine .rs iq 0 _ 1 _ _ h2 (by simp) (by simp [R.len]) (fun d hd => ?_) (fun i j c d h1 h2 => ?_)
  ·obtain ⟨a, _, rfl⟩ := List.mem_map.1 hd; rw [he]; rfl
  ·rw [Nat.zero_add] at h1
   obtain ⟨e1, he1, hc⟩ := b9m h1
   obtain ⟨e2, he2, hd⟩ := b9m h2
   rw [List.getElem?_map] at he1 he2
   cases hw : hs[i]? with
   | none => rw [hw] at he1; cases he1
   | some w =>
    cases hr : rows[i]? with
    | none => rw [hr] at he2; cases he2
    | some r =>
     rw [hw] at he1; rw [hr] at he2
     simp only [Option.map_some, iE9] at he1 he2
     subst he1 he2
     rw [he] at hd
     cases j with
     | zero => simp [eW] at hc hd; subst hc hd; exact r8x (R.row i w r hw hr) hf hl
     | succ j => simp [eW] at hc
def x8w (v : AV) (hs : List AV) (j : Nat) : Bool := u8s v j || hs.any fun w => u8s w j
theorem x9s {j : Nat} (hj : ¬ s8i v hs j) : x8w v hs j = true := by
 unfold x8w
 rcases s1c hj with h1 | ⟨i, w, hw, h1⟩
 ·rw [x9c h1]; rfl
 ·rw [Bool.or_eq_true]; exact .inr (List.any_eq_true.2 ⟨w, mG9 hw, x9c h1⟩)
theorem x9t (R : RR h v hs sz f rows) {j : Nat} (hj : s8i v hs j) : x8w v hs j = false := by
 unfold x8w
 rw [Bool.or_eq_false_iff]
 refine ⟨x9d R.top hj.1, ?_⟩
 rw [List.any_eq_false]
 intro w hw
 obtain ⟨i, hi, rfl⟩ := List.getElem_of_mem hw
 have hi' : i < rows.length := by rw [<- R.len]; exact hi
 rw [x9d (R.row i _ _ (gG9 hi) (gG9 hi')) (hj.2 _ hw)]
 simp
theorem x9r {F : Nat -> Bool} (R : RR h v hs sz f rows) (hF : ∀ j, ¬ s8i v hs j -> F j = true) : RR (h.only F) v hs sz f rows :=
 r8j R (fun j hj _ => c3x (hF j hj)) (Nat.le_refl _)
end
theorem b8s {h : Heap} {v : AV} {sz : Nat} {rows : List (List AV)} (hv : b2a h v sz rows) : ∀ i, h.nx <= i -> b07 v i := fun _ hi => b1v hv hi
theorem l1m {n : Nat} : (n <= n) = True := by simp
theorem l1n {n : Nat} : (n <= nxs n) = True := by simp only [nxs, eq_iff_iff, iff_true]; omega
theorem l1r {n : Nat} : (n <= nxs (nxs n)) = True := by simp only [nxs, eq_iff_iff, iff_true]; omega
theorem l1s {n : Nat} : (n <= nxs (nxs (nxs n))) = True := by simp only [nxs, eq_iff_iff, iff_true]; omega
theorem l1t {n : Nat} : (n <= nxs (nxs (nxs (nxs n)))) = True := by simp only [nxs, eq_iff_iff, iff_true]; omega
theorem l1u {n : Nat} : (n <= nxs (nxs (nxs (nxs (nxs n))))) = True := by simp only [nxs, eq_iff_iff, iff_true]; omega
theorem l1v {n : Nat} : (n <= nxs (nxs (nxs (nxs (nxs (nxs n)))))) = True := by simp only [nxs, eq_iff_iff, iff_true]; omega
theorem l1w {n : Nat} : (n <= nxs (nxs (nxs (nxs (nxs (nxs (nxs n))))))) = True := by simp only [nxs, eq_iff_iff, iff_true]; omega
theorem l1x {n : Nat} : (n <= nxs (nxs (nxs (nxs (nxs (nxs (nxs (nxs n)))))))) = True := by simp only [nxs, eq_iff_iff, iff_true]; omega
theorem l1y {n : Nat} : (n <= nxs (nxs (nxs (nxs (nxs (nxs (nxs (nxs (nxs n))))))))) = True := by simp only [nxs, eq_iff_iff, iff_true]; omega
theorem l1o {n : Nat} : (n <= nxs (nxs (nxs (nxs (nxs (nxs (nxs (nxs (nxs (nxs n)))))))))) = True := by simp only [nxs, eq_iff_iff, iff_true]; omega
theorem l1p {n : Nat} : (n <= nxs (nxs (nxs (nxs (nxs (nxs (nxs (nxs (nxs (nxs (nxs n))))))))))) = True := by simp only [nxs, eq_iff_iff, iff_true]; omega
theorem l1q {n : Nat} : (n <= nxs (nxs (nxs (nxs (nxs (nxs (nxs (nxs (nxs (nxs (nxs (nxs n)))))))))))) = True := by simp only [nxs, eq_iff_iff, iff_true]; omega
attribute [go_sem] l1m l1n l1r l1s l1t l1u l1v l1w l1x l1y l1o l1p l1q
theorem l2f {a b} : b2d (.fp a b) = true := rfl
theorem g84 {a b} : cellsOf (.fp a b) = [.fp a b] := rfl
theorem l2i {a b c} : b2d (.rp a b c) = true := rfl
theorem g86 {a b c} : cellsOf (.rp a b c) = [.rp a b c] := rfl
theorem l2e {a b c} : b2d (.fn a b c) = true := rfl
theorem g83 {a b c} : cellsOf (.fn a b c) = [.fn a b c] := rfl
theorem l2l {a} : b2d (.v (.string a)) = true := rfl
attribute [go_sem] l2f g84 l2i g86 l2e g83 l2l
theorem l15 {id lo n i : Nat} (h : b07 (.rs id lo n) i) : ¬ id = i := h
end Go.Nw
