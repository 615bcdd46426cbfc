/- Rows of one's own: slices whose elements are slices of one's own, written in place. -/
import Derived.Test.YtfahaljhgfjooaaDoorNwOwn
set_option linter.all false
namespace Go.Nw
section
variable {α : Type} {h h' : Heap} {v w : AV} {hs : List AV} {sz : Nat} {f : α -> List AV} {rows : List (List α)} {i : Int} {x : List α}
end
theorem b7q {h : Heap} {v : AV} {sz : Nat} {rows : List (List AV)} (hv : b2v h v sz rows) : ∀ i, h.nx <= i -> b1y v i := fun _ hi => b2e hv hi
theorem j4o {n : Nat} : (n <= n) = True := by simp
theorem j4p {n : Nat} : (n <= nxs n) = True := by simp only [nxs, eq_iff_iff, iff_true]; omega
theorem j4t {n : Nat} : (n <= nxs (nxs n)) = True := by simp only [nxs, eq_iff_iff, iff_true]; omega
theorem j4u {n : Nat} : (n <= nxs (nxs (nxs n))) = True := by simp only [nxs, eq_iff_iff, iff_true]; omega
theorem j4v {n : Nat} : (n <= nxs (nxs (nxs (nxs n)))) = True := by simp only [nxs, eq_iff_iff, iff_true]; omega
theorem j4w {n : Nat} : (n <= nxs (nxs (nxs (nxs (nxs n))))) = True := by simp only [nxs, eq_iff_iff, iff_true]; omega
theorem j4x {n : Nat} : (n <= nxs (nxs (nxs (nxs (nxs (nxs n)))))) = True := by simp only [nxs, eq_iff_iff, iff_true]; omega
theorem j4y {n : Nat} : (n <= nxs (nxs (nxs (nxs (nxs (nxs (nxs n))))))) = True := by simp only [nxs, eq_iff_iff, iff_true]; omega
theorem j4z {n : Nat} : (n <= nxs (nxs (nxs (nxs (nxs (nxs (nxs (nxs n)))))))) = True := by simp only [nxs, eq_iff_iff, iff_true]; omega
theorem j40 {n : Nat} : (n <= nxs (nxs (nxs (nxs (nxs (nxs (nxs (nxs (nxs n))))))))) = True := by simp only [nxs, eq_iff_iff, iff_true]; omega
theorem j4q {n : Nat} : (n <= nxs (nxs (nxs (nxs (nxs (nxs (nxs (nxs (nxs (nxs n)))))))))) = True := by simp only [nxs, eq_iff_iff, iff_true]; omega
theorem j4r {n : Nat} : (n <= nxs (nxs (nxs (nxs (nxs (nxs (nxs (nxs (nxs (nxs (nxs n))))))))))) = True := by simp only [nxs, eq_iff_iff, iff_true]; omega
theorem j4s {n : Nat} : (n <= nxs (nxs (nxs (nxs (nxs (nxs (nxs (nxs (nxs (nxs (nxs (nxs n)))))))))))) = True := by simp only [nxs, eq_iff_iff, iff_true]; omega
attribute [go_sem] j4o j4p j4t j4u j4v j4w j4x j4y j4z j40 j4q j4r j4s
theorem j48 {a b} : b1v (.fp a b) = true := rfl
theorem g2v {a b} : cellsOf (.fp a b) = [.fp a b] := rfl
theorem j5b {a b c} : b1v (.rp a b c) = true := rfl
theorem g2x {a b c} : cellsOf (.rp a b c) = [.rp a b c] := rfl
theorem j47 {a b c} : b1v (.fn a b c) = true := rfl
theorem g2u {a b c} : cellsOf (.fn a b c) = [.fn a b c] := rfl
theorem j5e {a} : b1v (.v (.string a)) = true := rfl
attribute [go_sem] j48 g2v j5b g2x j47 g2u j5e
end Go.Nw
