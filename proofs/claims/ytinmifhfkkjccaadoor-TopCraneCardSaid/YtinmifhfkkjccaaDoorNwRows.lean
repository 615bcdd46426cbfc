/- Rows of one's own: slices whose elements are slices of one's own, written in place. -/
import Derived.Test.YtinmifhfkkjccaaDoorNwOwn
set_option linter.all false
namespace Go.Nw
section
variable {α:Type} {h h':Heap} {v w:AV} {hs:List AV} {sz:Nat} {f:α->List AV} {rows:List (List α)} {i:Int} {x:List α}
theorem l3r {α:Type} {f:α->List AV} {l:List α} {k:Int->Prop} (hv:b2a h v sz (List.map f l)):@l58 v ⟨k⟩=k (List.length l:Int):=by
 rcases hv with ⟨rfl,h1⟩|⟨iq,rfl,h2,h3⟩
 ·have e:l=[]:=by simpa using h1
  subst e; rw [d2f]; rfl
 ·rw [d2g,List.length_map]
end
theorem b8s {h:Heap} {v:AV} {sz:Nat} {rows:List (List AV)} (hv:b2a h v sz rows):∀ i,h.nx<=i->b07 v i:=fun _ hi=>b1v hv hi
theorem l1m {n:Nat}:(n<=n)=True:=by simp
theorem l1n {n:Nat}:(n<=nxs n)=True:=by simp only [nxs,eq_iff_iff,iff_true]; omega
theorem l1r {n:Nat}:(n<=nxs (nxs n))=True:=by simp only [nxs,eq_iff_iff,iff_true]; omega
theorem l1s {n:Nat}:(n<=nxs (nxs (nxs n)))=True:=by simp only [nxs,eq_iff_iff,iff_true]; omega
theorem l1t {n:Nat}:(n<=nxs (nxs (nxs (nxs n))))=True:=by simp only [nxs,eq_iff_iff,iff_true]; omega
theorem l1u {n:Nat}:(n<=nxs (nxs (nxs (nxs (nxs n)))))=True:=by simp only [nxs,eq_iff_iff,iff_true]; omega
theorem l1v {n:Nat}:(n<=nxs (nxs (nxs (nxs (nxs (nxs n))))))=True:=by simp only [nxs,eq_iff_iff,iff_true]; omega
theorem l1w {n:Nat}:(n<=nxs (nxs (nxs (nxs (nxs (nxs (nxs n)))))))=True:=by simp only [nxs,eq_iff_iff,iff_true]; omega
theorem l1x {n:Nat}:(n<=nxs (nxs (nxs (nxs (nxs (nxs (nxs (nxs n))))))))=True:=by simp only [nxs,eq_iff_iff,iff_true]; omega
theorem l1y {n:Nat}:(n<=nxs (nxs (nxs (nxs (nxs (nxs (nxs (nxs (nxs n)))))))))=True:=by simp only [nxs,eq_iff_iff,iff_true]; omega
theorem l1o {n:Nat}:(n<=nxs (nxs (nxs (nxs (nxs (nxs (nxs (nxs (nxs (nxs n))))))))))=True:=by simp only [nxs,eq_iff_iff,iff_true]; omega
theorem l1p {n:Nat}:(n<=nxs (nxs (nxs (nxs (nxs (nxs (nxs (nxs (nxs (nxs (nxs n)))))))))))=True:=by simp only [nxs,eq_iff_iff,iff_true]; omega
theorem l1q {n:Nat}:(n<=nxs (nxs (nxs (nxs (nxs (nxs (nxs (nxs (nxs (nxs (nxs (nxs n))))))))))))=True:=by simp only [nxs,eq_iff_iff,iff_true]; omega
attribute [go_sem] l1m l1n l1r l1s l1t l1u l1v l1w l1x l1y l1o l1p l1q
theorem l2f {a b}:b2d (.fp a b)=true:=rfl
theorem g84 {a b}:cellsOf (.fp a b)=[.fp a b]:=rfl
theorem l2i {a b c}:b2d (.rp a b c)=true:=rfl
theorem g86 {a b c}:cellsOf (.rp a b c)=[.rp a b c]:=rfl
theorem l2e {a b c}:b2d (.fn a b c)=true:=rfl
theorem g83 {a b c}:cellsOf (.fn a b c)=[.fn a b c]:=rfl
theorem l2l {a}:b2d (.v (.string a))=true:=rfl
attribute [go_sem] l2f g84 l2i g86 l2e g83 l2l
theorem G6w {id lo n i:Nat} (h:b07 (.rs id lo n) i):¬ id=i:=h
end Go.Nw
