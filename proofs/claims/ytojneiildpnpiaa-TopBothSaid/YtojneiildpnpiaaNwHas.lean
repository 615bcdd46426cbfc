/- A function's text stands once in a program: its contract over the oracle that the program gives. -/
import Derived.Test.YtojneiildpnpiaaNwFunc
import Derived.KernelRfl
set_option linter.all false
namespace Go.Nw
variable [Cfg]
theorem b00 {P:Program} {n:String} {x:XFunc} (k:Nat) {f0:Func} (bf:List Nat) (fz:List (Nat × Nat)) (hk:P.funcs[k]?=some f0)
  (hu : ((b2k n).isNone && P.funcs.toList.zipIdx.all fun p=>p.1.name != n || p.2 == k)=true) (hc:c6p P bf fz f0=some x):Has (b0n P) n x:=by
 rw [Bool.and_eq_true] at hu
 obtain ⟨hm,hu⟩:=hu
 refine j3t (by simpa using hm) fun id fn hfn hn=>?_
 have h1:(fn,id)∈P.funcs.toList.zipIdx:=by
  rw [List.mem_zipIdx_iff_getElem?]
  simpa using hfn
 have h2:=List.all_eq_true.1 hu _ h1
 simp only [Bool.or_eq_true,bne_iff_ne,ne_eq,beq_iff_eq] at h2
 rcases h2 with h2|h2
 ·exact absurd hn h2
 ·subst h2
  rw [hk] at hfn
  cases hfn
  exact ⟨bf,fz,hc⟩
end Go.Nw
