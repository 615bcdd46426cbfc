/- A row turned in place that takes the old one with it. -/
import Derived.Test.YtojneiildpnpiaaNwRows
set_option linter.all false
namespace Go.Nw
section
variable {α:Type} {h h':Heap} {v w:AV} {hs:List AV} {sz:Nat} {f:α->List AV} {rows:List (List α)} {i:Int} {x:List α}
theorem r7l {iq lo n:Nat} {w:AV} (R:RR h (.rs iq lo n) hs sz f rows) (hw:get hs i=some w):b07 w iq:=R.off _ _ (b8j hw) iq (by simp [b07])
theorem s1v {iq lo n:Nat} {u:AV} {y:List α} (R:RR h (.rs iq lo n) hs sz f rows) (hx:get rows i=some x) (ho:h'.ob iq=some (1,List.map eW (List.set hs (Int.toNat i) u))) (hu:b2a h' u sz (List.map f y))
  (hd : ∀ k,¬ b07 u k->s8i (.rs iq lo n) hs k) (hk:∀ j,¬ s8i (.rs iq lo n) hs j->¬ j=iq->(∀ w,hs[i.toNat]?=some w->b07 w j)->j<h.nx->h'.ob j=h.ob j) (hn:h.nx<=h'.nx) :
  RR h' (.rs iq lo n) (List.set hs (Int.toNat i) u) sz f (List.set rows (Int.toNat i) y):=by
 have hxi:=b8j hx
 have hlt:i.toNat<rows.length:=(gS9.1 hxi).1
 have hlt':i.toNat<hs.length:=by rw [R.len]; exact hlt
 obtain ⟨e1,e2,e3⟩:lo=0/\n=hs.length/\iq<h.nx:=by
  rcases R.top with ⟨h1,_⟩|⟨id,h1,h2,h3⟩
  ·cases h1
  ·cases h1; exact ⟨rfl,by simp,h3⟩
 subst e1 e2
 have hcase:∀ {k:Nat} {z:AV},(List.set hs (Int.toNat i) u)[k]?=some z->(k=i.toNat/\z=u)\/(k≠i.toNat/\hs[k]?=some z):=fun {k z} hz=>by
  by_cases e:k=i.toNat
  ·subst e; rw [List.getElem?_set_self hlt'] at hz; cases hz; exact .inl ⟨rfl,rfl⟩
  ·rw [List.getElem?_set_ne (by omega)] at hz; exact .inr ⟨e,hz⟩
 refine ⟨.inr ⟨iq,by simp,ho,by omega⟩,by simp [R.len],fun k z r hz hr=>?_,fun k z hz j hj=>?_,fun k m z z' hne hz hz' j hj=>?_⟩
 ·rcases hcase hz with ⟨rfl,rfl⟩|⟨e,hz⟩
  ·rw [List.getElem?_set_self hlt] at hr; cases hr; exact hu
  ·rw [List.getElem?_set_ne (by omega)] at hr
   refine b3x (R.row k z r hz hr) (fun j hj hl=>hk j (fun hh=>hj (hh.2 z (mG9 hz))) (fun e2=>?_) (fun w hw=>R.apart k i.toNat z w e hz hw j hj) hl) hn
   subst e2
   exact hj (R.off k z hz _ (by simp [b07]))
 ·rcases hcase hz with ⟨rfl,rfl⟩|⟨e,hz⟩
  ·exact Classical.byContradiction fun hc=>hj (hd j hc).1
  ·exact R.off k z hz j hj
 ·rcases hcase hz with ⟨rfl,rfl⟩|⟨e,hz1⟩ <;> rcases hcase hz' with ⟨rfl,rfl⟩|⟨e',hz2⟩
  ·exact absurd rfl hne
  ·exact (hd j hj).2 z' (mG9 hz2)
  ·exact Classical.byContradiction fun hc=>hj ((hd j hc).2 z (mG9 hz1))
  ·exact R.apart k m z z' hne hz1 hz2 j hj
end
end Go.Nw
