/- Plain rules for the printed models: loops over lists, in step with a recursive function. -/
import Derived.Test.YtojneiildpnpiaaNwModel
import Derived.Test.YtojneiildpnpiaaNwHeap
import Derived.Test.YtojneiildpnpiaaNwTyp
set_option linter.all false
namespace Go.Nw
theorem g9x {α:Type} {l:List α} {k:Nat} {x:α} {r:List α} (h:l.drop k=x :: r):get l (k:Int)=some x/\(k:Int)<l.length/\l.drop (k+1)=r/\x∈l:=by
 have hlt:k<l.length:=by
  rcases Nat.lt_or_ge k l.length with h1|h1
  ·exact h1
  ·rw [List.drop_eq_nil_of_le h1] at h; cases h
 rw [List.drop_eq_getElem_cons hlt] at h
 obtain ⟨h1,h2⟩:=List.cons.inj h
 exact ⟨by simp [get,hlt,h1],by omega,h2,by rw [<- h1]; exact List.getElem_mem hlt⟩
theorem j7w {α σ τ β:Type} {f:τ->Option (Out τ β)} (l:List α) (mk:σ->Int->τ) (R:List α->σ->β) (Inv:Nat->σ->Prop)
  (step : ∀ s (k:Nat) x r,l.drop k=x :: r->get l (k:Int)=some x->(k:Int)<l.length->x∈l->Inv k s ->
   (∃ s',f (mk s k)=some (.nx (mk s' (k+1)))/\Inv (k+1) s'/\R (x :: r) s=R r s')\/f (mk s k)=some (.br (R (x :: r) s)))
  (fin : ∀ s,Inv l.length s->f (mk s l.length)=some (.br (R [] s))) {s:σ} (k0:Nat) (hk0:k0<=l.length) (h0:Inv k0 s):b0w f (mk s k0)=some (R (l.drop k0) s):=by
 have key:∀ (r:List α) (k:Nat) (s:σ),l.drop k=r->k<=l.length->Inv k s->b0w f (mk s k)=some (R r s):=by
  intro r
  induction r with
  | nil =>
   intro k s hd hk hi
   have : k=l.length:=by
    have := List.drop_eq_nil_iff.1 hd
    omega
   subst this
   exact b3d (fin s hi)
  | cons x r ih =>
   intro k s hd hk hi
   obtain ⟨h1,h2,h3,h4⟩:=g9x hd
   rcases step s k x r hd h1 h2 h4 hi with ⟨s',e1,e2,e3⟩|e
   ·rw [w91 e1,e3]
    exact ih (k+1) s' h3 (by omega) e2
   ·exact b3d e
 exact key _ k0 s rfl hk0 h0
theorem j7v {α σ τ β:Type} {f:τ->Option (Out τ β)} (l:List α) (mk:σ->Int->τ) (R:List α->σ->β) (Inv:Nat->σ->Prop)
  (step : ∀ s (k:Nat) x r,l.drop k=x :: r->get l (k:Int)=some x->(k:Int)<l.length->x∈l->Inv k s ->
   (∃ s',f (mk s k)=some (.nx (mk s' (k+1)))/\Inv (k+1) s'/\R (x :: r) s=R r s')\/f (mk s k)=some (.br (R (x :: r) s)))
  (fin : ∀ s,Inv l.length s->f (mk s l.length)=some (.br (R [] s))) {s:σ} (h0:Inv 0 s):b0w f (mk s 0)=some (R l s) :=
 j7w l mk R Inv step fin 0 (Nat.zero_le _) h0
theorem l23 {k n:Nat} (h:(k:Int)<n) (hn:n<=maxLen):wr ((k:Int)+1)=(k:Int)+1:=b3t (by omega) (by simp only [maxLen] at hn; omega)
end Go.Nw
