/- Plain laws on the models. -/
import Derived.Test.YtojneiildpnpiaaEM
import Derived.Test.YtojneiildpnpiaaNwTypes
import Derived.Test.YtojneiildpnpiaaP2
import Derived.Test.YtojneiildpnpiaaP5
set_option linter.all false
namespace Go.Nw.EM
instance instBd:Bd:=⟨maxLen,Nat.le_refl _⟩
def N1e (x:neweltop_Room):Prop:=b5k x.People/\b5k x.Wide/\b5k x.Ticks/\b5k x.Tick
def N47 (x:neweltop_Room):List AV:=[I x.People,I x.Wide,I x.Ticks,I x.Tick]
theorem N7l {r:List AV} (h:MtL [.i .i64,.i .i64,.i .i64,.i .i64] r):∃ x:neweltop_Room,r=N47 x/\N1e x:=by
 obtain ⟨a0,r0,rfl,h0,g0⟩:=b3e h
 obtain ⟨a1,r1,rfl,h1,g1⟩:=b3e g0
 obtain ⟨a2,r2,rfl,h2,g2⟩:=b3e g1
 obtain ⟨a3,r3,rfl,h3,g3⟩:=b3e g2
 obtain ⟨v0,rfl,k0⟩:=b6n h0
 obtain ⟨v1,rfl,k1⟩:=b6n h1
 obtain ⟨v2,rfl,k2⟩:=b6n h2
 obtain ⟨v3,rfl,k3⟩:=b6n h3
 exact ⟨⟨v0,v1,v2,v3⟩,by rw [b6o g3]; rfl,⟨k0,k1,k2,k3⟩⟩
abbrev N2s:List Sh:=[.i .i64,.i .i64,.i .i64,.i .i64]
theorem N7u {a:AV} (h:MtA (.agg N2s) a):∃ x:neweltop_Room,a = .agg [I x.People,I x.Wide,I x.Ticks,I x.Tick]/\N1e x:=by
 obtain ⟨r,rfl,hr⟩:=g1y h
 obtain ⟨x,rfl,hx⟩:=N7l hr
 exact ⟨x,rfl,hx⟩
def E7o (x:Span):Prop:=b5k x.Low/\b5k x.High
def E9r (x:Comb):Prop:=b5k x.Rate/\b5k x.Limit/\b5k x.Next/\E7o x.Walk
def E9s (x:Crowd):Prop:=b5k x.Comb/\E7o x.People
def E78 (x:Train):Prop:=E7o x.At/\OkL E9s x.Crowds
def E9t (x:Shift):Prop:=b5k x.At/\b5k x.Comb/\b5k x.Rate
def E66 (x:Hall):Prop:=OkL E9r x.Combs/\OkL E78 x.Trains/\OkL E9t x.Shifts/\b5k x.Until
def N35 (x:Day):Prop:=OkL b5k x.At/\OkL (OkL b5k) x.People/\OkL (OkL b5k) x.Walks
end Go.Nw.EM
namespace Go.Nw.EM.H
open Go.Nw.EM
structure Crowded (n:Nat) (lo:Int) (l:List Crowd):Prop where
 each : ∀ (k:Nat) x,l[k]?=some x->0<=x.Comb/\x.Comb<n/\0<=x.People.Low/\x.People.Low<=x.People.High/\x.People.High<=1000
structure Valid (h:Hall):Prop where
 u1 : 1<=h.Until
 u2 : h.Until<=100
 c1 : 1<=h.Combs.length
 c2 : h.Combs.length<=8
 t2 : h.Trains.length<=12
 s2 : h.Shifts.length<=20
 comb : ∀ (k:Nat) x,h.Combs[k]?=some x->0<=x.Rate/\x.Rate<=1000/\0<=x.Limit/\x.Limit<=100000/\(x.Next = -1\/(k<x.Next/\x.Next<h.Combs.length))/\1<=x.Walk.Low/\x.Walk.Low<=x.Walk.High/\x.Walk.High<=20
 train : ∀ (k:Nat) x,h.Trains[k]?=some x->0<=x.At.Low/\x.At.Low<=x.At.High/\x.At.High<=h.Until - 1/\x.Crowds.length<=4 /\
  (∀ (j:Nat) y,x.Crowds[j]?=some y->0<=y.People.Low/\y.People.Low<=y.People.High/\y.People.High<=1000/\y.Comb<h.Combs.length/\(match j with|0 => -1<y.Comb|j+1=>∀ z,x.Crowds[j]?=some z->z.Comb<y.Comb))
 shift : ∀ (k:Nat) x,h.Shifts[k]?=some x->0<=x.At/\x.At<h.Until/\0<=x.Comb/\x.Comb<h.Combs.length/\0<=x.Rate/\x.Rate<=1000/\(∀ j y,k=j+1->h.Shifts[j]?=some y->y.At<=x.At)
def E61 (n:Nat) (k:Nat) (x:Comb):Prop:=0<=x.Rate/\x.Rate<=1000/\0<=x.Limit/\x.Limit<=100000/\(x.Next = -1\/((k:Int)<x.Next/\x.Next<n))/\1<=x.Walk.Low/\x.Walk.Low<=x.Walk.High/\x.Walk.High<=20
def E62 (n:Nat) (l:List Crowd) (j:Nat) (y:Crowd):Prop:=0<=y.People.Low/\y.People.Low<=y.People.High/\y.People.High<=1000/\y.Comb<n/\(match j with|0 => -1<y.Comb|j+1=>∀ z,l[j]?=some z->z.Comb<y.Comb)
def E7s (n:Nat) (u:Int) (x:Train):Prop:=0<=x.At.Low/\x.At.Low<=x.At.High/\x.At.High<=u - 1/\x.Crowds.length<=4/\∀ (j:Nat) y,x.Crowds[j]?=some y->E62 n x.Crowds j y
def E8x (n:Nat) (u:Int) (l:List Shift) (k:Nat) (x:Shift):Prop:=0<=x.At/\x.At<u/\0<=x.Comb/\x.Comb<n/\0<=x.Rate/\x.Rate<=1000/\(∀ j y,k=j+1->l[j]?=some y->y.At<=x.At)
def E7j (h:Hall):Prop:=1<=h.Until/\h.Until<=100/\1<=h.Combs.length/\h.Combs.length<=8/\h.Trains.length<=12/\h.Shifts.length<=20
def V (h:Hall):Prop:=E7j h/\(∀ (k:Nat) x,h.Combs[k]?=some x->E61 h.Combs.length k x)/\(∀ (k:Nat) x,h.Trains[k]?=some x->E7s h.Combs.length h.Until x)/\(∀ (k:Nat) x,h.Shifts[k]?=some x->E8x h.Combs.length h.Until h.Shifts k x)
def N0m (l:List Crowd):Nat->Int
 | 0 => -1
 | j+1=>((l[j]?).map (·.Comb)).getD 0
theorem G37 {l:List Crowd} {k:Nat} {x:Crowd} (h:l[k]?=some x):N0m l (k+1)=x.Comb:=by simp [N0m,h]
theorem E7r {n:Nat} {l:List Crowd} {k:Nat} {x:Crowd} (hx:l[k]?=some x):E62 n l k x ↔ (0<=x.People.Low/\x.People.Low<=x.People.High/\x.People.High<=1000/\x.Comb<n/\N0m l k<x.Comb):=by
 unfold E62
 cases k with
 | zero=>simp [N0m]
 | succ j =>
  obtain ⟨z,hz⟩:=b3b (show j<l.length by have:=b1k hx; omega)
  simp [N0m,hz]
section
variable {h:Hall} (hk:E66 h) (hs:E7j h)
include hk hs
theorem G88 {t:Train} (ht:E78 t):((∀ k x,t.Crowds[k]?=some x->E62 h.Combs.length t.Crowds k x)/\b0w (E7f h t) (-1,0)=some (.inl ()))\/((∃ k x,t.Crowds[k]?=some x/\¬ E62 h.Combs.length t.Crowds k x)/\b0w (E7f h t) (-1,0)=some (.inr false)):=by
 have hl:t.Crowds.length<=maxLen:=ht.2.1
 have := g1j (f:=E7f h t) t.Crowds (fun s k=>(s,k)) (N0m t.Crowds) (fun k x=>¬ E62 h.Combs.length t.Crowds k x) (.inr false) (.inl ()) (fun k x hg hx hb=>by
  simp only [E7f,b1h hx,bS9]
  rw [if_pos (by simpa using b1k hx),if_pos]
  rw [E7r hx] at hb
  simp only [P1k,Bool.or_eq_true,Bool.not_eq_true',Bool.and_eq_false_iff,decide_eq_false_iff_not,decide_eq_true_eq]
  omega) (fun k x hg hx hb=>by
  simp only [E7f,b1h hx,bS9]
  rw [if_pos (by simpa using b1k hx),if_neg,b2r (b1k hx) hl,G37 hx]
  have hb:=(E7r hx).1 (Classical.not_not.1 hb)
  simp only [P1k,Bool.or_eq_true,Bool.not_eq_true',Bool.and_eq_false_iff,decide_eq_false_iff_not,decide_eq_true_eq]
  omega) (by simp [E7f]) (s0 := -1) rfl
 simpa using this
theorem H0g {t:Train} (ht:E78 t):∃ b,E8h h t=some b/\(b=true ↔ E7s h.Combs.length h.Until t):=by
 have hu:wr (h.Until - 1)=h.Until - 1:=b3t (by have:=hs.1; omega) (by have:=hs.2.1; omega)
 unfold E8h
 rcases G88 hk hs ht with ⟨h1,h2⟩|⟨⟨k,x,hx,hb⟩,h2⟩
 ·rw [h2]
  simp only [bS9,E88,hu]
  refine ⟨_,rfl,?_⟩
  simp only [P1k,Bool.and_eq_true,decide_eq_true_eq,E7s]
  constructor
  ·rintro ⟨⟨⟨a,b⟩,c⟩,d⟩; exact ⟨a,b,c,by omega,h1⟩
  ·rintro ⟨a,b,c,d,_⟩; exact ⟨⟨⟨a,b⟩,c⟩,by omega⟩
 ·rw [h2]
  refine ⟨false,rfl,by simp; exact fun hg=>hb (hg.2.2.2.2 k x hx)⟩
end
theorem H0d {l:List Train} {f:Train->Option Bool} {p:Train->Prop} (hl:l.length<=maxLen) (hf:∀ x∈l,∃ b,f x=some b/\(b=true ↔ p x)) :
  ∃ b,E9n l f=some b/\(b=true ↔ ∃ x∈l,p x):=G6l rfl hl hf
theorem H0c {l:List Int} {f:Int->Option Bool} {p:Int->Prop} (hl:l.length<=maxLen) (hf:∀ x∈l,∃ b,f x=some b/\(b=true ↔ p x)) :
  ∃ b,J8e l f=some b/\(b=true ↔ ∃ x∈l,p x):=G6l rfl hl hf
theorem G1p {j n:Nat} (h:j+1<n) (hn:n<=maxLen):wr (((j+1:Nat):Int) - 1)=(j:Int):=by
 rw [b3t (by omega) (by simp only [maxLen] at hn; omega)]; omega
theorem G6n {h:Hall} {k:Nat} {x:Comb} (hx:h.Combs[k]?=some x):∃ b,E8g h k=some b/\(b=true ↔ E61 h.Combs.length k x):=by
 unfold E8g
 rw [b1h hx]
 refine ⟨_,rfl,?_⟩
 simp only [x80,P1k,E61,Bool.and_eq_true,Bool.or_eq_true,decide_eq_true_eq]
 omega
noncomputable def E64 (h:Hall):Option Int:=E6y h
theorem G65 {h:Hall} (hk:E66 h):E7j h\/(¬ E7j h/\E6y h=some 60/\E64 h=some 60):=by
 by_cases hs:E7j h
 ·exact .inl hs
 ·have h1:E6y h=some 60:=by
   unfold E6y
   rw [if_pos]
   simp only [Bool.or_eq_true,decide_eq_true_eq]
   unfold E7j at hs; omega
  exact .inr ⟨hs,h1,h1⟩
theorem G76 {h:Hall} (hk:E66 h):(V h/\E6y h=some 0)\/(¬ V h/\E6y h=some 60):=by
 rcases G65 hk with hs|⟨hs,h1,_⟩
 ·have e1:h.Combs.length<=maxLen:=hk.1.1
  have e2:h.Trains.length<=maxLen:=hk.2.1.1
  have e3:h.Shifts.length<=maxLen:=hk.2.2.1.1
  unfold E6y
  rw [if_neg (by simp only [Bool.or_eq_true,decide_eq_true_eq]; unfold E7j at hs; omega)]
  rcases D5v (f:=E7v h) h.Combs (fun k x=>¬ E61 h.Combs.length k x) (.inr 60) (.inl ()) (fun k x _ hx hb=>by
    obtain ⟨b,b1,b2⟩:=G6n hx
    have : b=false:=x0f fun hh=>hb (b2.1 hh)
    subst this
    simp [E7v,b1,b1k hx]) (fun k x _ hx hb=>by
    obtain ⟨b,b1,b2⟩:=G6n hx
    have : b=true:=b2.2 (Classical.not_not.1 hb)
    subst this
    simp [E7v,b1,b1k hx,b2r (b1k hx) e1]) (by simp [E7v]) with ⟨c1,c2⟩|⟨⟨k,x,hx,hb⟩,c2⟩
  ·rw [c2]
   simp only [bS9,E8y]
   obtain ⟨b,b1,b2⟩:=H0d (l:=h.Trains) (f:=fun z=>E7t z h) (p:=fun t=>¬ E7s h.Combs.length h.Until t) e2 fun t ht=>by
    obtain ⟨b,b1,b2⟩:=H0g hk hs (hk.2.1.2 t ht)
    refine ⟨!b,by simp [E7t,b1],?_⟩
    cases b <;> simp_all
   rw [b1]
   simp only [bS9]
   cases b with
   | true =>
    rw [if_pos rfl]
    obtain ⟨t,ht,hbad⟩:=b2.1 rfl
    obtain ⟨j,hj,rfl⟩:=List.getElem_of_mem ht
    exact .inr ⟨fun hv=>hbad (hv.2.2.1 j _ (gG9 hj)),rfl⟩
   | false =>
    rw [if_neg (by simp)]
    have ht:∀ (k:Nat) x,h.Trains[k]?=some x->E7s h.Combs.length h.Until x:=fun k x hx=>Classical.byContradiction fun hn=>by have:=b2.2 ⟨x,mG9 hx,hn⟩; cases this
    rcases D5v (f:=E7u h) h.Shifts (fun k x=>¬ E8x h.Combs.length h.Until h.Shifts k x) (.inr 60) (.inl ()) (fun k x _ hx hb=>by
      simp only [E7u,b1h hx,bS9]
      rw [if_pos (by simpa using b1k hx)]
      unfold E8x at hb
      by_cases q:x.At<0\/h.Until<=x.At
      ·rw [if_pos (by simpa using q)]; simp
      ·rw [if_neg (by simpa using q)]
       cases k with
       | zero =>
        simp only [Int.natCast_zero,Int.lt_irrefl,decide_false,fT9,if_false,bS9,Bool.false_or]
        rw [if_pos]
        simp only [x80,Bool.or_eq_true,Bool.not_eq_true',Bool.and_eq_false_iff,decide_eq_false_iff_not,decide_eq_true_eq]
        refine Classical.byContradiction fun hc=>hb ⟨by omega,by omega,by omega,by omega,by omega,by omega,fun j y hj=>by omega⟩
       | succ j =>
        obtain ⟨y,hy⟩:=b3b (show j<h.Shifts.length by have:=b1k hx; omega)
        rw [if_pos (by simp <;> omega),G1p (b1k hx) e3,b1h hy]
        simp only [bS9]
        rw [if_pos]
        simp only [x80,Bool.or_eq_true,Bool.not_eq_true',Bool.and_eq_false_iff,decide_eq_false_iff_not,decide_eq_true_eq]
        refine Classical.byContradiction fun hc=>hb ⟨by omega,by omega,by omega,by omega,by omega,by omega,fun j' y' hj' hy'=>by
         obtain rfl:j'=j:=by omega
         rw [hy] at hy'; cases hy'; omega⟩) (fun k x _ hx hb=>by
      have hb:=Classical.not_not.1 hb
      obtain ⟨q1,q2,q3,q4,q5,q6,q7⟩:=hb
      simp only [E7u,b1h hx,bS9]
      rw [if_pos (by simpa using b1k hx),if_neg (by simp; omega)]
      cases k with
      | zero =>
       simp only [Int.natCast_zero,Int.lt_irrefl,decide_false,fT9,if_false,bS9,Bool.false_or]
       rw [if_neg]
       ·rfl
       ·simp only [x80,Bool.or_eq_true,Bool.not_eq_true',Bool.and_eq_false_iff,decide_eq_false_iff_not,decide_eq_true_eq]
        omega
      | succ j =>
       obtain ⟨y,hy⟩:=b3b (show j<h.Shifts.length by have:=b1k hx; omega)
       have := q7 j y rfl hy
       rw [if_pos (by simp <;> omega),G1p (b1k hx) e3,b1h hy]
       simp only [bS9]
       rw [if_neg,b2r (b1k hx) e3]
       simp only [x80,Bool.or_eq_true,Bool.not_eq_true',Bool.and_eq_false_iff,decide_eq_false_iff_not,decide_eq_true_eq]
       omega) (by simp [E7u]) with ⟨d1,d2⟩|⟨⟨k,x,hx,hb⟩,d2⟩
    ·rw [d2]
     exact .inl ⟨⟨hs,fun k x hx=>Classical.not_not.1 (c1 k x hx),ht,fun k x hx=>Classical.not_not.1 (d1 k x hx)⟩,rfl⟩
    ·rw [d2]
     exact .inr ⟨fun hv=>hb (hv.2.2.2 k x hx),rfl⟩
  ·rw [c2]
   exact .inr ⟨fun hv=>hb (hv.2.1 k x hx),rfl⟩
 ·exact .inr ⟨fun hv=>hs hv.1,h1⟩
def T (h:Hall):Nat:=h.Until.toNat
def E76 (h:Hall) (c:Nat):Int:=((h.Combs[c]?).map (·.Rate)).getD 0
def E7i (c:Nat) (t:Int) (a:Int) (s:Shift):Int:=if s.Comb=(c:Int)/\s.At<=t then s.Rate else a
def u8s (h:Hall) (c:Nat) (t:Nat):Int:=h.Shifts.foldl (E7i c t) (E76 h c)
theorem E9u {h:Hall} (hv:V h):(T h:Int)=h.Until:=by have:=hv.1.1; unfold T; omega
theorem E7p {h:Hall} (hv:V h):T h<=100:=by have:=hv.1.2.1; unfold T; omega
def G0i (c:Nat) (a:Int) (s:Shift):Int:=if s.Comb=(c:Int) then s.Rate else a
def G (h:Hall) (c k:Nat):Int:=(h.Shifts.take k).foldl (G0i c) (E76 h c)
theorem G8a {h:Hall} {c k:Nat} {x:Shift} (hx:h.Shifts[k]?=some x):G h c (k+1)=if x.Comb=(c:Int) then x.Rate else G h c k:=by
 unfold G
 rw [List.take_add_one,hx]
 simp [List.foldl_append,G0i]
theorem H1n {h:Hall} (hv:V h):∀ (d j:Nat) (x y:Shift),h.Shifts[j]?=some x->h.Shifts[j+d]?=some y->x.At<=y.At:=by
 intro d
 induction d with
 | zero=>intro j x y hx hy; rw [Nat.add_zero,hx] at hy; cases hy; exact Int.le_refl _
 | succ d ih =>
  intro j x y hx hy
  obtain ⟨z,hz⟩:=b3b (show j+d<h.Shifts.length by have:=b1k hy; omega)
  have h1:=ih j x z hx hz
  have h2:=(hv.2.2.2 _ y hy).2.2.2.2.2.2 (j+d) z (by omega) hz
  omega
def G4p (h:Hall) (t:Int) (k:Nat):Prop:=k<=h.Shifts.length/\(∀ j x,j<k->h.Shifts[j]?=some x->x.At<=t)/\∀ x,h.Shifts[k]?=some x->t<x.At
theorem G79 {h:Hall} (hv:V h) {c k t:Nat} (hu:G4p h t k):G h c k=u8s h c t:=by
 unfold G u8s
 conv => rhs; rw [<- List.take_append_drop k h.Shifts,List.foldl_append]
 have e1:(h.Shifts.take k).foldl (G0i c) (E76 h c)=(h.Shifts.take k).foldl (E7i c t) (E76 h c):=by
  have : ∀ (l:List Shift),(∀ x∈l,x.At<=(t:Int))->∀ a,l.foldl (G0i c) a=l.foldl (E7i c t) a:=by
   intro l
   induction l with
   | nil=>intro _ a; rfl
   | cons s l ih =>
    intro hl a
    simp only [List.foldl_cons]
    rw [ih (fun x hx=>hl x (List.mem_cons_of_mem _ hx))]
    congr 1
    simp [G0i,E7i,hl s List.mem_cons_self]
  refine this _ (fun x hx=>?_) _
  obtain ⟨j,hj,rfl⟩:=List.getElem_of_mem hx
  have hj':j<k:=by simp at hj; omega
  have hjl:j<h.Shifts.length:=by simp at hj; omega
  refine hu.2.1 j _ hj' ?_
  rw [List.getElem_take,gG9 hjl]
 rw [e1]
 have : ∀ (l:List Shift),(∀ x∈l,(t:Int)<x.At)->∀ a,l.foldl (E7i c t) a=a:=by
  intro l
  induction l with
  | nil=>intro _ a; rfl
  | cons s l ih =>
   intro hl a
   have := hl s List.mem_cons_self
   simp only [List.foldl_cons]
   rw [show E7i c t a s=a from by unfold E7i; rw [if_neg (by omega)]]
   exact ih (fun x hx=>hl x (List.mem_cons_of_mem _ hx)) a
 refine (this _ ?_ _).symm
 intro x hx
 obtain ⟨j,hj,rfl⟩:=List.getElem_of_mem hx
 have hjl:k+j<h.Shifts.length:=by simp at hj; omega
 obtain ⟨z,hz⟩:=b3b (show k<h.Shifts.length by omega)
 have h1:=hu.2.2 z hz
 have h2:=H1n hv j k z _ hz (gG9 hjl)
 rw [List.getElem_drop]
 omega
theorem H0f {h:Hall} (hv:V h) (c t:Nat):∀ (d k:Nat),h.Shifts.length - k=d->k<=h.Shifts.length->(∀ j x,j<k->h.Shifts[j]?=some x->x.At<=(t:Int)) ->
  ∃ k',b0w (E73 h c t) (G h c k,(k:Int))=some (G h c k',(k':Int))/\G4p h t k':=by
 have hl:h.Shifts.length<=maxLen:=by have:=hv.1.2.2.2.2.2; simp only [maxLen]; omega
 intro d
 induction d with
 | zero =>
  intro k hd hk hb
  have : k=h.Shifts.length:=by omega
  subst this
  refine ⟨h.Shifts.length,b3d (by simp [E73]),Nat.le_refl _,hb,fun x hx=>?_⟩
  have := b1k hx; omega
 | succ d ih =>
  intro k hd hk hb
  obtain ⟨x,hx⟩:=b3b (show k<h.Shifts.length by omega)
  by_cases hat:x.At<=(t:Int)
  ·rw [w91 (s':=(G h c (k+1),((k+1:Nat):Int))) (by
    simp only [E73,b1h hx,bS9]
    rw [if_pos (by simpa using b1k hx)]
    simp only [bS9,hat,decide_true,if_true,E8l,b2r (b1k hx) hl,G8a hx]
    by_cases e:x.Comb=(c:Int)
    ·simp [e]
    ·simp [e])]
   refine ih (k+1) (by omega) (by omega) fun j y hj hy=>?_
   by_cases e:j=k
   ·subst e; rw [hx] at hy; cases hy; exact hat
   ·exact hb j y (by omega) hy
  ·refine ⟨k,b3d (by
    simp only [E73,b1h hx,bS9]
    rw [if_pos (by simpa using b1k hx)]
    simp [hat]),by omega,hb,fun y hy=>?_⟩
   rw [hx] at hy; cases hy; omega
theorem H09 {h:Hall} (hv:V h) {c:Nat} (hc:c<h.Combs.length):E8j h c=some (tab (T h) (u8s h c)):=by
 obtain ⟨x,hx⟩:=b3b hc
 have hT:=E7p hv
 unfold E8j
 rw [<- E9u hv,g1q (by omega) (by omega)]
 simp only [bS9,b1h hx]
 obtain ⟨b,h1,h2⟩:=j7u (f:=E8k h c (tab (T h) fun _=>0)) (T h) (fun (s:List Int × Int × Int) k=>(s.1,s.2.1,s.2.2,k))
  (fun k s=>∃ m:Nat,s=(fill (T h) (u8s h c) 0 k,G h c m,(m:Int))/\m<=h.Shifts.length/\∀ j x,j<m->h.Shifts[j]?=some x->x.At<(k:Int)) (fun b=>b=tab (T h) (u8s h c))
  (fun s k hk ⟨m,hs,hm,hm2⟩=>by
   subst hs
   obtain ⟨k',i1,i2⟩:=H0f hv c k (h.Shifts.length - m) m rfl hm fun j x hj hx=>by have:=hm2 j x hj hx; omega
   refine .inl ⟨(fill (T h) (u8s h c) 0 (k+1),G h c k',(k':Int)),?_,k',rfl,i2.1,fun j x hj hx=>by have:=i2.2.1 j x hj hx; omega⟩
   simp only [E8k,b3y]
   rw [if_pos (by simpa using hk),i1]
   simp only [bS9,E9d,d15 hk,E9c,b2r hk (by simp only [maxLen]; omega)]
   rw [show ((k:Nat):Int).toNat=k from by omega,c2r (G79 hv i2)])
  (fun s ⟨m,hs,_⟩=>by
   subst hs
   exact ⟨fill (T h) (u8s h c) 0 (T h),by simp [E8k,b3y],by rw [d1u (Nat.le_refl _)]⟩) (s:=(tab (T h) (fun _=>0),x.Rate,0)) 0 (by omega) ⟨0,by
    rw [<- p6y,d1w (f:=u8s h c)]
    simp [G,E76,hx],by omega,fun j x hj=>by omega⟩
 simp only at h1
 rw [show ((0:Nat):Int)=0 from rfl] at h1
 rw [h1,h2]; rfl
theorem H08 {h:Hall} (hv:V h) {c:Nat} (t:Nat):0<=u8s h c t/\u8s h c t<=1000:=by
 unfold u8s
 have h0:0<=E76 h c/\E76 h c<=1000:=by
  unfold E76
  cases hx:h.Combs[c]? with
  | none=>simp
  | some x=>have:=hv.2.1 c x hx; simp [E61] at this ⊢; omega
 have : ∀ (l:List Shift),(∀ x∈l,0<=x.Rate/\x.Rate<=1000)->∀ a,0<=a/\a<=1000->0<=l.foldl (E7i c t) a/\l.foldl (E7i c t) a<=1000:=by
  intro l
  induction l with
  | nil=>intro _ a ha; exact ha
  | cons s l ih =>
   intro hl a ha
   refine ih (fun x hx=>hl x (List.mem_cons_of_mem _ hx)) _ ?_
   have := hl s List.mem_cons_self
   unfold E7i; split <;> omega
 refine this _ (fun x hx=>?_) _ h0
 obtain ⟨j,hj,rfl⟩:=List.getElem_of_mem hx
 have := hv.2.2.2 j _ (gG9 hj)
 exact ⟨this.2.2.2.2.1,this.2.2.2.2.2.1⟩
theorem H01 {h:Hall} (hv:V h):E68 h=some (tab h.Combs.length fun c=>tab (T h) (u8s h c)):=by
 unfold E68
 have hn:=hv.1.2.2.2.1
 have := b4h (f:=E8i h) h.Combs.length (fun s k=>(s,k)) (fun k=>tab k fun c=>tab (T h) (u8s h c)) (tab h.Combs.length fun c=>tab (T h) (u8s h c)) (s0:=[]) rfl (fun k hk=>by
  simp only [E8i]
  rw [if_pos (by simpa using hk),H09 hv hk]
  simp only [bS9]
  rw [b9k (by simp [b3y]; omega)]
  simp only [bS9,b2r hk (by simp only [maxLen]; omega),l5w]) (by simp [E8i])
 rw [this]; rfl
def M95 (c:Nat) (y:Crowd):Int:=if y.Comb=(c:Int) then y.People.High else 0
def x12 (c s t:Nat) (x:Train):Int:=if x.At.High<(s:Int)\/(t:Int)<x.At.Low then 0 else (x.Crowds.map (M95 c)).sum
def y27 (h:Hall) (c s t:Nat):Int:=(h.Trains.map (x12 c s t)).sum
theorem G0s {h:Hall} (hv:V h) {x:Train} (hx:x∈h.Trains) (c k:Nat) (hk:k<=x.Crowds.length):0<=P1f x.Crowds (M95 c) k/\P1f x.Crowds (M95 c) k<=4000:=by
 obtain ⟨j,hj,rfl⟩:=List.getElem_of_mem hx
 have hg:=hv.2.2.1 j _ (gG9 hj)
 have := G6z (l:=h.Trains[j].Crowds) (g:=M95 c) (B:=1000) (fun y hy=>by
  obtain ⟨i,hi,rfl⟩:=List.getElem_of_mem hy
  have := hg.2.2.2.2 i _ (gG9 hi)
  unfold E62 at this
  unfold M95; split <;> omega) k hk
 have := hg.2.2.2.1
 omega
theorem H1p {h:Hall} (hv:V h) {x:Train} (hx:x∈h.Trains) (c s t:Nat):0<=x12 c s t x/\x12 c s t x<=4000:=by
 unfold x12
 split
 ·omega
 ·rw [<- G0f]; exact G0s hv hx c _ (Nat.le_refl _)
theorem G7d {h:Hall} (hv:V h) (c s t k:Nat) (hk:k<=h.Trains.length):0<=P1f h.Trains (x12 c s t) k/\P1f h.Trains (x12 c s t) k<=48000:=by
 have := G6z (l:=h.Trains) (g:=x12 c s t) (B:=4000) (fun x hx=>H1p hv hx c s t) k hk
 have := hv.1.2.2.2.2.1
 omega
theorem G4w {h:Hall} (hv:V h) (c s t:Nat):0<=y27 h c s t/\y27 h c s t<=48000:=by
 unfold y27; rw [<- G0f]; exact G7d hv c s t _ (Nat.le_refl _)
theorem x21 {n:Int} (h1 : -1000000000000<=n) (h2:n<=1000000000000):wr n=n:=b3t (by omega) (by omega)
theorem G8g {h:Hall} (hv:V h) (c s t:Nat):E8d h c s t=some (y27 h c s t):=by
 have e2:h.Trains.length<=maxLen:=by have:=hv.1.2.2.2.2.1; simp only [maxLen]; omega
 unfold E8d
 have := b4h (f:=E8f h c s t) h.Trains.length (fun s k=>(s,k)) (P1f h.Trains (x12 c s t)) (y27 h c s t) (s0:=0) G38.symm (fun k hk=>by
  obtain ⟨x,hx⟩:=b3b hk
  have hm:=mG9 hx
  simp only [E8f,b1h hx,bS9]
  rw [if_pos (by simpa using hk),G1i hx]
  have hb:=G7d hv c s t k (by omega)
  by_cases q:x.At.High<(s:Int)\/(t:Int)<x.At.Low
  ·rw [if_pos (by simpa using q)]
   simp only [E72,b2r hk e2]
   rw [show x12 c s t x=0 from if_pos q,Int.add_zero]
  ·rw [if_neg (by simpa using q)]
   have e3:x.Crowds.length<=maxLen:=by have:=(hv.2.2.1 k x hx).2.2.2.1; simp only [maxLen]; omega
   have := b4h (f:=E8e c x) x.Crowds.length (fun s k=>(s,k)) (fun j=>P1f h.Trains (x12 c s t) k+P1f x.Crowds (M95 c) j) (P1f h.Trains (x12 c s t) k+x12 c s t x) (s0:=P1f h.Trains (x12 c s t) k) (by simp [G38]) (fun j hj=>by
    obtain ⟨y,hy⟩:=b3b hj
    have hc1:=G0s hv hm c j (by omega)
    have hc2:=G0s hv hm c (j+1) (by omega)
    simp only [E8e,b1h hy,bS9]
    rw [if_pos (by simpa using hj),G1i hy]
    rw [G1i hy] at hc2
    by_cases e:y.Comb=(c:Int)
    ·rw [if_pos (by simpa using e)]
     rw [show M95 c y=y.People.High from if_pos e] at hc2 ⊢
     simp only [E71,b2r hj e3]
     rw [x21 (by omega) (by omega),Int.add_assoc]
    ·rw [if_neg (by simpa using e)]
     rw [show M95 c y=0 from if_neg e]
     simp only [E71,b2r hj e3,Int.add_zero]) (by
    simp only [E8e]
    rw [if_neg (by simp),G0f,show x12 c s t x=(x.Crowds.map (M95 c)).sum from if_neg q])
   rw [this]
   simp only [bS9,E72,b2r hk e2]) (by
  simp only [E8f]
  rw [if_neg (by simp),G0f]; rfl)
 rw [this]; rfl
structure Bd where
 come : Nat->Nat->Int
 most : Nat->Int
 flow : Nat->Int
 deriving Inhabited
def y18 (b:Bd) (to k:Nat):Int:=if k<to then b.come (k+1) to else 0
def way (b:Bd) (a to k:Nat):Int:=b23 b.flow k - b23 b.flow a+b.most k+y18 b to k
def E9j (b:Bd) (a to:Nat):Int:=E63 (min (b.come 0 to) (b23 b.flow (to+1) - b23 b.flow a)) (way b a to) a (to+1 - a)
def E7h (b:Bd) (from_ to_:Int):Int:=if to_<from_\/to_<0 then 0 else E9j b (max from_ 0).toNat to_.toNat
def o13 (h:Hall) (c:Nat) (prev:Nat->Bd) (s t u:Nat):Int:=match h.Combs[u]? with
 | some x=>if x.Next=(c:Int) then E7h (prev u) ((s:Int) - x.Walk.High) ((t:Int) - x.Walk.Low) else 0
 | none=>0
def x67 (h:Hall) (c:Nat) (prev:Nat->Bd) (s t:Nat):Int:=y27 h c s t+b23 (o13 h c prev s t) c
def E8s (come:Nat->Nat->Int) (R:Nat->Int) (t:Nat):Int:=E69 0 (fun s=>come s t - (b23 R t - b23 R s)) 0 (t+1)
def E8r (h:Hall) (R:Nat->Nat->Int) (c:Nat) (prev:Nat->Bd):Bd :=
 { come:=x67 h c prev,most:=E8s (x67 h c prev) (R c),flow:=fun t=>min (E8s (x67 h c prev) (R c) t) (R c t) }
def bdL (h:Hall) (R:Nat->Nat->Int):Nat->Nat->Bd
 | 0=>fun _=>default
 | n+1=>fun u=>if u=n then E8r h R n (bdL h R n) else bdL h R n u
def bd (h:Hall) (R:Nat->Nat->Int) (c:Nat):Bd:=bdL h R (c+1) c
theorem G4u {h:Hall} {R:Nat->Nat->Int} {n u:Nat}:bdL h R (n+1) u=if u=n then E8r h R n (bdL h R n) else bdL h R n u:=rfl
theorem G8c {h:Hall} {R:Nat->Nat->Int} {n u:Nat} (hu:u<n):bdL h R n u=bd h R u:=by
 induction n with
 | zero=>omega
 | succ n ih =>
  by_cases e:u=n
  ·subst e; rfl
  ·rw [G4u,if_neg e]; exact ih (by omega)
theorem H1u {h:Hall} {c s t u:Nat} {p q:Nat->Bd} (hpq:p u=q u):o13 h c p s t u=o13 h c q s t u:=by
 unfold o13; rw [hpq]
theorem G85 {h:Hall} {c:Nat} {p q:Nat->Bd} (hpq:∀ u,u<c->p u=q u):x67 h c p=x67 h c q:=by
 funext s t
 unfold x67
 rw [H0y fun u hu=>H1u (hpq u hu)]
theorem E8v {h:Hall} {R:Nat->Nat->Int} {c:Nat}:bd h R c=E8r h R c (bd h R):=by
 have : bd h R c=E8r h R c (bdL h R c):=by show bdL h R (c+1) c=_; rw [G4u,if_pos rfl]
 rw [this]
 unfold E8r
 rw [G85 fun u hu=>G8c hu]
structure BdOk (b:Bd) (n:Nat) (B:Int):Prop where
 come : ∀ s t,s<=t->t<n->0<=b.come s t/\b.come s t<=B
 most : ∀ t,t<n->0<=b.most t/\b.most t<=B
 flow : ∀ t,t<n->0<=b.flow t/\b.flow t<=1000
def E60 (n:Nat) (b:Bd) (s:Nat):List Int:=tab n fun t=>if s<=t then b.come s t else 0
def bdT (n:Nat) (b:Bd) (r:Nat->Int):halls_bound:=⟨tab (n+1) (b23 r),tab (n+1) (b23 b.flow),tab n b.most,tab n (E60 n b)⟩
theorem G2f {n:Nat} {b:Bd} {s t:Nat} (ht:t<n) (hst:s<=t):get (E60 n b s) (t:Int)=some (b.come s t):=by
 unfold E60; rw [c2y ht,if_pos hst]
section
variable {n:Nat} {b:Bd} {B:Int} (hb:BdOk b n B) (hB:B<=1000000000) (hn:n<=1000) {r:Nat->Int}
include hb hB hn
theorem G0t {a k:Nat} (hak:a<=k) (hk:k<=n):0<=b23 b.flow k - b23 b.flow a/\b23 b.flow k - b23 b.flow a<=1000000:=by
 have := H0z (f:=b.flow) (B:=1000) hak fun i h1 h2=>hb.flow i (by omega)
 omega
theorem G4v {to k:Nat} (hk:k<=to) (hto:to<n):0<=y18 b to k/\y18 b to k<=B:=by
 have := hb.most k (by omega)
 unfold y18; split
 ·exact hb.come _ _ (by omega) hto
 ·omega
theorem H1v {a to k:Nat} (hak:a<=k) (hk:k<=to) (hto:to<n):0<=way b a to k/\way b a to k<=3000000000:=by
 have h1:=G0t hb hB hn hak (show k<=n by omega)
 have h2:=hb.most k (by omega)
 have h3:=G4v hb hB hn hk hto
 unfold way; omega
theorem H05 {a to:Nat} (ha:a<=to) (hto:to<n):0<=E9j b a to/\E9j b a to<=B:=by
 have h1:=hb.come 0 to (by omega) hto
 have h2:=G0t hb hB hn (show a<=to+1 by omega) (show to+1<=n by omega)
 unfold E9j
 refine ⟨G1f.2 ⟨by omega,fun i hi=>(H1v hb hB hn (by omega) (show a+i<=to by omega) hto).1⟩,?_⟩
 have := G6t (z:=min (b.come 0 to) (b23 b.flow (to+1) - b23 b.flow a)) (g:=way b a to) (a:=a) (n:=to+1 - a)
 omega
theorem G6y {f t:Int} (ht:t<n):0<=E7h b f t/\E7h b f t<=max 0 B:=by
 unfold E7h
 split
 ·omega
 ·have := H05 hb hB hn (a:=(max f 0).toNat) (to:=t.toNat) (by omega) (by omega)
  omega
theorem H06 {f t:Int} (hf : -1000<=f) (ht:t<n):E79 (bdT n b r) f t=some (E7h b f t):=by
 unfold E79 E7h
 by_cases q:t<f\/t<0
 ·rw [if_pos (by simpa using q),if_pos q]
 ·rw [if_neg (by simpa using q),if_neg q]
  obtain ⟨to,hto⟩:∃ to:Nat,t=to:=⟨t.toNat,by omega⟩
  subst hto
  obtain ⟨a,ha⟩:∃ a:Nat,max f 0=a:=⟨(max f 0).toNat,by omega⟩
  have hm:mx f 0=(a:Int):=by rw [N27]; exact ha
  have hat:a<=to:=by omega
  have hton:to<n:=by omega
  rw [hm,ha]
  have e0:((0:Int))=((0:Nat):Int):=rfl
  simp only [bdT]
  rw [e0,c2y (show 0<n by omega)]
  simp only [bS9]
  rw [G2f hton (by omega),show wr ((to:Int)+1)=((to+1:Nat):Int) from by rw [x21 (by omega) (by omega)]; omega,c2y (show to+1<n+1 by omega)]
  simp only [bS9]
  rw [c2y (show a<n+1 by omega)]
  simp only [bS9]
  have hc:=hb.come 0 to (by omega) hton
  have hfd:=G0t hb hB hn (show a<=to+1 by omega) (show to+1<=n by omega)
  rw [x21 (by omega) (by omega),g1r]
  have := p9u (f:=E8a ⟨tab (n+1) (b23 r),tab (n+1) (b23 b.flow),tab n b.most,tab n (E60 n b)⟩ f to) (to+1) (fun s k=>(s,k))
   (fun k=>E63 (min (b.come 0 to) (b23 b.flow (to+1) - b23 b.flow a)) (way b a to) a (k - a)) (E9j b a to) (s0:=min (b.come 0 to) (b23 b.flow (to+1) - b23 b.flow a)) a (by rw [Nat.sub_self]; rfl) (by omega) (fun k hak hk=>?_) (by
    simp only [E8a]
    rw [if_neg (by simp; omega)]; rfl)
  ·rw [this]
   simp [E8u]
  ·have hst:E63 (min (b.come 0 to) (b23 b.flow (to+1) - b23 b.flow a)) (way b a to) a (k+1 - a)=min (E63 (min (b.come 0 to) (b23 b.flow (to+1) - b23 b.flow a)) (way b a to) a (k - a)) (way b a to k):=by
    rw [show k+1 - a=(k - a)+1 by omega]
    show min _ (way b a to (a+(k - a)))=_
    rw [show a+(k - a)=k by omega]
   rw [hst]
   have hfk:=G0t hb hB hn hak (show k<=n by omega)
   have hmk:=hb.most k (by omega)
   have hbk:=G4v hb hB hn (show k<=to by omega) hton
   have fin2:∀ L:Int,E7q ⟨tab (n+1) (b23 r),tab (n+1) (b23 b.flow),tab n b.most,tab n (E60 n b)⟩ f L k (y18 b to k)=some (.nx (min L (way b a to k),(k:Int)+1)):=fun L=>by
    unfold E7q
    simp only [hm]
    rw [c2y (show k<n+1 by omega)]
    simp only [bS9]
    rw [c2y (show a<n+1 by omega)]
    simp only [bS9]
    rw [c2y (show k<n by omega)]
    simp only [bS9]
    rw [x21 (n:=b23 b.flow k - b23 b.flow a) (by omega) (by omega),x21 (n:=b23 b.flow k - b23 b.flow a+b.most k) (by omega) (by omega),x21 (n:=b23 b.flow k - b23 b.flow a+b.most k+y18 b to k) (by omega) (by omega),x21 (n:=(k:Int)+1) (by omega) (by omega),g1r]
    rfl
   simp only [E8a]
   rw [if_pos (by simp; omega)]
   by_cases e:k<to
   ·rw [if_pos (by simpa using e),show wr ((k:Int)+1)=((k+1:Nat):Int) from by rw [x21 (by omega) (by omega)]; omega,c2y (show k+1<n by omega)]
    simp only [bS9]
    rw [G2f hton (by omega)]
    simp only [bS9]
    rw [show b.come (k+1) to=y18 b to k from by unfold y18; rw [if_pos e]]
    exact fin2 _
   ·rw [if_neg (by simpa using e)]
    have := fin2 (E63 (min (b.come 0 to) (b23 b.flow (to+1) - b23 b.flow a)) (way b a to) a (k - a))
    rw [show y18 b to k=0 from by unfold y18; rw [if_neg e]] at this
    exact this
end
def Bn (c:Nat):Int:=48000 * 2 ^ c
theorem G1q (c:Nat):Bn (c+1)=2 * Bn c:=by unfold Bn; rw [Int.pow_succ]; omega
theorem G0j (c:Nat):48000<=Bn c:=by
 induction c with
 | zero=>simp [Bn]
 | succ c ih=>rw [G1q]; omega
theorem G4l (c:Nat):b23 Bn c=Bn c - 48000:=by
 induction c with
 | zero=>simp [G0e,Bn]
 | succ c ih=>rw [E7a,ih,G1q]; omega
theorem G74 {a b:Nat} (h:a<=b):Bn a<=Bn b:=by
 induction b with
 | zero=>have:a=0:=by omega
         subst this; exact Int.le_refl _
 | succ b ih =>
  by_cases e:a=b+1
  ·subst e; exact Int.le_refl _
  ·have := ih (by omega); have:=G0j b; rw [G1q]; omega
theorem E9o {c:Nat} (h:c<=8):Bn c<=1000000000:=by
 have := G74 h
 have e:Bn 8=12288000:=by decide
 omega
theorem G1h {f g:Nat->Int}:∀ {k:Nat},(∀ i,i<k->f i<=g i)->b23 f k<=b23 g k
 | 0,_=>by simp [G0e]
 | k+1,h=>by rw [E7a,E7a]; have:=G1h (k:=k) fun i hi=>h i (by omega); have:=h k (by omega); omega
theorem G36 {f:Nat->Int}:∀ {k:Nat},(∀ i,i<k->0<=f i)->0<=b23 f k
 | 0,_=>by simp [G0e]
 | k+1,h=>by rw [E7a]; have:=G36 (k:=k) fun i hi=>h i (by omega); have:=h k (by omega); omega
structure Rt (h:Hall) (R:Nat->Nat->Int):Prop where
 r : ∀ c t,c<h.Combs.length->t<T h->0<=R c t/\R c t<=1000
section
variable {h:Hall} (hv:V h) {R:Nat->Nat->Int} (hR:Rt h R)
include hv hR
theorem E9v:∀ (c:Nat),c<h.Combs.length->BdOk (bd h R c) (T h) (Bn c):=by
 intro c
 induction c using Nat.strongRecOn with
 | _ c ih =>
  intro hc
  have hn:=hv.1.2.2.2.1
  have hT:=E7p hv
  have hw:∀ s t u,s<=t->t<T h->u<c->0<=o13 h c (bd h R) s t u/\o13 h c (bd h R) s t u<=Bn u:=fun s t u hst ht hu=>by
   obtain ⟨x,hx⟩:=b3b (show u<h.Combs.length by omega)
   have hg:=hv.2.1 u x hx
   unfold E61 at hg
   have hB:=G0j u
   unfold o13
   rw [hx]
   simp only
   split
   ·have := G6y (ih u hu (by omega)) (E9o (by omega)) (show T h<=1000 by omega) (f:=(s:Int) - x.Walk.High) (t:=(t:Int) - x.Walk.Low) (by omega)
    omega
   ·omega
  have hcome:∀ s t,s<=t->t<T h->0<=x67 h c (bd h R) s t/\x67 h c (bd h R) s t<=Bn c:=fun s t hst ht=>by
   unfold x67
   have h1:=G4w hv c s t
   have h2:=G36 (f:=o13 h c (bd h R) s t) (k:=c) fun u hu=>(hw s t u hst ht hu).1
   have h3:=G1h (f:=o13 h c (bd h R) s t) (g:=Bn) (k:=c) fun u hu=>(hw s t u hst ht hu).2
   rw [G4l] at h3
   omega
  have hmost:∀ t,t<T h->0<=E8s (x67 h c (bd h R)) (R c) t/\E8s (x67 h c (bd h R)) (R c) t<=Bn c:=fun t ht=>by
   refine ⟨G6s,G1e.2 ⟨by have:=G0j c; omega,fun i hi=>?_⟩⟩
   rw [Nat.zero_add]
   have h1:=hcome i t (by omega) ht
   have h2:=H00 (f:=R c) (show i<=t by omega) fun j h1 h2=>(hR.r c j hc (by omega)).1
   omega
  rw [E8v]
  exact ⟨hcome,hmost,fun t ht=>by
   have h1:=hmost t ht
   have h2:=hR.r c t hc ht
   simp only [E8r]; omega⟩
theorem G7e {c:Nat} (hc:c<h.Combs.length) {s t:Nat} (hst:s<=t) (ht:t<T h) (u:Nat) (hu:u<=c):0<=b23 (o13 h c (bd h R) s t) u/\b23 (o13 h c (bd h R) s t) u<=1000000000:=by
 have hn:=hv.1.2.2.2.1
 have hT:=E7p hv
 have hw:∀ u,u<c->0<=o13 h c (bd h R) s t u/\o13 h c (bd h R) s t u<=Bn u:=fun u hu=>by
  obtain ⟨x,hx⟩:=b3b (show u<h.Combs.length by omega)
  have hg:=hv.2.1 u x hx
  unfold E61 at hg
  have hB:=G0j u
  unfold o13
  rw [hx]
  simp only
  split
  ·have := G6y (E9v hv hR u (by omega)) (E9o (by omega)) (show T h<=1000 by omega) (f:=(s:Int) - x.Walk.High) (t:=(t:Int) - x.Walk.Low) (by omega)
   omega
  ·omega
 have h2:=G36 (f:=o13 h c (bd h R) s t) (k:=u) fun i hi=>(hw i (by omega)).1
 have h3:=G1h (f:=o13 h c (bd h R) s t) (g:=Bn) (k:=u) fun i hi=>(hw i (by omega)).2
 rw [G4l] at h3
 have := E9o (c:=u) (by omega)
 omega
def E7d (b:Bd) (n s t:Nat):List Int:=tab n fun i=>if s<=i/\i<t then b.come s i else 0
theorem E1g {c:Nat} (hc:c<h.Combs.length) {s:Nat} (hs:s<T h) :
  b0w (E7w h (tab c fun u=>bdT (T h) (bd h R u) (R u)) c s) (tab (T h) (fun _=>0),(s:Int))=some (E60 (T h) (bd h R c) s):=by
 have hn:=hv.1.2.2.2.1
 have hT:=E7p hv
 have hTi:=E9u hv
 have hb:=E9v hv hR c hc
 refine p9u (f:=E7w h (tab c fun u=>bdT (T h) (bd h R u) (R u)) c s) (T h) (fun r k=>(r,k)) (E7d (bd h R c) (T h) s) _ s (by
  unfold E7d
  exact c1m fun i hi=>by rw [if_neg (by omega)]) (by omega) (fun t hst ht=>?_) (by
  simp only [E7w]
  rw [<- hTi,if_neg (by simp)]
  simp only [E7d,E60,iE9,Out.br.injEq]
  exact c1m fun i hi=>by by_cases q:s<=i <;> simp [q,hi])
 simp only [E7w]
 rw [<- hTi,if_pos (by simpa using ht),G8g hv]
 simp only [bS9]
 rw [show get (E7d (bd h R c) (T h) s t) (t:Int)=some 0 from by unfold E7d; rw [c2y ht,if_neg (by omega)]]
 simp only [bS9]
 rw [u9o (by omega) (by omega) (by omega)]
 simp only [bS9]
 have el:(h.Combs.take ((c:Int)).toNat).drop ((0:Int)).toNat=h.Combs.take c:=by simp
 rw [el]
 have hlen:(h.Combs.take c).length=c:=by simp; omega
 have hat:∀ u,u<c->(h.Combs.take c)[u]?=h.Combs[u]?:=fun u hu=>by rw [List.getElem?_take,if_pos hu]
 have := b4h (f:=E8b (tab c fun u=>bdT (T h) (bd h R u) (R u)) c s t (h.Combs.take c)) c (fun r k=>(r,k))
  (fun u=>(E7d (bd h R c) (T h) s t).set t (y27 h c s t+b23 (o13 h c (bd h R) s t) u)) (E7d (bd h R c) (T h) s (t+1)) (s0:=(E7d (bd h R c) (T h) s t).set ((t:Int)).toNat (y27 h c s t)) (by simp [G0e]) (fun u hu=>by
   obtain ⟨x,hx⟩:=b3b (show u<h.Combs.length by omega)
   have hg:=hv.2.1 u x hx
   unfold E61 at hg
   have hx':(h.Combs.take c)[u]?=some x:=by rw [hat u hu]; exact hx
   have hwb:=G7e hv hR hc hst ht u (by omega)
   have hwb':=G7e hv hR hc hst ht (u+1) (by omega)
   have hbb:=G4w hv c s t
   simp only [E8b,hlen]
   rw [if_pos (by simpa using hu),b1h hx']
   simp only [bS9]
   rw [E7a] at hwb' ⊢
   by_cases e:x.Next=(c:Int)
   ·rw [if_pos (by simpa using e)]
    rw [show get ((E7d (bd h R c) (T h) s t).set t (y27 h c s t+b23 (o13 h c (bd h R) s t) u)) (t:Int)=some (y27 h c s t+b23 (o13 h c (bd h R) s t) u) from by unfold E7d; rw [d5i,c2y ht,if_pos rfl]]
    simp only [bS9]
    rw [c2y hu]
    simp only [bS9]
    rw [x21 (n:=(s:Int) - x.Walk.High) (by omega) (by omega),x21 (n:=(t:Int) - x.Walk.Low) (by omega) (by omega),
     H06 (E9v hv hR u (by omega)) (E9o (by omega)) (by omega) (by omega) (by omega)]
    have ew:o13 h c (bd h R) s t u=E7h (bd h R u) ((s:Int) - x.Walk.High) ((t:Int) - x.Walk.Low):=by
     unfold o13; rw [hx]; simp only; rw [if_pos e]
    rw [<- ew]
    simp only [bS9,E70]
    rw [x21 (n:=y27 h c s t+b23 (o13 h c (bd h R) s t) u+o13 h c (bd h R) s t u) (by omega) (by omega),x21 (n:=(u:Int)+1) (by omega) (by omega)]
    simp [Int.add_assoc]
   ·rw [if_neg (by simpa using e)]
    have ew:o13 h c (bd h R) s t u=0:=by
     unfold o13; rw [hx]; simp only; rw [if_neg e]
    rw [ew,Int.add_zero]
    simp only [E70]
    rw [x21 (n:=(u:Int)+1) (by omega) (by omega)]) (by
   simp only [E8b,hlen]
   rw [if_neg (by simp)]
   simp only [iE9,Out.br.injEq]
   unfold E7d
   rw [d5i]
   refine c1m fun i hi=>?_
   by_cases e:i=t
   ·subst e
    rw [if_pos rfl,if_pos (by omega)]
    rw [E8v]; rfl
   ·rw [if_neg e]
    by_cases q:s<=i/\i<t
    ·rw [if_pos q,if_pos (by omega)]
    ·rw [if_neg q,if_neg (by omega)])
 rw [this]
 simp only [bS9,E86]
 rw [x21 (n:=(t:Int)+1) (by omega) (by omega)]
end
section
variable {h:Hall} (hv:V h) {R:Nat->Nat->Int} (hR:Rt h R)
include hv hR
abbrev opT (h:Hall) (R:Nat->Nat->Int):List (List Int):=tab h.Combs.length fun c=>tab (T h) (R c)
omit hv in
theorem G4b {c:Nat} (hc:c<h.Combs.length) {k:Nat} (hk:k<=T h):0<=b23 (R c) k/\b23 (R c) k<=1000 * k :=
 G35 fun i hi=>hR.r c i hc (by omega)
theorem G84 {c:Nat} (hc:c<h.Combs.length) :
  b0w (E7x h (opT h R) (tab c fun u=>bdT (T h) (bd h R u) (R u)) c) ([0],[],0)=some (tab (T h+1) (b23 (R c)),tab (T h) (E60 (T h) (bd h R c))):=by
 have hT:=E7p hv
 have hTi:=E9u hv
 refine b4h (f:=E7x h (opT h R) (tab c fun u=>bdT (T h) (bd h R u) (R u)) c) (T h) (fun (p:List Int × List (List Int)) k=>(p.1,p.2,k))
  (fun k=>(tab (k+1) (b23 (R c)),tab k (E60 (T h) (bd h R c)))) _ (s0:=([0],[])) rfl (fun s hs=>?_) (by
  simp only [E7x]
  rw [<- hTi,if_neg (by simp)])
 simp only [E7x]
 rw [<- hTi,if_pos (by simpa using hs),g1q (by omega) (by omega)]
 simp only [bS9]
 rw [E1g hv hR hc hs]
 simp only [bS9,E84]
 rw [b9k (by simp [b3y]; omega)]
 simp only [bS9]
 rw [c2y (show s<s+1 by omega)]
 simp only [bS9]
 rw [c2y hc]
 simp only [bS9]
 rw [c2y hs]
 simp only [bS9]
 rw [b9k (by simp [b3y]; omega)]
 simp only [bS9,E83]
 have h1:=G4b hR hc (show s<=T h by omega)
 have h2:=hR.r c s hc hs
 rw [x21 (n:=b23 (R c) s+R c s) (by omega) (by omega),x21 (n:=(s:Int)+1) (by omega) (by omega),<- E7a,<- l5w,<- l5w]
theorem H0t {c:Nat} (hc:c<h.Combs.length) {t:Nat} (ht:t<T h) :
  b0w (E7y (tab (T h+1) (b23 (R c))) (tab (T h) (E60 (T h) (bd h R c))) t) (0,0)=some ((bd h R c).most t):=by
 have hT:=E7p hv
 have hb:=E9v hv hR c hc
 have hn:=hv.1.2.2.2.1
 have hB:=E9o (c:=c) (by omega)
 have e1:wr ((t:Int)+1)=((t+1:Nat):Int):=by rw [x21 (by omega) (by omega)]; omega
 have em:(bd h R c).most t=E69 0 (fun s=>(bd h R c).come s t - (b23 (R c) t - b23 (R c) s)) 0 (t+1):=by rw [E8v]; rfl
 refine b4h (f:=E7y (tab (T h+1) (b23 (R c))) (tab (T h) (E60 (T h) (bd h R c))) t) (t+1) (fun p k=>(p,k))
  (E69 0 (fun s=>(bd h R c).come s t - (b23 (R c) t - b23 (R c) s)) 0) _ (s0:=0) rfl (fun s hs=>?_) (by
  simp only [E7y,e1]
  rw [if_neg (by simp),em])
 simp only [E7y,e1]
 rw [if_pos (by simp; omega),c2y (show s<T h by omega)]
 simp only [bS9]
 rw [G2f ht (by omega)]
 simp only [bS9]
 rw [c2y (show t<T h+1 by omega)]
 simp only [bS9]
 rw [c2y (show s<T h+1 by omega)]
 simp only [bS9]
 have h1:=G4b hR hc (show s<=T h by omega)
 have h2:=G4b hR hc (show t<=T h by omega)
 have h3:=hb.come s t (by omega) ht
 rw [x21 (n:=b23 (R c) t - b23 (R c) s) (by omega) (by omega),x21 (n:=(bd h R c).come s t - (b23 (R c) t - b23 (R c) s)) (by omega) (by omega),x21 (n:=(s:Int)+1) (by omega) (by omega),N27]
 simp only [E69,Nat.zero_add]
theorem G9g {c:Nat} (hc:c<h.Combs.length) :
  b0w (E7z h (opT h R) c (tab (T h+1) (b23 (R c))) (tab (T h) (E60 (T h) (bd h R c)))) ([0],[],0)=some (tab (T h+1) (b23 (bd h R c).flow),tab (T h) (bd h R c).most):=by
 have hT:=E7p hv
 have hTi:=E9u hv
 have hb:=E9v hv hR c hc
 refine b4h (f:=E7z h (opT h R) c (tab (T h+1) (b23 (R c))) (tab (T h) (E60 (T h) (bd h R c)))) (T h) (fun (p:List Int × List Int) k=>(p.1,p.2,k))
  (fun k=>(tab (k+1) (b23 (bd h R c).flow),tab k (bd h R c).most)) _ (s0:=([0],[])) rfl (fun t ht=>?_) (by
  simp only [E7z]
  rw [<- hTi,if_neg (by simp)])
 simp only [E7z]
 rw [<- hTi,if_pos (by simpa using ht),H0t hv hR hc ht]
 simp only [bS9,E82]
 rw [b9k (by simp [b3y]; omega)]
 simp only [bS9]
 rw [c2y (show t<t+1 by omega)]
 simp only [bS9]
 rw [c2y hc]
 simp only [bS9]
 rw [c2y ht]
 simp only [bS9]
 rw [b9k (by simp [b3y]; omega)]
 simp only [bS9,E81]
 have ef:min ((bd h R c).most t) (R c t)=(bd h R c).flow t:=by rw [E8v]; rfl
 have h1:=G35 (f:=(bd h R c).flow) (B:=1000) (k:=t) fun i hi=>hb.flow i (by omega)
 have h2:=hb.flow t ht
 rw [g1r,ef,x21 (n:=b23 (bd h R c).flow t+(bd h R c).flow t) (by omega) (by omega),x21 (n:=(t:Int)+1) (by omega) (by omega),<- E7a,<- l5w,<- l5w]
theorem G8f:E7b h (opT h R)=some (tab h.Combs.length fun c=>bdT (T h) (bd h R c) (R c)):=by
 have hn:=hv.1.2.2.2.1
 unfold E7b
 have := b4h (f:=E8c h (opT h R)) h.Combs.length (fun s k=>(s,k)) (fun k=>tab k fun c=>bdT (T h) (bd h R c) (R c)) (tab h.Combs.length fun c=>bdT (T h) (bd h R c) (R c)) (s0:=[]) rfl (fun c hc=>by
  simp only [E8c]
  rw [if_pos (by simpa using hc),G84 hv hR hc]
  simp only [bS9,E87]
  rw [G9g hv hR hc]
  simp only [bS9,E80]
  rw [b9k (by simp [b3y]; omega)]
  simp only [bS9,E85]
  rw [x21 (n:=(c:Int)+1) (by omega) (by omega),l5w (n:=c)]
  rfl) (by simp [E8c])
 rw [this]; rfl
end
theorem H03 {h:Hall} (hv:V h):Rt h (u8s h):=⟨fun c t _ _=>H08 hv t⟩
theorem H02 {h:Hall} (hv:V h):(E68 h).bind (E7b h)=some (tab h.Combs.length fun c=>bdT (T h) (bd h (u8s h) c) (u8s h c)):=by
 rw [H01 hv]; exact G8f hv (H03 hv)
abbrev own (h:Hall):Nat->Bd:=bd h (u8s h)
theorem G8b {h:Hall} (hv:V h):E66 h:=by
 obtain ⟨⟨s1,s2,s3,s4,s5,s6⟩,hc,ht,hs⟩:=hv
 have at_:∀ {α:Type} {l:List α} {x:α},x∈l->∃ k:Nat,l[k]?=some x:=fun {α l x} hx=>by
  obtain ⟨j,hj,rfl⟩:=List.getElem_of_mem hx
  exact ⟨j,gG9 hj⟩
 refine ⟨⟨by show _<=maxLen; simp only [maxLen]; omega,fun x hx=>?_⟩,⟨by show _<=maxLen; simp only [maxLen]; omega,fun x hx=>?_⟩,⟨by show _<=maxLen; simp only [maxLen]; omega,fun x hx=>?_⟩,by unfold b5k; omega⟩
 ·obtain ⟨k,hk⟩:=at_ hx
  have := hc k x hk
  unfold E61 at this
  simp only [E9r,E7o,b5k]; omega
 ·obtain ⟨k,hk⟩:=at_ hx
  obtain ⟨q1,q2,q3,q4,q5⟩:=ht k x hk
  refine ⟨by simp only [E7o,b5k]; omega,by show _<=maxLen; simp only [maxLen]; omega,fun y hy=>?_⟩
  obtain ⟨j,hj⟩:=at_ hy
  have h5:=q5 j y hj
  have : -1<y.Comb:=by
   have key:∀ (j:Nat) (y:Crowd),x.Crowds[j]?=some y -> -1<y.Comb:=by
    intro j
    induction j with
    | zero=>intro y hy; exact (q5 0 y hy).2.2.2.2
    | succ j ih =>
     intro y hy
     obtain ⟨z,hz⟩:=b3b (show j<x.Crowds.length by have:=b1k hy; omega)
     have := ih z hz
     have := (q5 (j+1) y hy).2.2.2.2 z hz
     omega
   exact key j y hj
  unfold E62 at h5
  simp only [E9s,E7o,b5k]; omega
 ·obtain ⟨k,hk⟩:=at_ hx
  have := hs k x hk
  unfold E8x at this
  simp only [E9t,b5k]; omega
theorem G75 {h:Hall} (hk:E66 h):(V h/\E6y h=some 0/\E64 h=some 0)\/(¬ V h/\E6y h=some 60/\E64 h=some 60):=by
 rcases G76 hk with ⟨h1,h2⟩|⟨h1,h2⟩
 ·exact .inl ⟨h1,h2,h2⟩
 ·exact .inr ⟨h1,h2,h2⟩
theorem G77 {h:Hall} (hv:V h):E6y h=some 0/\E64 h=some 0:=by
 rcases G75 (G8b hv) with ⟨_,h1,h2⟩|⟨h1,_⟩
 ·exact ⟨h1,h2⟩
 ·exact absurd hv h1
theorem G83 {h:Hall} (hv:V h) (c:Int) (ts:List Int) (hl:ts.length<=maxLen) :
  E7l h c ts=some (if (0<=c/\c<h.Combs.length)/\∀ t∈ts,0<=t/\t<h.Until then 0 else 1):=by
 unfold E7l
 rw [(G77 hv).1]
 simp only [bS9]
 rw [if_neg (by simp)]
 by_cases q:0<=c/\c<h.Combs.length
 ·rw [if_neg (by simp; omega)]
  obtain ⟨b,b1,b2⟩:=H0c (l:=ts) (f:=fun z=>some (E7m z h)) (p:=fun t=>¬ (0<=t/\t<h.Until)) hl fun t ht=>⟨_,rfl,by
   simp only [E7m,Bool.or_eq_true,decide_eq_true_eq]; omega⟩
  rw [b1]
  simp only [bS9]
  cases b with
  | true =>
   obtain ⟨t,h1,h2⟩:=b2.1 rfl
   rw [if_pos rfl,if_neg fun hh=>h2 (hh.2 t h1)]
  | false =>
   rw [if_neg (by simp),if_pos ⟨q,fun t ht=>Classical.byContradiction fun hh=>by have:=b2.2 ⟨t,ht,hh⟩; cases this⟩]
 ·rw [if_pos (by simp; omega)]
  simp only [bS9,if_true]
  rw [if_neg fun hh=>q hh.1]
theorem G82 {h:Hall} (hv:V h) {c:Nat} (hc:c<h.Combs.length):E7l h c []=some 0:=by
 rw [G83 hv c [] (by simp),if_pos ⟨by omega,fun t ht=>by cases ht⟩]
theorem G8e {h:Hall} (hv:V h) {α:Type} (f:List halls_bound->Option α):((E68 h).bind fun y=>(E7b h y).bind f)=f (tab h.Combs.length fun c=>bdT (T h) (own h c) (u8s h c)):=by
 have := H02 hv
 cases e:E68 h with
 | none=>rw [e] at this; cases this
 | some y =>
  rw [e] at this
  simp only [bS9] at this ⊢
  rw [this]; rfl
theorem G4o {h:Hall} (hv:V h) {c:Nat} (hc:c<h.Combs.length):E8z h c=some (tab (T h) (own h c).most,0):=by
 unfold E8z
 rw [G82 hv hc]
 simp only [bS9]
 rw [if_neg (by simp),G8e hv,c2y hc]
 rfl
section
variable {h:Hall} (hv:V h) {c:Nat} (hc:c<h.Combs.length) {r:Int} (hr:0<=r/\r<=1000)
include hv hc
end
section
variable {h:Hall} (hv:V h) {c:Nat} {f k:Nat}
include hv
end
section
variable {h:Hall} (hv:V h) {c:Nat} (hc:c<h.Combs.length) {f:Nat} (hf:f<T h)
include hv hc hf
end
def N5f (x:Train) (a:Int) (p:List Int):Prop:=(x.At.Low<=a/\a<=x.At.High)/\p.length=x.Crowds.length/\∀ (k:Nat) y n,x.Crowds[k]?=some y->p[k]?=some n->y.People.Low<=n/\n<=y.People.High
def N5g (x:Comb) (w:List Int):Prop:=1<=w.length/\w.length<=20/\∀ n∈w,x.Walk.Low<=n/\n<=x.Walk.High
structure Fit (h:Hall) (d:Day):Prop where
 at_ : d.At.length=h.Trains.length
 people : d.People.length=h.Trains.length
 walks : d.Walks.length=h.Combs.length
 ride : ∀ (i:Nat) x a p,h.Trains[i]?=some x->d.At[i]?=some a->d.People[i]?=some p->N5f x a p
 walk : ∀ (u:Nat) x w,h.Combs[u]?=some x->d.Walks[u]?=some w->N5g x w
section
variable {d:Day} {i:Nat} {x:Train} {p:List Int} (hp:d.People[i]?=some p) (hl:p.length=x.Crowds.length) (hm:x.Crowds.length<=maxLen)
include hp hl hm
end
section
variable {h:Hall} (hv:V h) {d:Day} (hd:N35 d)
include hv hd
end
def dAt (d:Day) (i:Nat):Int:=(d.At[i]?).getD 0
def dPe (d:Day) (i k:Nat):Int:=(((d.People[i]?).getD [])[k]?).getD 0
def wlk (d:Day) (u t:Nat):Nat:=((((d.Walks[u]?).getD [])[t % ((d.Walks[u]?).getD []).length]?).getD 0).toNat
def tr (h:Hall) (i:Nat):Train:=(h.Trains[i]?).getD default
def crC (h:Hall) (i k:Nat):Int:=(((tr h i).Crowds[k]?).map (·.Comb)).getD (-1)
def nxt (h:Hall) (u:Nat):Int:=((h.Combs[u]?).map (·.Next)).getD (-1)
def N4a (h:Hall) (d:Day) (c i k:Nat):Int:=if crC h i k=(c:Int) then dPe d i k else 0
def N39 (h:Hall) (d:Day) (t c i:Nat):Int:=if dAt d i=(t:Int) then b23 (N4a h d c i) (tr h i).Crowds.length else 0
def arr (h:Hall) (d:Day) (t c:Nat):Int:=b23 (N39 h d t c) h.Trains.length
def psN (h:Hall) (n:Nat->Nat->Int) (t c:Nat):Int:=min (n t c) (u8s h c t)
def lfN (h:Hall) (n:Nat->Nat->Int) (t c:Nat):Int:=n t c - psN h n t c
def Wt (h:Hall) (d:Day) (p:Nat->Nat->Int) (s e u t:Nat):Int:=if nxt h u=(e:Int)/\t+wlk d u t=s then p t u else 0
def P82 (h:Hall) (d:Day) (n:Nat->Nat->Int) (t c:Nat):Int:=(arr h d t c+b23 (fun u=>b23 (Wt h d (psN h n) t c u) t) h.Combs.length)+if 0<t then lfN h n (t - 1) c else 0
def nL (h:Hall) (d:Day):Nat->Nat->Nat->Int
 | 0=>fun _ _=>0
 | k+1=>fun t c=>if t=k then P82 h d (nL h d k) k c else nL h d k t c
def nn (h:Hall) (d:Day) (t c:Nat):Int:=nL h d (t+1) t c
abbrev ps (h:Hall) (d:Day):Nat->Nat->Int:=psN h (nn h d)
section
variable {h:Hall} {d:Day}
variable (hv:V h) (hf:Fit h d)
include hv hf
end
section
variable {h:Hall} {d:Day} (hv:V h) (hf:Fit h d)
include hv hf
end
section
variable {h:Hall} {d:Day} (hv:V h) (hf:Fit h d)
include hv hf
end
section
variable {h:Hall} (hv:V h)
include hv
end
end Go.Nw.EM.H
namespace Go.Nw.EM
open Go.Nw.EM.H
def b26 (w n:Int):Hall:=Hall.mk ([(Comb.mk w 0 (-1) (Span.mk 1 1))]) ([(Train.mk (Span.mk 0 0) ([(Crowd.mk 0 (Span.mk n n))]))]) ([]) 100
def N0x (w n:Int) (t:Nat):Int:=max 0 (n - w * (t:Int))
theorem N2j {α:Type} {a x:α} {k:Nat} (h:[a][k]?=some x):k=0/\x=a:=by
 cases k with
 | zero=>simp at h; exact ⟨rfl,h.symm⟩
 | succ k=>simp at h
section
variable {w n:Int} (hw:1<=w/\w<=100) (hn:1<=n/\n<=1000)
include hw hn
theorem v_E:V (b26 w n):=by
 refine ⟨?_,fun k x hx=>?_,fun k x hx=>?_,fun k x hx=>by simp [b26] at hx⟩
 ·unfold E7j b26; simp
 ·obtain ⟨rfl,rfl⟩:=N2j hx
  unfold E61 b26; simp; omega
 ·obtain ⟨rfl,rfl⟩:=N2j hx
  unfold E7s b26
  refine ⟨by show (0:Int)<=0; decide,by show (0:Int)<=0; decide,by show (0:Int)<=100 - 1; decide,by show 1<=4; decide,fun j y hy=>?_⟩
  obtain ⟨rfl,rfl⟩:=N2j hy
  unfold E62; simp; omega
theorem T_E:T (b26 w n)=100:=rfl
theorem N7i (t:Nat):u8s (b26 w n) 0 t=w:=rfl
theorem N2h (k:Nat):b23 (u8s (b26 w n) 0) k=w * (k:Int):=by
 induction k with
 | zero=>simp [b23]
 | succ k ih =>
  rw [E7a,ih,N7i hw hn,show ((k+1:Nat):Int)=(k:Int)+1 by omega,Int.mul_add,Int.mul_one]
theorem N4i (s t:Nat):y27 (b26 w n) 0 s t=if s=0 then n else 0:=by
 unfold y27 b26
 simp only [List.map_cons,List.map_nil,List.sum_cons,List.sum_nil,x12,M95]
 by_cases h:s=0
 ·subst h
  rw [if_neg (by simp),if_pos rfl]
  simp
 ·rw [if_pos (by left; show (0:Int)<(s:Int); omega),if_neg h]; rfl
theorem N6z (t:Nat):(own (b26 w n) 0).most t=N0x w n t:=by
 show (bd (b26 w n) (u8s (b26 w n)) 0).most t=_
 rw [E8v]
 show E8s (x67 (b26 w n) 0 _) (u8s (b26 w n) 0) t=_
 unfold E8s
 have hg:∀ s,x67 (b26 w n) 0 (bd (b26 w n) (u8s (b26 w n))) s t=if s=0 then n else 0:=fun s=>by
  unfold x67
  rw [N4i hw hn,G0e,Int.add_zero]
 unfold N0x
 have hlow:max 0 (n - w * (t:Int))<=E69 0 (fun s=>x67 (b26 w n) 0 (bd (b26 w n) (u8s (b26 w n))) s t - (b23 (u8s (b26 w n) 0) t - b23 (u8s (b26 w n) 0) s)) 0 (t+1):=by
  have h1:=G6s (z:=0) (g:=fun s=>x67 (b26 w n) 0 (bd (b26 w n) (u8s (b26 w n))) s t - (b23 (u8s (b26 w n) 0) t - b23 (u8s (b26 w n) 0) s)) (a:=0) (n:=t+1)
  have h2:=H0m (z:=0) (g:=fun s=>x67 (b26 w n) 0 (bd (b26 w n) (u8s (b26 w n))) s t - (b23 (u8s (b26 w n) 0) t - b23 (u8s (b26 w n) 0) s)) (a:=0) (n:=t+1) (i:=0) (by omega)
  simp only [Nat.add_zero,hg,if_true,N2h hw hn,G0e,Int.sub_zero] at h2
  rw [show w * ((0:Nat):Int)=0 by simp] at h2
  simp only [hg,N2h hw hn] at h1 ⊢
  omega
 refine Int.le_antisymm (G1e.2 ⟨by omega,fun s hs=>?_⟩) hlow
 simp only [Nat.zero_add,hg,N2h hw hn]
 by_cases h:s=0
 ·subst h
  rw [if_pos rfl,show w * ((0:Nat):Int)=0 by simp]
  omega
 ·rw [if_neg h]
  have : w * (s:Int)<=w * (t:Int):=Int.mul_le_mul_of_nonneg_left (by omega) (by omega)
  omega
theorem N34:E8z (b26 w n) 0=some (tab 100 (N0x w n),0):=by
 have h:=G4o (v_E hw hn) (c:=0) (by show 0<1; decide)
 rw [T_E hw hn] at h
 have e:tab 100 (own (b26 w n) 0).most=tab 100 (N0x w n):=c1m fun t _=>N6z hw hn t
 rw [e] at h
 exact h
end
end Go.Nw.EM
namespace Go.Nw.EM
def stB (d w o:Int):Station:=Station.mk 3 ([(Passage.mk 0 1 2 d w (-1) 0),(Passage.mk 2 0 5 d o (-1) 0)]) ([1,2])
theorem wrs {n:Int} (h1 : -100000<=n) (h2:n<=100000):wr n=n:=b3t (by omega) (by omega)
section
variable {d w o n T:Int} (hd:1<=d/\d<=20) (hw:1<=w/\w<=50) (ho:1<=o/\o<=50) (hn:1<=n/\n<=1000) (hT:0<=T/\T<=60)
include hd hw
include ho
theorem N68:B80 (Passage.mk 0 1 2 d w (-1) 0) 3=true:=by
 unfold B80 B81 b53
 rw [wrs (n:=3 - 1) (by omega) (by omega)]
 rw [if_neg (by simp; omega)]
 simp
theorem N69:B80 (Passage.mk 2 0 5 d o (-1) 0) 3=true:=by
 unfold B80 B81 b53
 rw [wrs (n:=3 - 1) (by omega) (by omega)]
 rw [if_neg (by simp; omega)]
 simp
theorem N4u:B9i (stB d w o)=some 0:=by
 unfold B9i
 rw [if_neg (by simp [stB,b53])]
 have s0:B9j (stB d w o) (([]:List (Int × Int)),0)=some (.nx (b3w ([]:List (Int × Int)) (-1) (wr (b2w ([]:List (Int × Int)) (-1) 0+1)),1)):=by
  unfold B9j
  have g:get (stB d w o).Passages 0=some (Passage.mk 0 1 2 d w (-1) 0):=rfl
  simp only [g,bS9]
  rw [if_pos (by simp [stB]),if_neg (by rw [show (stB d w o).Places=3 from rfl,N68 hd hw ho]; simp),if_neg (by simp),wrs (n:=0+1) (by omega) (by omega)]
  rfl
 have s1:∀ m,∃ m',B9j (stB d w o) (m,1)=some (.nx (m',2)):=fun m=>by
  unfold B9j
  have g:get (stB d w o).Passages 1=some (Passage.mk 2 0 5 d o (-1) 0):=rfl
  simp only [g,bS9]
  rw [if_pos (by simp [stB]),if_neg (by rw [show (stB d w o).Places=3 from rfl,N69 hd hw ho]; simp),if_neg (by simp),wrs (n:=1+1) (by omega) (by omega)]
  exact ⟨_,rfl⟩
 rw [w91 s0]
 obtain ⟨m',e⟩:=s1 (b3w ([]:List (Int × Int)) (-1) (wr (b2w ([]:List (Int × Int)) (-1) 0+1)))
 rw [w91 e,b3d (b:=.inl ()) (by unfold B9j; simp [stB])]
 simp only [bS9]
 unfold B9l
 have x1:B9k (stB d w o) ((-1),0)=some (.nx (1,1)):=by
  unfold B9k
  have g:get (stB d w o).Exits 0=some 1:=rfl
  simp only [g,bS9]
  rw [if_pos (by simp [stB]),if_neg (by rw [show (stB d w o).Places=3 from rfl,wrs (n := -1+1) (by omega) (by omega),wrs (n:=3 - 1) (by omega) (by omega)]; unfold b53; simp),wrs (n:=0+1) (by omega) (by omega)]
  rfl
 have x2:B9k (stB d w o) (1,1)=some (.nx (2,2)):=by
  unfold B9k
  have g:get (stB d w o).Exits 1=some 2:=rfl
  simp only [g,bS9]
  rw [if_pos (by simp [stB]),if_neg (by rw [show (stB d w o).Places=3 from rfl,wrs (n:=1+1) (by omega) (by omega),wrs (n:=3 - 1) (by omega) (by omega)]; unfold b53; simp),wrs (n:=1+1) (by omega) (by omega)]
  rfl
 rw [w91 x1,w91 x2,b3d (b:=.inl ()) (by unfold B9k; simp [stB])]
 rfl
omit ho hd hw
include hn
theorem N41:N06 (stB d w o) [n,0,0]=some true:=by
 unfold N06
 have s0:N0c [n,0,0] 0=some (.nx 1):=by
  unfold N0c
  have g:get [n,0,0] 0=some n:=rfl
  simp only [g,bS9]
  rw [if_pos (by simp),if_neg (by unfold b53; simp; omega),wrs (n:=0+1) (by omega) (by omega)]
  rfl
 have s1:N0c [n,0,0] 1=some (.nx 2):=by
  unfold N0c
  have g:get [n,0,0] 1=some 0:=rfl
  simp only [g,bS9]
  rw [if_pos (by simp),if_neg (by unfold b53; simp),wrs (n:=1+1) (by omega) (by omega)]
  rfl
 have s2:N0c [n,0,0] 2=some (.nx 3):=by
  unfold N0c
  have g:get [n,0,0] 2=some 0:=rfl
  simp only [g,bS9]
  rw [if_pos (by simp),if_neg (by unfold b53; simp),wrs (n:=2+1) (by omega) (by omega)]
  rfl
 rw [w91 s0,w91 s1,w91 s2,b3d (b:=.inl ()) (by unfold N0c; rw [if_neg (by simp)])]
 rfl
include hd hw hT
include ho
theorem N6r:N07 (stB d w o) 0 [n,0,0] T=some 0:=by
 unfold N07
 rw [N4u hd hw ho]
 simp only [bS9]
 rw [if_neg (by simp),if_neg (by unfold b53; simp),N41 hn]
 simp only [bS9]
 rw [if_neg (by unfold b53; simp; omega)]
omit ho
include ho
theorem N5d:Gd (stB d w o) [n,0,0] T:=by
 refine ⟨by show (1:Int)<=3/\(3:Int)<=10; decide,rfl,fun x hx=>?_,hT,by show 1<=2/\2<=24; decide,fun p hp=>?_,by show 1<=2/\2<=24; decide⟩
 ·simp only [List.mem_cons,List.not_mem_nil,or_false] at hx
  rcases hx with rfl|rfl|rfl <;> omega
 ·simp only [stB,List.mem_cons,List.not_mem_nil,or_false] at hp
  unfold GdP
  simp only [stB]
  rcases hp with rfl|rfl
  ·dsimp only
   exact ⟨by omega,by omega,by omega,hd,by omega,by decide,by decide⟩
  ·dsimp only
   exact ⟨by omega,by omega,by omega,hd,by omega,by decide,by decide⟩
omit ho hT
include ho
theorem N7o:Star (stB d w o) [n,0,0] n 3 d.toNat [(0,0,1,d,w),(1,0,2,d,o)]:=by
 refine ⟨rfl,by decide,by simp [stB],fun q h1 h2=>?_,rfl,fun q h1=>?_,?_,fun x hx=>?_,by omega,by omega⟩
 ·have : q=1\/q=2:=by omega
  rcases this with rfl|rfl <;> simp [stB]
 ·match q,h1 with
  | 1,_=>rfl
  | 2,_=>rfl
  | q+3,_=>rfl
 ·simp [M99,N10,N11,stB,List.zipIdx]
 ·simp only [List.mem_cons,List.not_mem_nil,or_false] at hx
  rcases hx with rfl|rfl
  ·exact ⟨rfl,⟨1,by omega,by omega,rfl⟩,by show d=_; omega,by show 0<=w; omega⟩
  ·exact ⟨rfl,⟨2,by omega,by omega,rfl⟩,by show d=_; omega,by show 0<=o; omega⟩
include hT
theorem N33:N05 (stB d w o) 0 [n,0,0] T=some (min n ((w+o) * max 0 (T+1 - d)),0):=by
 unfold N05
 rw [N6r hd hw ho hn hT]
 simp only [bS9]
 rw [if_neg (by simp),if_pos (N5d hd hw ho hn hT),N6s (N7o hd hw ho hn) T.toNat (by omega)]
 simp only [bS9,K73]
 have e1:((T.toNat+1 - d.toNat:Nat):Int)=max 0 (T+1 - d):=by omega
 rw [e1,Int.add_zero]
omit ho
end
theorem N4h (hme:L1k=some true) (x:neweltop_Room) (other:Int) (hx:N1e x) (hot:b5k other):N0z x other=some true:=by
 unfold N0z
 rw [hme]
 simp only [bS9]
 split
 ·rfl
 rename_i hg
 simp only [Bool.or_eq_true,decide_eq_true_eq,not_or] at hg
 obtain ⟨⟨⟨⟨⟨⟨⟨⟨⟨g1,g2⟩,g3⟩,g4⟩,g5⟩,g6⟩,g7⟩,g8⟩,g9⟩,g10⟩:=hg
 have hn:1<=x.People/\x.People<=1000:=by omega
 have hw:1<=x.Wide/\x.Wide<=50:=by omega
 have ho:1<=other/\other<=50:=by omega
 have hd:1<=x.Ticks/\x.Ticks<=20:=by omega
 have hT:0<=x.Tick/\x.Tick<=60:=by omega
 rw [wrs (n:=x.Wide+other) (by omega) (by omega)]
 have hM:=N34 (w:=x.Wide+other) (n:=x.People) (by omega) hn
 have hL:=N33 hd hw ho hn hT
 unfold b26 at hM
 unfold stB at hL
 rw [hM]
 simp only [bS9]
 rw [hL]
 simp only [bS9]
 rw [if_neg (by simp [b3y])]
 rw [wrs (n:=x.Tick - x.Ticks) (by omega) (by omega)]
 unfold N00
 rw [hme]
 simp only [bS9]
 split
 ·rename_i hle
  have hle:=of_decide_eq_true hle
  obtain ⟨t,ht⟩:∃ t:Nat,x.Tick - x.Ticks=t:=⟨(x.Tick - x.Ticks).toNat,by omega⟩
  rw [ht,c2y (by omega)]
  simp only [bS9]
  have hm1:max 0 (x.Tick+1 - x.Ticks)=(t:Int)+1:=by omega
  rw [hm1]
  have hmul:(x.Wide+other) * ((t:Int)+1)=(x.Wide+other) * (t:Int)+(x.Wide+other):=by rw [Int.mul_add,Int.mul_one]
  have hb0:0<=(x.Wide+other) * (t:Int):=Int.mul_nonneg (by omega) (by omega)
  unfold N0x
  have hmx:∀ a b:Int,mx a b=max a b:=fun a b=>by unfold mx; omega
  rw [wrs (n:=max 0 (x.People - (x.Wide+other) * (t:Int)) - x.Wide) (by omega) (by omega),wrs (n:=max 0 (x.People - (x.Wide+other) * (t:Int)) - x.Wide - other) (by omega) (by omega),hmx,wrs (by omega) (by omega),if_pos (decide_eq_true (by rw [hmul]; omega))]
  rfl
 ·rename_i hle
  have hle:¬ 0<=x.Tick - x.Ticks:=fun h=>hle (decide_eq_true h)
  have hm1:max 0 (x.Tick+1 - x.Ticks)=0:=by omega
  rw [hm1,Int.mul_zero,wrs (by omega) (by omega),if_pos (decide_eq_true (by omega))]
  rfl
end Go.Nw.EM
