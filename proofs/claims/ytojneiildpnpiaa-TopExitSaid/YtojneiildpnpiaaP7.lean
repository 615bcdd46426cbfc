/- Plain laws on the models. -/
import Derived.Test.YtojneiildpnpiaaEM
import Derived.Test.YtojneiildpnpiaaNwTypes
import Derived.Test.YtojneiildpnpiaaP2
import Derived.Test.YtojneiildpnpiaaP5
set_option linter.all false
namespace Go.Nw.EM
instance instBd:Bd:=⟨maxLen,Nat.le_refl _⟩
def N1e (x:neweltop_Room):Prop:=b5k x.People/\b5k x.Wide/\b5k x.Ticks/\b5k x.Tick
def N47 (x:neweltop_Room):List AV:=[I x.People,I x.Wide,I x.Ticks,I x.Tick]
theorem N7l {r:List AV} (h:MtL [.i .i64,.i .i64,.i .i64,.i .i64] r):∃ x:neweltop_Room,r=N47 x/\N1e x:=by
 obtain ⟨a0,r0,rfl,h0,g0⟩:=b3e h
 obtain ⟨a1,r1,rfl,h1,g1⟩:=b3e g0
 obtain ⟨a2,r2,rfl,h2,g2⟩:=b3e g1
 obtain ⟨a3,r3,rfl,h3,g3⟩:=b3e g2
 obtain ⟨v0,rfl,k0⟩:=b6n h0
 obtain ⟨v1,rfl,k1⟩:=b6n h1
 obtain ⟨v2,rfl,k2⟩:=b6n h2
 obtain ⟨v3,rfl,k3⟩:=b6n h3
 exact ⟨⟨v0,v1,v2,v3⟩,by rw [b6o g3]; rfl,⟨k0,k1,k2,k3⟩⟩
abbrev N2s:List Sh:=[.i .i64,.i .i64,.i .i64,.i .i64]
theorem N7u {a:AV} (h:MtA (.agg N2s) a):∃ x:neweltop_Room,a = .agg [I x.People,I x.Wide,I x.Ticks,I x.Tick]/\N1e x:=by
 obtain ⟨r,rfl,hr⟩:=g1y h
 obtain ⟨x,rfl,hx⟩:=N7l hr
 exact ⟨x,rfl,hx⟩
def E7o (x:Span):Prop:=b5k x.Low/\b5k x.High
def E9r (x:Comb):Prop:=b5k x.Rate/\b5k x.Limit/\b5k x.Next/\E7o x.Walk
def E9s (x:Crowd):Prop:=b5k x.Comb/\E7o x.People
def E78 (x:Train):Prop:=E7o x.At/\OkL E9s x.Crowds
def E9t (x:Shift):Prop:=b5k x.At/\b5k x.Comb/\b5k x.Rate
def E66 (x:Hall):Prop:=OkL E9r x.Combs/\OkL E78 x.Trains/\OkL E9t x.Shifts/\b5k x.Until
def N35 (x:Day):Prop:=OkL b5k x.At/\OkL (OkL b5k) x.People/\OkL (OkL b5k) x.Walks
end Go.Nw.EM
namespace Go.Nw.EM.H
open Go.Nw.EM
structure Crowded (n:Nat) (lo:Int) (l:List Crowd):Prop where
 each : ∀ (k:Nat) x,l[k]?=some x->0<=x.Comb/\x.Comb<n/\0<=x.People.Low/\x.People.Low<=x.People.High/\x.People.High<=1000
structure Valid (h:Hall):Prop where
 u1 : 1<=h.Until
 u2 : h.Until<=100
 c1 : 1<=h.Combs.length
 c2 : h.Combs.length<=8
 t2 : h.Trains.length<=12
 s2 : h.Shifts.length<=20
 comb : ∀ (k:Nat) x,h.Combs[k]?=some x->0<=x.Rate/\x.Rate<=1000/\0<=x.Limit/\x.Limit<=100000/\(x.Next = -1\/(k<x.Next/\x.Next<h.Combs.length))/\1<=x.Walk.Low/\x.Walk.Low<=x.Walk.High/\x.Walk.High<=20
 train : ∀ (k:Nat) x,h.Trains[k]?=some x->0<=x.At.Low/\x.At.Low<=x.At.High/\x.At.High<=h.Until - 1/\x.Crowds.length<=4 /\
  (∀ (j:Nat) y,x.Crowds[j]?=some y->0<=y.People.Low/\y.People.Low<=y.People.High/\y.People.High<=1000/\y.Comb<h.Combs.length/\(match j with|0 => -1<y.Comb|j+1=>∀ z,x.Crowds[j]?=some z->z.Comb<y.Comb))
 shift : ∀ (k:Nat) x,h.Shifts[k]?=some x->0<=x.At/\x.At<h.Until/\0<=x.Comb/\x.Comb<h.Combs.length/\0<=x.Rate/\x.Rate<=1000/\(∀ j y,k=j+1->h.Shifts[j]?=some y->y.At<=x.At)
def E61 (n:Nat) (k:Nat) (x:Comb):Prop:=0<=x.Rate/\x.Rate<=1000/\0<=x.Limit/\x.Limit<=100000/\(x.Next = -1\/((k:Int)<x.Next/\x.Next<n))/\1<=x.Walk.Low/\x.Walk.Low<=x.Walk.High/\x.Walk.High<=20
def E62 (n:Nat) (l:List Crowd) (j:Nat) (y:Crowd):Prop:=0<=y.People.Low/\y.People.Low<=y.People.High/\y.People.High<=1000/\y.Comb<n/\(match j with|0 => -1<y.Comb|j+1=>∀ z,l[j]?=some z->z.Comb<y.Comb)
def E7s (n:Nat) (u:Int) (x:Train):Prop:=0<=x.At.Low/\x.At.Low<=x.At.High/\x.At.High<=u - 1/\x.Crowds.length<=4/\∀ (j:Nat) y,x.Crowds[j]?=some y->E62 n x.Crowds j y
def E8x (n:Nat) (u:Int) (l:List Shift) (k:Nat) (x:Shift):Prop:=0<=x.At/\x.At<u/\0<=x.Comb/\x.Comb<n/\0<=x.Rate/\x.Rate<=1000/\(∀ j y,k=j+1->l[j]?=some y->y.At<=x.At)
def E7j (h:Hall):Prop:=1<=h.Until/\h.Until<=100/\1<=h.Combs.length/\h.Combs.length<=8/\h.Trains.length<=12/\h.Shifts.length<=20
def V (h:Hall):Prop:=E7j h/\(∀ (k:Nat) x,h.Combs[k]?=some x->E61 h.Combs.length k x)/\(∀ (k:Nat) x,h.Trains[k]?=some x->E7s h.Combs.length h.Until x)/\(∀ (k:Nat) x,h.Shifts[k]?=some x->E8x h.Combs.length h.Until h.Shifts k x)
def N0m (l:List Crowd):Nat->Int
 | 0 => -1
 | j+1=>((l[j]?).map (·.Comb)).getD 0
theorem G37 {l:List Crowd} {k:Nat} {x:Crowd} (h:l[k]?=some x):N0m l (k+1)=x.Comb:=by simp [N0m,h]
theorem E7r {n:Nat} {l:List Crowd} {k:Nat} {x:Crowd} (hx:l[k]?=some x):E62 n l k x ↔ (0<=x.People.Low/\x.People.Low<=x.People.High/\x.People.High<=1000/\x.Comb<n/\N0m l k<x.Comb):=by
 unfold E62
 cases k with
 | zero=>simp [N0m]
 | succ j =>
  obtain ⟨z,hz⟩:=b3b (show j<l.length by have:=b1k hx; omega)
  simp [N0m,hz]
section
variable {h:Hall} (hk:E66 h) (hs:E7j h)
include hk hs
theorem G88 {t:Train} (ht:E78 t):((∀ k x,t.Crowds[k]?=some x->E62 h.Combs.length t.Crowds k x)/\b0w (E7f h t) (-1,0)=some (.inl ()))\/((∃ k x,t.Crowds[k]?=some x/\¬ E62 h.Combs.length t.Crowds k x)/\b0w (E7f h t) (-1,0)=some (.inr false)):=by
 have hl:t.Crowds.length<=maxLen:=ht.2.1
 have := g1j (f:=E7f h t) t.Crowds (fun s k=>(s,k)) (N0m t.Crowds) (fun k x=>¬ E62 h.Combs.length t.Crowds k x) (.inr false) (.inl ()) (fun k x hg hx hb=>by
  simp only [E7f,b1h hx,bS9]
  rw [if_pos (by simpa using b1k hx),if_pos]
  rw [E7r hx] at hb
  simp only [P1k,Bool.or_eq_true,Bool.not_eq_true',Bool.and_eq_false_iff,decide_eq_false_iff_not,decide_eq_true_eq]
  omega) (fun k x hg hx hb=>by
  simp only [E7f,b1h hx,bS9]
  rw [if_pos (by simpa using b1k hx),if_neg,b2r (b1k hx) hl,G37 hx]
  have hb:=(E7r hx).1 (Classical.not_not.1 hb)
  simp only [P1k,Bool.or_eq_true,Bool.not_eq_true',Bool.and_eq_false_iff,decide_eq_false_iff_not,decide_eq_true_eq]
  omega) (by simp [E7f]) (s0 := -1) rfl
 simpa using this
theorem H0g {t:Train} (ht:E78 t):∃ b,E8h h t=some b/\(b=true ↔ E7s h.Combs.length h.Until t):=by
 have hu:wr (h.Until - 1)=h.Until - 1:=b3t (by have:=hs.1; omega) (by have:=hs.2.1; omega)
 unfold E8h
 rcases G88 hk hs ht with ⟨h1,h2⟩|⟨⟨k,x,hx,hb⟩,h2⟩
 ·rw [h2]
  simp only [bS9,E88,hu]
  refine ⟨_,rfl,?_⟩
  simp only [P1k,Bool.and_eq_true,decide_eq_true_eq,E7s]
  constructor
  ·rintro ⟨⟨⟨a,b⟩,c⟩,d⟩; exact ⟨a,b,c,by omega,h1⟩
  ·rintro ⟨a,b,c,d,_⟩; exact ⟨⟨⟨a,b⟩,c⟩,by omega⟩
 ·rw [h2]
  refine ⟨false,rfl,by simp; exact fun hg=>hb (hg.2.2.2.2 k x hx)⟩
end
theorem H0d {l:List Train} {f:Train->Option Bool} {p:Train->Prop} (hl:l.length<=maxLen) (hf:∀ x∈l,∃ b,f x=some b/\(b=true ↔ p x)) :
  ∃ b,E9n l f=some b/\(b=true ↔ ∃ x∈l,p x):=G6l rfl hl hf
theorem H0c {l:List Int} {f:Int->Option Bool} {p:Int->Prop} (hl:l.length<=maxLen) (hf:∀ x∈l,∃ b,f x=some b/\(b=true ↔ p x)) :
  ∃ b,J8e l f=some b/\(b=true ↔ ∃ x∈l,p x):=G6l rfl hl hf
theorem G1p {j n:Nat} (h:j+1<n) (hn:n<=maxLen):wr (((j+1:Nat):Int) - 1)=(j:Int):=by
 rw [b3t (by omega) (by simp only [maxLen] at hn; omega)]; omega
theorem G6n {h:Hall} {k:Nat} {x:Comb} (hx:h.Combs[k]?=some x):∃ b,E8g h k=some b/\(b=true ↔ E61 h.Combs.length k x):=by
 unfold E8g
 rw [b1h hx]
 refine ⟨_,rfl,?_⟩
 simp only [x80,P1k,E61,Bool.and_eq_true,Bool.or_eq_true,decide_eq_true_eq]
 omega
noncomputable def E64 (h:Hall):Option Int:=E6y h
theorem G65 {h:Hall} (hk:E66 h):E7j h\/(¬ E7j h/\E6y h=some 60/\E64 h=some 60):=by
 by_cases hs:E7j h
 ·exact .inl hs
 ·have h1:E6y h=some 60:=by
   unfold E6y
   rw [if_pos]
   simp only [Bool.or_eq_true,decide_eq_true_eq]
   unfold E7j at hs; omega
  exact .inr ⟨hs,h1,h1⟩
theorem G76 {h:Hall} (hk:E66 h):(V h/\E6y h=some 0)\/(¬ V h/\E6y h=some 60):=by
 rcases G65 hk with hs|⟨hs,h1,_⟩
 ·have e1:h.Combs.length<=maxLen:=hk.1.1
  have e2:h.Trains.length<=maxLen:=hk.2.1.1
  have e3:h.Shifts.length<=maxLen:=hk.2.2.1.1
  unfold E6y
  rw [if_neg (by simp only [Bool.or_eq_true,decide_eq_true_eq]; unfold E7j at hs; omega)]
  rcases D5v (f:=E7v h) h.Combs (fun k x=>¬ E61 h.Combs.length k x) (.inr 60) (.inl ()) (fun k x _ hx hb=>by
    obtain ⟨b,b1,b2⟩:=G6n hx
    have : b=false:=x0f fun hh=>hb (b2.1 hh)
    subst this
    simp [E7v,b1,b1k hx]) (fun k x _ hx hb=>by
    obtain ⟨b,b1,b2⟩:=G6n hx
    have : b=true:=b2.2 (Classical.not_not.1 hb)
    subst this
    simp [E7v,b1,b1k hx,b2r (b1k hx) e1]) (by simp [E7v]) with ⟨c1,c2⟩|⟨⟨k,x,hx,hb⟩,c2⟩
  ·rw [c2]
   simp only [bS9,E8y]
   obtain ⟨b,b1,b2⟩:=H0d (l:=h.Trains) (f:=fun z=>E7t z h) (p:=fun t=>¬ E7s h.Combs.length h.Until t) e2 fun t ht=>by
    obtain ⟨b,b1,b2⟩:=H0g hk hs (hk.2.1.2 t ht)
    refine ⟨!b,by simp [E7t,b1],?_⟩
    cases b <;> simp_all
   rw [b1]
   simp only [bS9]
   cases b with
   | true =>
    rw [if_pos rfl]
    obtain ⟨t,ht,hbad⟩:=b2.1 rfl
    obtain ⟨j,hj,rfl⟩:=List.getElem_of_mem ht
    exact .inr ⟨fun hv=>hbad (hv.2.2.1 j _ (gG9 hj)),rfl⟩
   | false =>
    rw [if_neg (by simp)]
    have ht:∀ (k:Nat) x,h.Trains[k]?=some x->E7s h.Combs.length h.Until x:=fun k x hx=>Classical.byContradiction fun hn=>by have:=b2.2 ⟨x,mG9 hx,hn⟩; cases this
    rcases D5v (f:=E7u h) h.Shifts (fun k x=>¬ E8x h.Combs.length h.Until h.Shifts k x) (.inr 60) (.inl ()) (fun k x _ hx hb=>by
      simp only [E7u,b1h hx,bS9]
      rw [if_pos (by simpa using b1k hx)]
      unfold E8x at hb
      by_cases q:x.At<0\/h.Until<=x.At
      ·rw [if_pos (by simpa using q)]; simp
      ·rw [if_neg (by simpa using q)]
       cases k with
       | zero =>
        simp only [Int.natCast_zero,Int.lt_irrefl,decide_false,fT9,if_false,bS9,Bool.false_or]
        rw [if_pos]
        simp only [x80,Bool.or_eq_true,Bool.not_eq_true',Bool.and_eq_false_iff,decide_eq_false_iff_not,decide_eq_true_eq]
        refine Classical.byContradiction fun hc=>hb ⟨by omega,by omega,by omega,by omega,by omega,by omega,fun j y hj=>by omega⟩
       | succ j =>
        obtain ⟨y,hy⟩:=b3b (show j<h.Shifts.length by have:=b1k hx; omega)
        rw [if_pos (by simp <;> omega),G1p (b1k hx) e3,b1h hy]
        simp only [bS9]
        rw [if_pos]
        simp only [x80,Bool.or_eq_true,Bool.not_eq_true',Bool.and_eq_false_iff,decide_eq_false_iff_not,decide_eq_true_eq]
        refine Classical.byContradiction fun hc=>hb ⟨by omega,by omega,by omega,by omega,by omega,by omega,fun j' y' hj' hy'=>by
         obtain rfl:j'=j:=by omega
         rw [hy] at hy'; cases hy'; omega⟩) (fun k x _ hx hb=>by
      have hb:=Classical.not_not.1 hb
      obtain ⟨q1,q2,q3,q4,q5,q6,q7⟩:=hb
      simp only [E7u,b1h hx,bS9]
      rw [if_pos (by simpa using b1k hx),if_neg (by simp; omega)]
      cases k with
      | zero =>
       simp only [Int.natCast_zero,Int.lt_irrefl,decide_false,fT9,if_false,bS9,Bool.false_or]
       rw [if_neg]
       ·rfl
       ·simp only [x80,Bool.or_eq_true,Bool.not_eq_true',Bool.and_eq_false_iff,decide_eq_false_iff_not,decide_eq_true_eq]
        omega
      | succ j =>
       obtain ⟨y,hy⟩:=b3b (show j<h.Shifts.length by have:=b1k hx; omega)
       have := q7 j y rfl hy
       rw [if_pos (by simp <;> omega),G1p (b1k hx) e3,b1h hy]
       simp only [bS9]
       rw [if_neg,b2r (b1k hx) e3]
       simp only [x80,Bool.or_eq_true,Bool.not_eq_true',Bool.and_eq_false_iff,decide_eq_false_iff_not,decide_eq_true_eq]
       omega) (by simp [E7u]) with ⟨d1,d2⟩|⟨⟨k,x,hx,hb⟩,d2⟩
    ·rw [d2]
     exact .inl ⟨⟨hs,fun k x hx=>Classical.not_not.1 (c1 k x hx),ht,fun k x hx=>Classical.not_not.1 (d1 k x hx)⟩,rfl⟩
    ·rw [d2]
     exact .inr ⟨fun hv=>hb (hv.2.2.2 k x hx),rfl⟩
  ·rw [c2]
   exact .inr ⟨fun hv=>hb (hv.2.1 k x hx),rfl⟩
 ·exact .inr ⟨fun hv=>hs hv.1,h1⟩
def T (h:Hall):Nat:=h.Until.toNat
def E76 (h:Hall) (c:Nat):Int:=((h.Combs[c]?).map (·.Rate)).getD 0
def E7i (c:Nat) (t:Int) (a:Int) (s:Shift):Int:=if s.Comb=(c:Int)/\s.At<=t then s.Rate else a
def u8s (h:Hall) (c:Nat) (t:Nat):Int:=h.Shifts.foldl (E7i c t) (E76 h c)
theorem E9u {h:Hall} (hv:V h):(T h:Int)=h.Until:=by have:=hv.1.1; unfold T; omega
theorem E7p {h:Hall} (hv:V h):T h<=100:=by have:=hv.1.2.1; unfold T; omega
def G0i (c:Nat) (a:Int) (s:Shift):Int:=if s.Comb=(c:Int) then s.Rate else a
def G (h:Hall) (c k:Nat):Int:=(h.Shifts.take k).foldl (G0i c) (E76 h c)
theorem G8a {h:Hall} {c k:Nat} {x:Shift} (hx:h.Shifts[k]?=some x):G h c (k+1)=if x.Comb=(c:Int) then x.Rate else G h c k:=by
 unfold G
 rw [List.take_add_one,hx]
 simp [List.foldl_append,G0i]
theorem H1n {h:Hall} (hv:V h):∀ (d j:Nat) (x y:Shift),h.Shifts[j]?=some x->h.Shifts[j+d]?=some y->x.At<=y.At:=by
 intro d
 induction d with
 | zero=>intro j x y hx hy; rw [Nat.add_zero,hx] at hy; cases hy; exact Int.le_refl _
 | succ d ih =>
  intro j x y hx hy
  obtain ⟨z,hz⟩:=b3b (show j+d<h.Shifts.length by have:=b1k hy; omega)
  have h1:=ih j x z hx hz
  have h2:=(hv.2.2.2 _ y hy).2.2.2.2.2.2 (j+d) z (by omega) hz
  omega
def G4p (h:Hall) (t:Int) (k:Nat):Prop:=k<=h.Shifts.length/\(∀ j x,j<k->h.Shifts[j]?=some x->x.At<=t)/\∀ x,h.Shifts[k]?=some x->t<x.At
theorem G79 {h:Hall} (hv:V h) {c k t:Nat} (hu:G4p h t k):G h c k=u8s h c t:=by
 unfold G u8s
 conv => rhs; rw [<- List.take_append_drop k h.Shifts,List.foldl_append]
 have e1:(h.Shifts.take k).foldl (G0i c) (E76 h c)=(h.Shifts.take k).foldl (E7i c t) (E76 h c):=by
  have : ∀ (l:List Shift),(∀ x∈l,x.At<=(t:Int))->∀ a,l.foldl (G0i c) a=l.foldl (E7i c t) a:=by
   intro l
   induction l with
   | nil=>intro _ a; rfl
   | cons s l ih =>
    intro hl a
    simp only [List.foldl_cons]
    rw [ih (fun x hx=>hl x (List.mem_cons_of_mem _ hx))]
    congr 1
    simp [G0i,E7i,hl s List.mem_cons_self]
  refine this _ (fun x hx=>?_) _
  obtain ⟨j,hj,rfl⟩:=List.getElem_of_mem hx
  have hj':j<k:=by simp at hj; omega
  have hjl:j<h.Shifts.length:=by simp at hj; omega
  refine hu.2.1 j _ hj' ?_
  rw [List.getElem_take,gG9 hjl]
 rw [e1]
 have : ∀ (l:List Shift),(∀ x∈l,(t:Int)<x.At)->∀ a,l.foldl (E7i c t) a=a:=by
  intro l
  induction l with
  | nil=>intro _ a; rfl
  | cons s l ih =>
   intro hl a
   have := hl s List.mem_cons_self
   simp only [List.foldl_cons]
   rw [show E7i c t a s=a from by unfold E7i; rw [if_neg (by omega)]]
   exact ih (fun x hx=>hl x (List.mem_cons_of_mem _ hx)) a
 refine (this _ ?_ _).symm
 intro x hx
 obtain ⟨j,hj,rfl⟩:=List.getElem_of_mem hx
 have hjl:k+j<h.Shifts.length:=by simp at hj; omega
 obtain ⟨z,hz⟩:=b3b (show k<h.Shifts.length by omega)
 have h1:=hu.2.2 z hz
 have h2:=H1n hv j k z _ hz (gG9 hjl)
 rw [List.getElem_drop]
 omega
theorem H0f {h:Hall} (hv:V h) (c t:Nat):∀ (d k:Nat),h.Shifts.length - k=d->k<=h.Shifts.length->(∀ j x,j<k->h.Shifts[j]?=some x->x.At<=(t:Int)) ->
  ∃ k',b0w (E73 h c t) (G h c k,(k:Int))=some (G h c k',(k':Int))/\G4p h t k':=by
 have hl:h.Shifts.length<=maxLen:=by have:=hv.1.2.2.2.2.2; simp only [maxLen]; omega
 intro d
 induction d with
 | zero =>
  intro k hd hk hb
  have : k=h.Shifts.length:=by omega
  subst this
  refine ⟨h.Shifts.length,b3d (by simp [E73]),Nat.le_refl _,hb,fun x hx=>?_⟩
  have := b1k hx; omega
 | succ d ih =>
  intro k hd hk hb
  obtain ⟨x,hx⟩:=b3b (show k<h.Shifts.length by omega)
  by_cases hat:x.At<=(t:Int)
  ·rw [w91 (s':=(G h c (k+1),((k+1:Nat):Int))) (by
    simp only [E73,b1h hx,bS9]
    rw [if_pos (by simpa using b1k hx)]
    simp only [bS9,hat,decide_true,if_true,E8l,b2r (b1k hx) hl,G8a hx]
    by_cases e:x.Comb=(c:Int)
    ·simp [e]
    ·simp [e])]
   refine ih (k+1) (by omega) (by omega) fun j y hj hy=>?_
   by_cases e:j=k
   ·subst e; rw [hx] at hy; cases hy; exact hat
   ·exact hb j y (by omega) hy
  ·refine ⟨k,b3d (by
    simp only [E73,b1h hx,bS9]
    rw [if_pos (by simpa using b1k hx)]
    simp [hat]),by omega,hb,fun y hy=>?_⟩
   rw [hx] at hy; cases hy; omega
theorem H09 {h:Hall} (hv:V h) {c:Nat} (hc:c<h.Combs.length):E8j h c=some (tab (T h) (u8s h c)):=by
 obtain ⟨x,hx⟩:=b3b hc
 have hT:=E7p hv
 unfold E8j
 rw [<- E9u hv,g1q (by omega) (by omega)]
 simp only [bS9,b1h hx]
 obtain ⟨b,h1,h2⟩:=j7u (f:=E8k h c (tab (T h) fun _=>0)) (T h) (fun (s:List Int × Int × Int) k=>(s.1,s.2.1,s.2.2,k))
  (fun k s=>∃ m:Nat,s=(fill (T h) (u8s h c) 0 k,G h c m,(m:Int))/\m<=h.Shifts.length/\∀ j x,j<m->h.Shifts[j]?=some x->x.At<(k:Int)) (fun b=>b=tab (T h) (u8s h c))
  (fun s k hk ⟨m,hs,hm,hm2⟩=>by
   subst hs
   obtain ⟨k',i1,i2⟩:=H0f hv c k (h.Shifts.length - m) m rfl hm fun j x hj hx=>by have:=hm2 j x hj hx; omega
   refine .inl ⟨(fill (T h) (u8s h c) 0 (k+1),G h c k',(k':Int)),?_,k',rfl,i2.1,fun j x hj hx=>by have:=i2.2.1 j x hj hx; omega⟩
   simp only [E8k,b3y]
   rw [if_pos (by simpa using hk),i1]
   simp only [bS9,E9d,d15 hk,E9c,b2r hk (by simp only [maxLen]; omega)]
   rw [show ((k:Nat):Int).toNat=k from by omega,c2r (G79 hv i2)])
  (fun s ⟨m,hs,_⟩=>by
   subst hs
   exact ⟨fill (T h) (u8s h c) 0 (T h),by simp [E8k,b3y],by rw [d1u (Nat.le_refl _)]⟩) (s:=(tab (T h) (fun _=>0),x.Rate,0)) 0 (by omega) ⟨0,by
    rw [<- p6y,d1w (f:=u8s h c)]
    simp [G,E76,hx],by omega,fun j x hj=>by omega⟩
 simp only at h1
 rw [show ((0:Nat):Int)=0 from rfl] at h1
 rw [h1,h2]; rfl
theorem H08 {h:Hall} (hv:V h) {c:Nat} (t:Nat):0<=u8s h c t/\u8s h c t<=1000:=by
 unfold u8s
 have h0:0<=E76 h c/\E76 h c<=1000:=by
  unfold E76
  cases hx:h.Combs[c]? with
  | none=>simp
  | some x=>have:=hv.2.1 c x hx; simp [E61] at this ⊢; omega
 have : ∀ (l:List Shift),(∀ x∈l,0<=x.Rate/\x.Rate<=1000)->∀ a,0<=a/\a<=1000->0<=l.foldl (E7i c t) a/\l.foldl (E7i c t) a<=1000:=by
  intro l
  induction l with
  | nil=>intro _ a ha; exact ha
  | cons s l ih =>
   intro hl a ha
   refine ih (fun x hx=>hl x (List.mem_cons_of_mem _ hx)) _ ?_
   have := hl s List.mem_cons_self
   unfold E7i; split <;> omega
 refine this _ (fun x hx=>?_) _ h0
 obtain ⟨j,hj,rfl⟩:=List.getElem_of_mem hx
 have := hv.2.2.2 j _ (gG9 hj)
 exact ⟨this.2.2.2.2.1,this.2.2.2.2.2.1⟩
theorem H01 {h:Hall} (hv:V h):E68 h=some (tab h.Combs.length fun c=>tab (T h) (u8s h c)):=by
 unfold E68
 have hn:=hv.1.2.2.2.1
 have := b4h (f:=E8i h) h.Combs.length (fun s k=>(s,k)) (fun k=>tab k fun c=>tab (T h) (u8s h c)) (tab h.Combs.length fun c=>tab (T h) (u8s h c)) (s0:=[]) rfl (fun k hk=>by
  simp only [E8i]
  rw [if_pos (by simpa using hk),H09 hv hk]
  simp only [bS9]
  rw [b9k (by simp [b3y]; omega)]
  simp only [bS9,b2r hk (by simp only [maxLen]; omega),l5w]) (by simp [E8i])
 rw [this]; rfl
def M95 (c:Nat) (y:Crowd):Int:=if y.Comb=(c:Int) then y.People.High else 0
def x12 (c s t:Nat) (x:Train):Int:=if x.At.High<(s:Int)\/(t:Int)<x.At.Low then 0 else (x.Crowds.map (M95 c)).sum
def y27 (h:Hall) (c s t:Nat):Int:=(h.Trains.map (x12 c s t)).sum
theorem G0s {h:Hall} (hv:V h) {x:Train} (hx:x∈h.Trains) (c k:Nat) (hk:k<=x.Crowds.length):0<=P1f x.Crowds (M95 c) k/\P1f x.Crowds (M95 c) k<=4000:=by
 obtain ⟨j,hj,rfl⟩:=List.getElem_of_mem hx
 have hg:=hv.2.2.1 j _ (gG9 hj)
 have := G6z (l:=h.Trains[j].Crowds) (g:=M95 c) (B:=1000) (fun y hy=>by
  obtain ⟨i,hi,rfl⟩:=List.getElem_of_mem hy
  have := hg.2.2.2.2 i _ (gG9 hi)
  unfold E62 at this
  unfold M95; split <;> omega) k hk
 have := hg.2.2.2.1
 omega
theorem H1p {h:Hall} (hv:V h) {x:Train} (hx:x∈h.Trains) (c s t:Nat):0<=x12 c s t x/\x12 c s t x<=4000:=by
 unfold x12
 split
 ·omega
 ·rw [<- G0f]; exact G0s hv hx c _ (Nat.le_refl _)
theorem G7d {h:Hall} (hv:V h) (c s t k:Nat) (hk:k<=h.Trains.length):0<=P1f h.Trains (x12 c s t) k/\P1f h.Trains (x12 c s t) k<=48000:=by
 have := G6z (l:=h.Trains) (g:=x12 c s t) (B:=4000) (fun x hx=>H1p hv hx c s t) k hk
 have := hv.1.2.2.2.2.1
 omega
theorem G4w {h:Hall} (hv:V h) (c s t:Nat):0<=y27 h c s t/\y27 h c s t<=48000:=by
 unfold y27; rw [<- G0f]; exact G7d hv c s t _ (Nat.le_refl _)
theorem x21 {n:Int} (h1 : -1000000000000<=n) (h2:n<=1000000000000):wr n=n:=b3t (by omega) (by omega)
theorem G8g {h:Hall} (hv:V h) (c s t:Nat):E8d h c s t=some (y27 h c s t):=by
 have e2:h.Trains.length<=maxLen:=by have:=hv.1.2.2.2.2.1; simp only [maxLen]; omega
 unfold E8d
 have := b4h (f:=E8f h c s t) h.Trains.length (fun s k=>(s,k)) (P1f h.Trains (x12 c s t)) (y27 h c s t) (s0:=0) G38.symm (fun k hk=>by
  obtain ⟨x,hx⟩:=b3b hk
  have hm:=mG9 hx
  simp only [E8f,b1h hx,bS9]
  rw [if_pos (by simpa using hk),G1i hx]
  have hb:=G7d hv c s t k (by omega)
  by_cases q:x.At.High<(s:Int)\/(t:Int)<x.At.Low
  ·rw [if_pos (by simpa using q)]
   simp only [E72,b2r hk e2]
   rw [show x12 c s t x=0 from if_pos q,Int.add_zero]
  ·rw [if_neg (by simpa using q)]
   have e3:x.Crowds.length<=maxLen:=by have:=(hv.2.2.1 k x hx).2.2.2.1; simp only [maxLen]; omega
   have := b4h (f:=E8e c x) x.Crowds.length (fun s k=>(s,k)) (fun j=>P1f h.Trains (x12 c s t) k+P1f x.Crowds (M95 c) j) (P1f h.Trains (x12 c s t) k+x12 c s t x) (s0:=P1f h.Trains (x12 c s t) k) (by simp [G38]) (fun j hj=>by
    obtain ⟨y,hy⟩:=b3b hj
    have hc1:=G0s hv hm c j (by omega)
    have hc2:=G0s hv hm c (j+1) (by omega)
    simp only [E8e,b1h hy,bS9]
    rw [if_pos (by simpa using hj),G1i hy]
    rw [G1i hy] at hc2
    by_cases e:y.Comb=(c:Int)
    ·rw [if_pos (by simpa using e)]
     rw [show M95 c y=y.People.High from if_pos e] at hc2 ⊢
     simp only [E71,b2r hj e3]
     rw [x21 (by omega) (by omega),Int.add_assoc]
    ·rw [if_neg (by simpa using e)]
     rw [show M95 c y=0 from if_neg e]
     simp only [E71,b2r hj e3,Int.add_zero]) (by
    simp only [E8e]
    rw [if_neg (by simp),G0f,show x12 c s t x=(x.Crowds.map (M95 c)).sum from if_neg q])
   rw [this]
   simp only [bS9,E72,b2r hk e2]) (by
  simp only [E8f]
  rw [if_neg (by simp),G0f]; rfl)
 rw [this]; rfl
structure Bd where
 come : Nat->Nat->Int
 most : Nat->Int
 flow : Nat->Int
 deriving Inhabited
def y18 (b:Bd) (to k:Nat):Int:=if k<to then b.come (k+1) to else 0
def way (b:Bd) (a to k:Nat):Int:=b23 b.flow k - b23 b.flow a+b.most k+y18 b to k
def E9j (b:Bd) (a to:Nat):Int:=E63 (min (b.come 0 to) (b23 b.flow (to+1) - b23 b.flow a)) (way b a to) a (to+1 - a)
def E7h (b:Bd) (from_ to_:Int):Int:=if to_<from_\/to_<0 then 0 else E9j b (max from_ 0).toNat to_.toNat
def o13 (h:Hall) (c:Nat) (prev:Nat->Bd) (s t u:Nat):Int:=match h.Combs[u]? with
 | some x=>if x.Next=(c:Int) then E7h (prev u) ((s:Int) - x.Walk.High) ((t:Int) - x.Walk.Low) else 0
 | none=>0
def x67 (h:Hall) (c:Nat) (prev:Nat->Bd) (s t:Nat):Int:=y27 h c s t+b23 (o13 h c prev s t) c
def E8s (come:Nat->Nat->Int) (R:Nat->Int) (t:Nat):Int:=E69 0 (fun s=>come s t - (b23 R t - b23 R s)) 0 (t+1)
def E8r (h:Hall) (R:Nat->Nat->Int) (c:Nat) (prev:Nat->Bd):Bd :=
 { come:=x67 h c prev,most:=E8s (x67 h c prev) (R c),flow:=fun t=>min (E8s (x67 h c prev) (R c) t) (R c t) }
def bdL (h:Hall) (R:Nat->Nat->Int):Nat->Nat->Bd
 | 0=>fun _=>default
 | n+1=>fun u=>if u=n then E8r h R n (bdL h R n) else bdL h R n u
def bd (h:Hall) (R:Nat->Nat->Int) (c:Nat):Bd:=bdL h R (c+1) c
theorem G4u {h:Hall} {R:Nat->Nat->Int} {n u:Nat}:bdL h R (n+1) u=if u=n then E8r h R n (bdL h R n) else bdL h R n u:=rfl
theorem G8c {h:Hall} {R:Nat->Nat->Int} {n u:Nat} (hu:u<n):bdL h R n u=bd h R u:=by
 induction n with
 | zero=>omega
 | succ n ih =>
  by_cases e:u=n
  ·subst e; rfl
  ·rw [G4u,if_neg e]; exact ih (by omega)
theorem H1u {h:Hall} {c s t u:Nat} {p q:Nat->Bd} (hpq:p u=q u):o13 h c p s t u=o13 h c q s t u:=by
 unfold o13; rw [hpq]
theorem G85 {h:Hall} {c:Nat} {p q:Nat->Bd} (hpq:∀ u,u<c->p u=q u):x67 h c p=x67 h c q:=by
 funext s t
 unfold x67
 rw [H0y fun u hu=>H1u (hpq u hu)]
theorem E8v {h:Hall} {R:Nat->Nat->Int} {c:Nat}:bd h R c=E8r h R c (bd h R):=by
 have : bd h R c=E8r h R c (bdL h R c):=by show bdL h R (c+1) c=_; rw [G4u,if_pos rfl]
 rw [this]
 unfold E8r
 rw [G85 fun u hu=>G8c hu]
structure BdOk (b:Bd) (n:Nat) (B:Int):Prop where
 come : ∀ s t,s<=t->t<n->0<=b.come s t/\b.come s t<=B
 most : ∀ t,t<n->0<=b.most t/\b.most t<=B
 flow : ∀ t,t<n->0<=b.flow t/\b.flow t<=1000
def E60 (n:Nat) (b:Bd) (s:Nat):List Int:=tab n fun t=>if s<=t then b.come s t else 0
def bdT (n:Nat) (b:Bd) (r:Nat->Int):halls_bound:=⟨tab (n+1) (b23 r),tab (n+1) (b23 b.flow),tab n b.most,tab n (E60 n b)⟩
theorem G2f {n:Nat} {b:Bd} {s t:Nat} (ht:t<n) (hst:s<=t):get (E60 n b s) (t:Int)=some (b.come s t):=by
 unfold E60; rw [c2y ht,if_pos hst]
section
variable {n:Nat} {b:Bd} {B:Int} (hb:BdOk b n B) (hB:B<=1000000000) (hn:n<=1000) {r:Nat->Int}
include hb hB hn
theorem G0t {a k:Nat} (hak:a<=k) (hk:k<=n):0<=b23 b.flow k - b23 b.flow a/\b23 b.flow k - b23 b.flow a<=1000000:=by
 have := H0z (f:=b.flow) (B:=1000) hak fun i h1 h2=>hb.flow i (by omega)
 omega
theorem G4v {to k:Nat} (hk:k<=to) (hto:to<n):0<=y18 b to k/\y18 b to k<=B:=by
 have := hb.most k (by omega)
 unfold y18; split
 ·exact hb.come _ _ (by omega) hto
 ·omega
theorem H1v {a to k:Nat} (hak:a<=k) (hk:k<=to) (hto:to<n):0<=way b a to k/\way b a to k<=3000000000:=by
 have h1:=G0t hb hB hn hak (show k<=n by omega)
 have h2:=hb.most k (by omega)
 have h3:=G4v hb hB hn hk hto
 unfold way; omega
theorem H05 {a to:Nat} (ha:a<=to) (hto:to<n):0<=E9j b a to/\E9j b a to<=B:=by
 have h1:=hb.come 0 to (by omega) hto
 have h2:=G0t hb hB hn (show a<=to+1 by omega) (show to+1<=n by omega)
 unfold E9j
 refine ⟨G1f.2 ⟨by omega,fun i hi=>(H1v hb hB hn (by omega) (show a+i<=to by omega) hto).1⟩,?_⟩
 have := G6t (z:=min (b.come 0 to) (b23 b.flow (to+1) - b23 b.flow a)) (g:=way b a to) (a:=a) (n:=to+1 - a)
 omega
theorem G6y {f t:Int} (ht:t<n):0<=E7h b f t/\E7h b f t<=max 0 B:=by
 unfold E7h
 split
 ·omega
 ·have := H05 hb hB hn (a:=(max f 0).toNat) (to:=t.toNat) (by omega) (by omega)
  omega
theorem H06 {f t:Int} (hf : -1000<=f) (ht:t<n):E79 (bdT n b r) f t=some (E7h b f t):=by
 unfold E79 E7h
 by_cases q:t<f\/t<0
 ·rw [if_pos (by simpa using q),if_pos q]
 ·rw [if_neg (by simpa using q),if_neg q]
  obtain ⟨to,hto⟩:∃ to:Nat,t=to:=⟨t.toNat,by omega⟩
  subst hto
  obtain ⟨a,ha⟩:∃ a:Nat,max f 0=a:=⟨(max f 0).toNat,by omega⟩
  have hm:mx f 0=(a:Int):=by rw [N27]; exact ha
  have hat:a<=to:=by omega
  have hton:to<n:=by omega
  rw [hm,ha]
  have e0:((0:Int))=((0:Nat):Int):=rfl
  simp only [bdT]
  rw [e0,c2y (show 0<n by omega)]
  simp only [bS9]
  rw [G2f hton (by omega),show wr ((to:Int)+1)=((to+1:Nat):Int) from by rw [x21 (by omega) (by omega)]; omega,c2y (show to+1<n+1 by omega)]
  simp only [bS9]
  rw [c2y (show a<n+1 by omega)]
  simp only [bS9]
  have hc:=hb.come 0 to (by omega) hton
  have hfd:=G0t hb hB hn (show a<=to+1 by omega) (show to+1<=n by omega)
  rw [x21 (by omega) (by omega),g1r]
  have := p9u (f:=E8a ⟨tab (n+1) (b23 r),tab (n+1) (b23 b.flow),tab n b.most,tab n (E60 n b)⟩ f to) (to+1) (fun s k=>(s,k))
   (fun k=>E63 (min (b.come 0 to) (b23 b.flow (to+1) - b23 b.flow a)) (way b a to) a (k - a)) (E9j b a to) (s0:=min (b.come 0 to) (b23 b.flow (to+1) - b23 b.flow a)) a (by rw [Nat.sub_self]; rfl) (by omega) (fun k hak hk=>?_) (by
    simp only [E8a]
    rw [if_neg (by simp; omega)]; rfl)
  ·rw [this]
   simp [E8u]
  ·have hst:E63 (min (b.come 0 to) (b23 b.flow (to+1) - b23 b.flow a)) (way b a to) a (k+1 - a)=min (E63 (min (b.come 0 to) (b23 b.flow (to+1) - b23 b.flow a)) (way b a to) a (k - a)) (way b a to k):=by
    rw [show k+1 - a=(k - a)+1 by omega]
    show min _ (way b a to (a+(k - a)))=_
    rw [show a+(k - a)=k by omega]
   rw [hst]
   have hfk:=G0t hb hB hn hak (show k<=n by omega)
   have hmk:=hb.most k (by omega)
   have hbk:=G4v hb hB hn (show k<=to by omega) hton
   have fin2:∀ L:Int,E7q ⟨tab (n+1) (b23 r),tab (n+1) (b23 b.flow),tab n b.most,tab n (E60 n b)⟩ f L k (y18 b to k)=some (.nx (min L (way b a to k),(k:Int)+1)):=fun L=>by
    unfold E7q
    simp only [hm]
    rw [c2y (show k<n+1 by omega)]
    simp only [bS9]
    rw [c2y (show a<n+1 by omega)]
    simp only [bS9]
    rw [c2y (show k<n by omega)]
    simp only [bS9]
    rw [x21 (n:=b23 b.flow k - b23 b.flow a) (by omega) (by omega),x21 (n:=b23 b.flow k - b23 b.flow a+b.most k) (by omega) (by omega),x21 (n:=b23 b.flow k - b23 b.flow a+b.most k+y18 b to k) (by omega) (by omega),x21 (n:=(k:Int)+1) (by omega) (by omega),g1r]
    rfl
   simp only [E8a]
   rw [if_pos (by simp; omega)]
   by_cases e:k<to
   ·rw [if_pos (by simpa using e),show wr ((k:Int)+1)=((k+1:Nat):Int) from by rw [x21 (by omega) (by omega)]; omega,c2y (show k+1<n by omega)]
    simp only [bS9]
    rw [G2f hton (by omega)]
    simp only [bS9]
    rw [show b.come (k+1) to=y18 b to k from by unfold y18; rw [if_pos e]]
    exact fin2 _
   ·rw [if_neg (by simpa using e)]
    have := fin2 (E63 (min (b.come 0 to) (b23 b.flow (to+1) - b23 b.flow a)) (way b a to) a (k - a))
    rw [show y18 b to k=0 from by unfold y18; rw [if_neg e]] at this
    exact this
end
def Bn (c:Nat):Int:=48000 * 2 ^ c
theorem G1q (c:Nat):Bn (c+1)=2 * Bn c:=by unfold Bn; rw [Int.pow_succ]; omega
theorem G0j (c:Nat):48000<=Bn c:=by
 induction c with
 | zero=>simp [Bn]
 | succ c ih=>rw [G1q]; omega
theorem G4l (c:Nat):b23 Bn c=Bn c - 48000:=by
 induction c with
 | zero=>simp [G0e,Bn]
 | succ c ih=>rw [E7a,ih,G1q]; omega
theorem G74 {a b:Nat} (h:a<=b):Bn a<=Bn b:=by
 induction b with
 | zero=>have:a=0:=by omega
         subst this; exact Int.le_refl _
 | succ b ih =>
  by_cases e:a=b+1
  ·subst e; exact Int.le_refl _
  ·have := ih (by omega); have:=G0j b; rw [G1q]; omega
theorem E9o {c:Nat} (h:c<=8):Bn c<=1000000000:=by
 have := G74 h
 have e:Bn 8=12288000:=by decide
 omega
theorem G1h {f g:Nat->Int}:∀ {k:Nat},(∀ i,i<k->f i<=g i)->b23 f k<=b23 g k
 | 0,_=>by simp [G0e]
 | k+1,h=>by rw [E7a,E7a]; have:=G1h (k:=k) fun i hi=>h i (by omega); have:=h k (by omega); omega
theorem G36 {f:Nat->Int}:∀ {k:Nat},(∀ i,i<k->0<=f i)->0<=b23 f k
 | 0,_=>by simp [G0e]
 | k+1,h=>by rw [E7a]; have:=G36 (k:=k) fun i hi=>h i (by omega); have:=h k (by omega); omega
structure Rt (h:Hall) (R:Nat->Nat->Int):Prop where
 r : ∀ c t,c<h.Combs.length->t<T h->0<=R c t/\R c t<=1000
section
variable {h:Hall} (hv:V h) {R:Nat->Nat->Int} (hR:Rt h R)
include hv hR
theorem E9v:∀ (c:Nat),c<h.Combs.length->BdOk (bd h R c) (T h) (Bn c):=by
 intro c
 induction c using Nat.strongRecOn with
 | _ c ih =>
  intro hc
  have hn:=hv.1.2.2.2.1
  have hT:=E7p hv
  have hw:∀ s t u,s<=t->t<T h->u<c->0<=o13 h c (bd h R) s t u/\o13 h c (bd h R) s t u<=Bn u:=fun s t u hst ht hu=>by
   obtain ⟨x,hx⟩:=b3b (show u<h.Combs.length by omega)
   have hg:=hv.2.1 u x hx
   unfold E61 at hg
   have hB:=G0j u
   unfold o13
   rw [hx]
   simp only
   split
   ·have := G6y (ih u hu (by omega)) (E9o (by omega)) (show T h<=1000 by omega) (f:=(s:Int) - x.Walk.High) (t:=(t:Int) - x.Walk.Low) (by omega)
    omega
   ·omega
  have hcome:∀ s t,s<=t->t<T h->0<=x67 h c (bd h R) s t/\x67 h c (bd h R) s t<=Bn c:=fun s t hst ht=>by
   unfold x67
   have h1:=G4w hv c s t
   have h2:=G36 (f:=o13 h c (bd h R) s t) (k:=c) fun u hu=>(hw s t u hst ht hu).1
   have h3:=G1h (f:=o13 h c (bd h R) s t) (g:=Bn) (k:=c) fun u hu=>(hw s t u hst ht hu).2
   rw [G4l] at h3
   omega
  have hmost:∀ t,t<T h->0<=E8s (x67 h c (bd h R)) (R c) t/\E8s (x67 h c (bd h R)) (R c) t<=Bn c:=fun t ht=>by
   refine ⟨G6s,G1e.2 ⟨by have:=G0j c; omega,fun i hi=>?_⟩⟩
   rw [Nat.zero_add]
   have h1:=hcome i t (by omega) ht
   have h2:=H00 (f:=R c) (show i<=t by omega) fun j h1 h2=>(hR.r c j hc (by omega)).1
   omega
  rw [E8v]
  exact ⟨hcome,hmost,fun t ht=>by
   have h1:=hmost t ht
   have h2:=hR.r c t hc ht
   simp only [E8r]; omega⟩
theorem G7e {c:Nat} (hc:c<h.Combs.length) {s t:Nat} (hst:s<=t) (ht:t<T h) (u:Nat) (hu:u<=c):0<=b23 (o13 h c (bd h R) s t) u/\b23 (o13 h c (bd h R) s t) u<=1000000000:=by
 have hn:=hv.1.2.2.2.1
 have hT:=E7p hv
 have hw:∀ u,u<c->0<=o13 h c (bd h R) s t u/\o13 h c (bd h R) s t u<=Bn u:=fun u hu=>by
  obtain ⟨x,hx⟩:=b3b (show u<h.Combs.length by omega)
  have hg:=hv.2.1 u x hx
  unfold E61 at hg
  have hB:=G0j u
  unfold o13
  rw [hx]
  simp only
  split
  ·have := G6y (E9v hv hR u (by omega)) (E9o (by omega)) (show T h<=1000 by omega) (f:=(s:Int) - x.Walk.High) (t:=(t:Int) - x.Walk.Low) (by omega)
   omega
  ·omega
 have h2:=G36 (f:=o13 h c (bd h R) s t) (k:=u) fun i hi=>(hw i (by omega)).1
 have h3:=G1h (f:=o13 h c (bd h R) s t) (g:=Bn) (k:=u) fun i hi=>(hw i (by omega)).2
 rw [G4l] at h3
 have := E9o (c:=u) (by omega)
 omega
def E7d (b:Bd) (n s t:Nat):List Int:=tab n fun i=>if s<=i/\i<t then b.come s i else 0
theorem E1g {c:Nat} (hc:c<h.Combs.length) {s:Nat} (hs:s<T h) :
  b0w (E7w h (tab c fun u=>bdT (T h) (bd h R u) (R u)) c s) (tab (T h) (fun _=>0),(s:Int))=some (E60 (T h) (bd h R c) s):=by
 have hn:=hv.1.2.2.2.1
 have hT:=E7p hv
 have hTi:=E9u hv
 have hb:=E9v hv hR c hc
 refine p9u (f:=E7w h (tab c fun u=>bdT (T h) (bd h R u) (R u)) c s) (T h) (fun r k=>(r,k)) (E7d (bd h R c) (T h) s) _ s (by
  unfold E7d
  exact c1m fun i hi=>by rw [if_neg (by omega)]) (by omega) (fun t hst ht=>?_) (by
  simp only [E7w]
  rw [<- hTi,if_neg (by simp)]
  simp only [E7d,E60,iE9,Out.br.injEq]
  exact c1m fun i hi=>by by_cases q:s<=i <;> simp [q,hi])
 simp only [E7w]
 rw [<- hTi,if_pos (by simpa using ht),G8g hv]
 simp only [bS9]
 rw [show get (E7d (bd h R c) (T h) s t) (t:Int)=some 0 from by unfold E7d; rw [c2y ht,if_neg (by omega)]]
 simp only [bS9]
 rw [u9o (by omega) (by omega) (by omega)]
 simp only [bS9]
 have el:(h.Combs.take ((c:Int)).toNat).drop ((0:Int)).toNat=h.Combs.take c:=by simp
 rw [el]
 have hlen:(h.Combs.take c).length=c:=by simp; omega
 have hat:∀ u,u<c->(h.Combs.take c)[u]?=h.Combs[u]?:=fun u hu=>by rw [List.getElem?_take,if_pos hu]
 have := b4h (f:=E8b (tab c fun u=>bdT (T h) (bd h R u) (R u)) c s t (h.Combs.take c)) c (fun r k=>(r,k))
  (fun u=>(E7d (bd h R c) (T h) s t).set t (y27 h c s t+b23 (o13 h c (bd h R) s t) u)) (E7d (bd h R c) (T h) s (t+1)) (s0:=(E7d (bd h R c) (T h) s t).set ((t:Int)).toNat (y27 h c s t)) (by simp [G0e]) (fun u hu=>by
   obtain ⟨x,hx⟩:=b3b (show u<h.Combs.length by omega)
   have hg:=hv.2.1 u x hx
   unfold E61 at hg
   have hx':(h.Combs.take c)[u]?=some x:=by rw [hat u hu]; exact hx
   have hwb:=G7e hv hR hc hst ht u (by omega)
   have hwb':=G7e hv hR hc hst ht (u+1) (by omega)
   have hbb:=G4w hv c s t
   simp only [E8b,hlen]
   rw [if_pos (by simpa using hu),b1h hx']
   simp only [bS9]
   rw [E7a] at hwb' ⊢
   by_cases e:x.Next=(c:Int)
   ·rw [if_pos (by simpa using e)]
    rw [show get ((E7d (bd h R c) (T h) s t).set t (y27 h c s t+b23 (o13 h c (bd h R) s t) u)) (t:Int)=some (y27 h c s t+b23 (o13 h c (bd h R) s t) u) from by unfold E7d; rw [d5i,c2y ht,if_pos rfl]]
    simp only [bS9]
    rw [c2y hu]
    simp only [bS9]
    rw [x21 (n:=(s:Int) - x.Walk.High) (by omega) (by omega),x21 (n:=(t:Int) - x.Walk.Low) (by omega) (by omega),
     H06 (E9v hv hR u (by omega)) (E9o (by omega)) (by omega) (by omega) (by omega)]
    have ew:o13 h c (bd h R) s t u=E7h (bd h R u) ((s:Int) - x.Walk.High) ((t:Int) - x.Walk.Low):=by
     unfold o13; rw [hx]; simp only; rw [if_pos e]
    rw [<- ew]
    simp only [bS9,E70]
    rw [x21 (n:=y27 h c s t+b23 (o13 h c (bd h R) s t) u+o13 h c (bd h R) s t u) (by omega) (by omega),x21 (n:=(u:Int)+1) (by omega) (by omega)]
    simp [Int.add_assoc]
   ·rw [if_neg (by simpa using e)]
    have ew:o13 h c (bd h R) s t u=0:=by
     unfold o13; rw [hx]; simp only; rw [if_neg e]
    rw [ew,Int.add_zero]
    simp only [E70]
    rw [x21 (n:=(u:Int)+1) (by omega) (by omega)]) (by
   simp only [E8b,hlen]
   rw [if_neg (by simp)]
   simp only [iE9,Out.br.injEq]
   unfold E7d
   rw [d5i]
   refine c1m fun i hi=>?_
   by_cases e:i=t
   ·subst e
    rw [if_pos rfl,if_pos (by omega)]
    rw [E8v]; rfl
   ·rw [if_neg e]
    by_cases q:s<=i/\i<t
    ·rw [if_pos q,if_pos (by omega)]
    ·rw [if_neg q,if_neg (by omega)])
 rw [this]
 simp only [bS9,E86]
 rw [x21 (n:=(t:Int)+1) (by omega) (by omega)]
end
section
variable {h:Hall} (hv:V h) {R:Nat->Nat->Int} (hR:Rt h R)
include hv hR
abbrev opT (h:Hall) (R:Nat->Nat->Int):List (List Int):=tab h.Combs.length fun c=>tab (T h) (R c)
omit hv in
theorem G4b {c:Nat} (hc:c<h.Combs.length) {k:Nat} (hk:k<=T h):0<=b23 (R c) k/\b23 (R c) k<=1000 * k :=
 G35 fun i hi=>hR.r c i hc (by omega)
theorem G84 {c:Nat} (hc:c<h.Combs.length) :
  b0w (E7x h (opT h R) (tab c fun u=>bdT (T h) (bd h R u) (R u)) c) ([0],[],0)=some (tab (T h+1) (b23 (R c)),tab (T h) (E60 (T h) (bd h R c))):=by
 have hT:=E7p hv
 have hTi:=E9u hv
 refine b4h (f:=E7x h (opT h R) (tab c fun u=>bdT (T h) (bd h R u) (R u)) c) (T h) (fun (p:List Int × List (List Int)) k=>(p.1,p.2,k))
  (fun k=>(tab (k+1) (b23 (R c)),tab k (E60 (T h) (bd h R c)))) _ (s0:=([0],[])) rfl (fun s hs=>?_) (by
  simp only [E7x]
  rw [<- hTi,if_neg (by simp)])
 simp only [E7x]
 rw [<- hTi,if_pos (by simpa using hs),g1q (by omega) (by omega)]
 simp only [bS9]
 rw [E1g hv hR hc hs]
 simp only [bS9,E84]
 rw [b9k (by simp [b3y]; omega)]
 simp only [bS9]
 rw [c2y (show s<s+1 by omega)]
 simp only [bS9]
 rw [c2y hc]
 simp only [bS9]
 rw [c2y hs]
 simp only [bS9]
 rw [b9k (by simp [b3y]; omega)]
 simp only [bS9,E83]
 have h1:=G4b hR hc (show s<=T h by omega)
 have h2:=hR.r c s hc hs
 rw [x21 (n:=b23 (R c) s+R c s) (by omega) (by omega),x21 (n:=(s:Int)+1) (by omega) (by omega),<- E7a,<- l5w,<- l5w]
theorem H0t {c:Nat} (hc:c<h.Combs.length) {t:Nat} (ht:t<T h) :
  b0w (E7y (tab (T h+1) (b23 (R c))) (tab (T h) (E60 (T h) (bd h R c))) t) (0,0)=some ((bd h R c).most t):=by
 have hT:=E7p hv
 have hb:=E9v hv hR c hc
 have hn:=hv.1.2.2.2.1
 have hB:=E9o (c:=c) (by omega)
 have e1:wr ((t:Int)+1)=((t+1:Nat):Int):=by rw [x21 (by omega) (by omega)]; omega
 have em:(bd h R c).most t=E69 0 (fun s=>(bd h R c).come s t - (b23 (R c) t - b23 (R c) s)) 0 (t+1):=by rw [E8v]; rfl
 refine b4h (f:=E7y (tab (T h+1) (b23 (R c))) (tab (T h) (E60 (T h) (bd h R c))) t) (t+1) (fun p k=>(p,k))
  (E69 0 (fun s=>(bd h R c).come s t - (b23 (R c) t - b23 (R c) s)) 0) _ (s0:=0) rfl (fun s hs=>?_) (by
  simp only [E7y,e1]
  rw [if_neg (by simp),em])
 simp only [E7y,e1]
 rw [if_pos (by simp; omega),c2y (show s<T h by omega)]
 simp only [bS9]
 rw [G2f ht (by omega)]
 simp only [bS9]
 rw [c2y (show t<T h+1 by omega)]
 simp only [bS9]
 rw [c2y (show s<T h+1 by omega)]
 simp only [bS9]
 have h1:=G4b hR hc (show s<=T h by omega)
 have h2:=G4b hR hc (show t<=T h by omega)
 have h3:=hb.come s t (by omega) ht
 rw [x21 (n:=b23 (R c) t - b23 (R c) s) (by omega) (by omega),x21 (n:=(bd h R c).come s t - (b23 (R c) t - b23 (R c) s)) (by omega) (by omega),x21 (n:=(s:Int)+1) (by omega) (by omega),N27]
 simp only [E69,Nat.zero_add]
theorem G9g {c:Nat} (hc:c<h.Combs.length) :
  b0w (E7z h (opT h R) c (tab (T h+1) (b23 (R c))) (tab (T h) (E60 (T h) (bd h R c)))) ([0],[],0)=some (tab (T h+1) (b23 (bd h R c).flow),tab (T h) (bd h R c).most):=by
 have hT:=E7p hv
 have hTi:=E9u hv
 have hb:=E9v hv hR c hc
 refine b4h (f:=E7z h (opT h R) c (tab (T h+1) (b23 (R c))) (tab (T h) (E60 (T h) (bd h R c)))) (T h) (fun (p:List Int × List Int) k=>(p.1,p.2,k))
  (fun k=>(tab (k+1) (b23 (bd h R c).flow),tab k (bd h R c).most)) _ (s0:=([0],[])) rfl (fun t ht=>?_) (by
  simp only [E7z]
  rw [<- hTi,if_neg (by simp)])
 simp only [E7z]
 rw [<- hTi,if_pos (by simpa using ht),H0t hv hR hc ht]
 simp only [bS9,E82]
 rw [b9k (by simp [b3y]; omega)]
 simp only [bS9]
 rw [c2y (show t<t+1 by omega)]
 simp only [bS9]
 rw [c2y hc]
 simp only [bS9]
 rw [c2y ht]
 simp only [bS9]
 rw [b9k (by simp [b3y]; omega)]
 simp only [bS9,E81]
 have ef:min ((bd h R c).most t) (R c t)=(bd h R c).flow t:=by rw [E8v]; rfl
 have h1:=G35 (f:=(bd h R c).flow) (B:=1000) (k:=t) fun i hi=>hb.flow i (by omega)
 have h2:=hb.flow t ht
 rw [g1r,ef,x21 (n:=b23 (bd h R c).flow t+(bd h R c).flow t) (by omega) (by omega),x21 (n:=(t:Int)+1) (by omega) (by omega),<- E7a,<- l5w,<- l5w]
theorem G8f:E7b h (opT h R)=some (tab h.Combs.length fun c=>bdT (T h) (bd h R c) (R c)):=by
 have hn:=hv.1.2.2.2.1
 unfold E7b
 have := b4h (f:=E8c h (opT h R)) h.Combs.length (fun s k=>(s,k)) (fun k=>tab k fun c=>bdT (T h) (bd h R c) (R c)) (tab h.Combs.length fun c=>bdT (T h) (bd h R c) (R c)) (s0:=[]) rfl (fun c hc=>by
  simp only [E8c]
  rw [if_pos (by simpa using hc),G84 hv hR hc]
  simp only [bS9,E87]
  rw [G9g hv hR hc]
  simp only [bS9,E80]
  rw [b9k (by simp [b3y]; omega)]
  simp only [bS9,E85]
  rw [x21 (n:=(c:Int)+1) (by omega) (by omega),l5w (n:=c)]
  rfl) (by simp [E8c])
 rw [this]; rfl
end
theorem H03 {h:Hall} (hv:V h):Rt h (u8s h):=⟨fun c t _ _=>H08 hv t⟩
theorem H02 {h:Hall} (hv:V h):(E68 h).bind (E7b h)=some (tab h.Combs.length fun c=>bdT (T h) (bd h (u8s h) c) (u8s h c)):=by
 rw [H01 hv]; exact G8f hv (H03 hv)
abbrev own (h:Hall):Nat->Bd:=bd h (u8s h)
theorem G8b {h:Hall} (hv:V h):E66 h:=by
 obtain ⟨⟨s1,s2,s3,s4,s5,s6⟩,hc,ht,hs⟩:=hv
 have at_:∀ {α:Type} {l:List α} {x:α},x∈l->∃ k:Nat,l[k]?=some x:=fun {α l x} hx=>by
  obtain ⟨j,hj,rfl⟩:=List.getElem_of_mem hx
  exact ⟨j,gG9 hj⟩
 refine ⟨⟨by show _<=maxLen; simp only [maxLen]; omega,fun x hx=>?_⟩,⟨by show _<=maxLen; simp only [maxLen]; omega,fun x hx=>?_⟩,⟨by show _<=maxLen; simp only [maxLen]; omega,fun x hx=>?_⟩,by unfold b5k; omega⟩
 ·obtain ⟨k,hk⟩:=at_ hx
  have := hc k x hk
  unfold E61 at this
  simp only [E9r,E7o,b5k]; omega
 ·obtain ⟨k,hk⟩:=at_ hx
  obtain ⟨q1,q2,q3,q4,q5⟩:=ht k x hk
  refine ⟨by simp only [E7o,b5k]; omega,by show _<=maxLen; simp only [maxLen]; omega,fun y hy=>?_⟩
  obtain ⟨j,hj⟩:=at_ hy
  have h5:=q5 j y hj
  have : -1<y.Comb:=by
   have key:∀ (j:Nat) (y:Crowd),x.Crowds[j]?=some y -> -1<y.Comb:=by
    intro j
    induction j with
    | zero=>intro y hy; exact (q5 0 y hy).2.2.2.2
    | succ j ih =>
     intro y hy
     obtain ⟨z,hz⟩:=b3b (show j<x.Crowds.length by have:=b1k hy; omega)
     have := ih z hz
     have := (q5 (j+1) y hy).2.2.2.2 z hz
     omega
   exact key j y hj
  unfold E62 at h5
  simp only [E9s,E7o,b5k]; omega
 ·obtain ⟨k,hk⟩:=at_ hx
  have := hs k x hk
  unfold E8x at this
  simp only [E9t,b5k]; omega
theorem G75 {h:Hall} (hk:E66 h):(V h/\E6y h=some 0/\E64 h=some 0)\/(¬ V h/\E6y h=some 60/\E64 h=some 60):=by
 rcases G76 hk with ⟨h1,h2⟩|⟨h1,h2⟩
 ·exact .inl ⟨h1,h2,h2⟩
 ·exact .inr ⟨h1,h2,h2⟩
theorem G77 {h:Hall} (hv:V h):E6y h=some 0/\E64 h=some 0:=by
 rcases G75 (G8b hv) with ⟨_,h1,h2⟩|⟨h1,_⟩
 ·exact ⟨h1,h2⟩
 ·exact absurd hv h1
theorem G8e {h:Hall} (hv:V h) {α:Type} (f:List halls_bound->Option α):((E68 h).bind fun y=>(E7b h y).bind f)=f (tab h.Combs.length fun c=>bdT (T h) (own h c) (u8s h c)):=by
 have := H02 hv
 cases e:E68 h with
 | none=>rw [e] at this; cases this
 | some y =>
  rw [e] at this
  simp only [bS9] at this ⊢
  rw [this]; rfl
section
variable {h:Hall} (hv:V h) {c:Nat} (hc:c<h.Combs.length) {r:Int} (hr:0<=r/\r<=1000)
include hv hc
end
section
variable {h:Hall} (hv:V h) {c:Nat} {f k:Nat}
include hv
end
section
variable {h:Hall} (hv:V h) {c:Nat} (hc:c<h.Combs.length) {f:Nat} (hf:f<T h)
include hv hc hf
end
def N5f (x:Train) (a:Int) (p:List Int):Prop:=(x.At.Low<=a/\a<=x.At.High)/\p.length=x.Crowds.length/\∀ (k:Nat) y n,x.Crowds[k]?=some y->p[k]?=some n->y.People.Low<=n/\n<=y.People.High
def N5g (x:Comb) (w:List Int):Prop:=1<=w.length/\w.length<=20/\∀ n∈w,x.Walk.Low<=n/\n<=x.Walk.High
structure Fit (h:Hall) (d:Day):Prop where
 at_ : d.At.length=h.Trains.length
 people : d.People.length=h.Trains.length
 walks : d.Walks.length=h.Combs.length
 ride : ∀ (i:Nat) x a p,h.Trains[i]?=some x->d.At[i]?=some a->d.People[i]?=some p->N5f x a p
 walk : ∀ (u:Nat) x w,h.Combs[u]?=some x->d.Walks[u]?=some w->N5g x w
section
variable {d:Day} {i:Nat} {x:Train} {p:List Int} (hp:d.People[i]?=some p) (hl:p.length=x.Crowds.length) (hm:x.Crowds.length<=maxLen)
include hp hl hm
theorem P3e:((∀ (k:Nat) y n,x.Crowds[k]?=some y->p[k]?=some n->y.People.Low<=n/\n<=y.People.High)/\b0w (P1o d i x) 0=some (.inl ())) \/
  ((∃ (k:Nat) (y:Crowd) (n:Int),x.Crowds[k]?=some y/\p[k]?=some n/\¬ (y.People.Low<=n/\n<=y.People.High))/\b0w (P1o d i x) 0=some (.inr false)):=by
 rcases c3v (f:=P1o d i x) x.Crowds (fun k y=>∃ n,p[k]?=some n/\¬ (y.People.Low<=n/\n<=y.People.High)) (.inr false) (.inl ()) (fun k y hy hb=>by
   obtain ⟨n,hn,hb⟩:=hb
   simp only [P1o,b1h hy,b1h hp,b1h hn,bS9]
   rw [if_pos (by simpa using b1k hy),if_pos]
   simp only [x80,Bool.not_eq_true',Bool.and_eq_false_iff,decide_eq_false_iff_not]; omega) (fun k y hy hb=>by
   obtain ⟨n,hn⟩:=b3b (show k<p.length by rw [hl]; exact b1k hy)
   simp only [P1o,b1h hy,b1h hp,b1h hn,bS9]
   rw [if_pos (by simpa using b1k hy),if_neg,b2r (b1k hy) hm]
   have hb:y.People.Low<=n/\n<=y.People.High:=Classical.not_not.1 fun hh=>hb ⟨n,hn,hh⟩
   simp only [x80,Bool.not_eq_true',Bool.and_eq_false_iff,decide_eq_false_iff_not]; omega) (by simp [P1o]) with ⟨h1,h2⟩|⟨⟨k,y,hy,n,hn,hb⟩,h2⟩
 ·exact .inl ⟨fun k y n hy hn=>Classical.not_not.1 fun hh=>h1 k y hy ⟨n,hn,hh⟩,h2⟩
 ·exact .inr ⟨⟨k,y,n,hy,hn,hb⟩,h2⟩
end
section
variable {h:Hall} (hv:V h) {d:Day} (hd:N35 d)
include hv hd
theorem P41:(Fit h d/\P1q h d=some true)\/(¬ Fit h d/\P1q h d=some false):=by
 have hn:=hv.1.2.2.2.1
 have ht:=hv.1.2.2.2.2.1
 unfold P1q
 by_cases q:d.At.length=h.Trains.length/\d.People.length=h.Trains.length/\d.Walks.length=h.Combs.length
 ·obtain ⟨q1,q2,q3⟩:=q
  rw [if_neg (by simp; omega)]
  rcases c3v (f:=P11 h d) h.Trains (fun i x=>∃ a p,d.At[i]?=some a/\d.People[i]?=some p/\¬ N5f x a p) (.inr false) (.inl ()) (fun i x hx hb=>by
    obtain ⟨a,p,ha,hp,hb⟩:=hb
    simp only [P11,b1h hx,b1h ha,b1h hp,bS9]
    rw [if_pos (by simpa using b1k hx)]
    by_cases r1:x.At.Low<=a/\a<=x.At.High
    ·rw [if_neg (by simp only [x80,Bool.not_eq_true',Bool.and_eq_false_iff,decide_eq_false_iff_not]; omega)]
     simp only [bS9]
     by_cases r2:p.length=x.Crowds.length
     ·rw [if_neg (by simp; omega)]
      rcases P3e hp r2 (by have:=(hv.2.2.1 i x hx).2.2.2.1; simp only [maxLen]; omega) with ⟨c1,_⟩|⟨_,c2⟩
      ·exact absurd ⟨r1,r2,c1⟩ hb
      ·rw [c2]; rfl
     ·rw [if_pos (by simp; omega)]
    ·rw [if_pos (by simp only [x80,Bool.not_eq_true',Bool.and_eq_false_iff,decide_eq_false_iff_not]; omega)]
     simp only [bS9,if_true]) (fun i x hx hb=>by
    obtain ⟨a,ha⟩:=b3b (show i<d.At.length by rw [q1]; exact b1k hx)
    obtain ⟨p,hp⟩:=b3b (show i<d.People.length by rw [q2]; exact b1k hx)
    obtain ⟨r1,r2,r3⟩:N5f x a p:=Classical.not_not.1 fun hh=>hb ⟨a,p,ha,hp,hh⟩
    simp only [P11,b1h hx,b1h ha,b1h hp,bS9]
    rw [if_pos (by simpa using b1k hx),if_neg (by simp only [x80,Bool.not_eq_true',Bool.and_eq_false_iff,decide_eq_false_iff_not]; omega)]
    simp only [bS9]
    rw [if_neg (by simp; omega)]
    rcases P3e hp r2 (by have:=(hv.2.2.1 i x hx).2.2.2.1; simp only [maxLen]; omega) with ⟨_,c2⟩|⟨⟨k,y,n,hy,hn',hb⟩,_⟩
    ·rw [c2]; simp only [bS9,P2k,b2r (b1k hx) (show h.Trains.length<=maxLen by simp only [maxLen]; omega)]
    ·exact absurd (r3 k y n hy hn') hb) (by simp [P11]) with ⟨t1,t2⟩|⟨⟨i,x,hx,a,p,ha,hp,hb⟩,t2⟩
  ·rw [t2]
   simp only [bS9,P2l]
   rcases c3v (f:=P12 h d) h.Combs (fun u x=>∃ w,d.Walks[u]?=some w/\¬ N5g x w) (.inr false) (.inl ()) (fun u x hx hb=>by
     obtain ⟨w,hw,hb⟩:=hb
     have hwl:w.length<=maxLen:=(hd.2.2.2 w (mG9 hw)).1
     simp only [P12,b1h hx,b1h hw,bS9]
     rw [if_pos (by simpa using b1k hx)]
     by_cases r1:1<=w.length/\w.length<=20
     ·rw [if_neg (by simp; omega)]
      obtain ⟨b,b1,b2⟩:=H0c (l:=w) (f:=fun z20=>some (P1n z20 x)) (p:=fun n=>¬ (x.Walk.Low<=n/\n<=x.Walk.High)) hwl (fun n _=>⟨_,rfl,by
       simp only [P1n,x80,Bool.not_eq_true',Bool.and_eq_false_iff,decide_eq_false_iff_not]; omega⟩)
      rw [b1]
      simp only [bS9]
      have : b=true:=b2.2 (Classical.byContradiction fun hh=>hb ⟨r1.1,r1.2,fun n hn=>Classical.not_not.1 fun hh2=>hh ⟨n,hn,hh2⟩⟩)
      rw [this,if_pos rfl]
     ·rw [if_pos (by simp; omega)]
      simp only [bS9,if_true]) (fun u x hx hb=>by
     obtain ⟨w,hw⟩:=b3b (show u<d.Walks.length by rw [q3]; exact b1k hx)
     obtain ⟨r1,r2,r3⟩:N5g x w:=Classical.not_not.1 fun hh=>hb ⟨w,hw,hh⟩
     simp only [P12,b1h hx,b1h hw,bS9]
     rw [if_pos (by simpa using b1k hx),if_neg (by simp; omega)]
     obtain ⟨b,b1,b2⟩:=H0c (l:=w) (f:=fun z20=>some (P1n z20 x)) (p:=fun n=>¬ (x.Walk.Low<=n/\n<=x.Walk.High)) (by simp only [maxLen]; omega) (fun n _=>⟨_,rfl,by
      simp only [P1n,x80,Bool.not_eq_true',Bool.and_eq_false_iff,decide_eq_false_iff_not]; omega⟩)
     rw [b1]
     simp only [bS9]
     have : b=false:=x0f fun hh=>by
      obtain ⟨n,hn,hbad⟩:=b2.1 hh
      exact hbad (r3 n hn)
     rw [this,if_neg (by simp),b2r (b1k hx) (show h.Combs.length<=maxLen by simp only [maxLen]; omega)]) (by simp [P12]) with ⟨w1,w2⟩|⟨⟨u,x,hx,w,hw,hb⟩,w2⟩
   ·rw [w2]
    exact .inl ⟨⟨q1,q2,q3,fun i x a p hx ha hp=>Classical.not_not.1 fun hh=>t1 i x hx ⟨a,p,ha,hp,hh⟩,fun u x w hx hw=>Classical.not_not.1 fun hh=>w1 u x hx ⟨w,hw,hh⟩⟩,rfl⟩
   ·rw [w2]
    exact .inr ⟨fun hf=>hb (hf.walk u x w hx hw),rfl⟩
  ·rw [t2]
   exact .inr ⟨fun hf=>hb (hf.ride i x a p hx ha hp),rfl⟩
 ·rw [if_pos (by simp; omega)]
  exact .inr ⟨fun hf=>q ⟨hf.at_,hf.people,hf.walks⟩,rfl⟩
end
theorem P3l {f g:Nat->Int} {c:Nat} (h:∀ u,u≠c->f u=g u):∀ {n:Nat},c<n->b23 f n=b23 g n+(f c - g c)
 | 0,hc=>by omega
 | n+1,hc=>by
  rw [E7a,E7a]
  by_cases e:c=n
  ·subst e
   rw [H0y fun i hi=>h i (by omega)]; omega
  ·rw [P3l h (by omega),h n (by omega)]; omega
theorem P2o {f:Nat->Int} {n:Nat} (h:∀ i,i<n->f i=0):b23 f n=0:=by
 have := G35 (f:=f) (B:=0) (k:=n) fun i hi=>by have:=h i hi; omega
 omega
theorem P3k {f:Nat->Int} {s:Nat} (h:∀ i,s<=i->f i=0):∀ {m:Nat},s<=m->b23 f m=b23 f s
 | 0,hm=>by rw [show s=0 by omega]
 | m+1,hm=>by
  by_cases e:s=m+1
  ·rw [e]
  ·rw [E7a,P3k h (by omega),h m (by omega)]; omega
def dAt (d:Day) (i:Nat):Int:=(d.At[i]?).getD 0
def dPe (d:Day) (i k:Nat):Int:=(((d.People[i]?).getD [])[k]?).getD 0
def wlk (d:Day) (u t:Nat):Nat:=((((d.Walks[u]?).getD [])[t % ((d.Walks[u]?).getD []).length]?).getD 0).toNat
def tr (h:Hall) (i:Nat):Train:=(h.Trains[i]?).getD default
def crC (h:Hall) (i k:Nat):Int:=(((tr h i).Crowds[k]?).map (·.Comb)).getD (-1)
def nxt (h:Hall) (u:Nat):Int:=((h.Combs[u]?).map (·.Next)).getD (-1)
def N4a (h:Hall) (d:Day) (c i k:Nat):Int:=if crC h i k=(c:Int) then dPe d i k else 0
def N39 (h:Hall) (d:Day) (t c i:Nat):Int:=if dAt d i=(t:Int) then b23 (N4a h d c i) (tr h i).Crowds.length else 0
def arr (h:Hall) (d:Day) (t c:Nat):Int:=b23 (N39 h d t c) h.Trains.length
def psN (h:Hall) (n:Nat->Nat->Int) (t c:Nat):Int:=min (n t c) (u8s h c t)
def lfN (h:Hall) (n:Nat->Nat->Int) (t c:Nat):Int:=n t c - psN h n t c
def Wt (h:Hall) (d:Day) (p:Nat->Nat->Int) (s e u t:Nat):Int:=if nxt h u=(e:Int)/\t+wlk d u t=s then p t u else 0
def P82 (h:Hall) (d:Day) (n:Nat->Nat->Int) (t c:Nat):Int:=(arr h d t c+b23 (fun u=>b23 (Wt h d (psN h n) t c u) t) h.Combs.length)+if 0<t then lfN h n (t - 1) c else 0
def nL (h:Hall) (d:Day):Nat->Nat->Nat->Int
 | 0=>fun _ _=>0
 | k+1=>fun t c=>if t=k then P82 h d (nL h d k) k c else nL h d k t c
def nn (h:Hall) (d:Day) (t c:Nat):Int:=nL h d (t+1) t c
abbrev ps (h:Hall) (d:Day):Nat->Nat->Int:=psN h (nn h d)
abbrev lf (h:Hall) (d:Day):Nat->Nat->Int:=lfN h (nn h d)
theorem P83 {h:Hall} {d:Day} {p q:Nat->Nat->Int} {t c:Nat} (hpq:∀ t',t'<t->∀ c,p t' c=q t' c):P82 h d p t c=P82 h d q t c:=by
 unfold P82
 congr 1
 ·congr 1
  refine H0y fun u _=>H0y fun t' ht'=>?_
  unfold Wt psN
  rw [hpq t' ht']
 ·split
  ·unfold lfN psN; rw [hpq (t - 1) (by omega)]
  ·rfl
theorem P47 {h:Hall} {d:Day} {k t c:Nat} (ht:t<k):nL h d k t c=nn h d t c:=by
 induction k with
 | zero=>omega
 | succ k ih =>
  by_cases e:t=k
  ·subst e; rfl
  ·show (if t=k then _ else nL h d k t c)=_
   rw [if_neg e]; exact ih (by omega)
theorem P2n {h:Hall} {d:Day} {t c:Nat}:nn h d t c=P82 h d (nn h d) t c:=by
 show (if t=t then P82 h d (nL h d t) t c else _)=_
 rw [if_pos rfl]
 exact P83 fun t' ht' c=>P47 ht'
section
variable {h:Hall} {d:Day}
def Cm (h:Hall) (d:Day) (m:Nat->Nat) (s e:Nat):Int:=arr h d s e+b23 (fun u=>b23 (Wt h d (ps h d) s e u) (m u)) h.Combs.length
def Pm (h:Hall) (d:Day) (m:Nat->Nat) (s e:Nat):Int:=Cm h d m s e+if 0<s/\s<=m e then lf h d (s - 1) e else 0
theorem P36 {m m':Nat->Nat} {c:Nat} (hc:c<h.Combs.length) (h1:∀ u,u≠c->m' u=m u) (h2:m' c=m c+1) (s e:Nat):Cm h d m' s e=Cm h d m s e+Wt h d (ps h d) s e c (m c):=by
 unfold Cm
 rw [P3l (f:=fun u=>b23 (Wt h d (ps h d) s e u) (m' u)) (g:=fun u=>b23 (Wt h d (ps h d) s e u) (m u)) (c:=c) (fun u hu=>by simp only [h1 u hu]) hc]
 simp only [h2,E7a]
 omega
theorem P29 {m m':Nat->Nat} {c:Nat} (hc:c<h.Combs.length) (h1:∀ u,u≠c->m' u=m u) (h2:m' c=m c+1) (s e:Nat) :
  Pm h d m' s e=(Pm h d m s e+if s=m c+1/\e=c then lf h d (m c) c else 0)+Wt h d (ps h d) s e c (m c):=by
 unfold Pm
 rw [P36 hc h1 h2]
 by_cases e1:e=c
 ·subst e1
  rw [h2]
  by_cases q:s=m e+1
  ·subst q
   rw [if_pos (by omega),if_neg (by omega),if_pos (by omega),Nat.add_sub_cancel]; omega
  ·rw [if_neg (c:=s=m e+1/\e=e) (by omega)]
   by_cases q2:0<s/\s<=m e
   ·rw [if_pos (by omega),if_pos q2]; omega
   ·rw [if_neg (by omega),if_neg q2]; omega
 ·rw [h1 e e1,if_neg (c:=s=m c+1/\e=c) (by omega)]; omega
variable (hv:V h) (hf:Fit h d)
include hv hf
theorem P3o {u:Nat} (hu:u<h.Combs.length) (t:Nat):∃ x w,h.Combs[u]?=some x/\d.Walks[u]?=some w/\1<=w.length/\w.length<=20/\w[t % w.length]?=some (wlk d u t:Int)/\x.Walk.Low<=wlk d u t/\wlk d u t<=x.Walk.High/\1<=wlk d u t/\wlk d u t<=20:=by
 obtain ⟨x,hx⟩:=b3b hu
 obtain ⟨w,hw⟩:=b3b (show u<d.Walks.length by rw [hf.walks]; exact hu)
 obtain ⟨g1,g2,g3⟩:=hf.walk u x w hx hw
 have hg:=hv.2.1 u x hx
 unfold E61 at hg
 obtain ⟨n,hn⟩:=b3b (show t % w.length<w.length from Nat.mod_lt _ (by omega))
 have := g3 n (mG9 hn)
 have e:wlk d u t=n.toNat:=by unfold wlk; rw [hw]; simp [hn]
 rw [e]
 refine ⟨x,w,hx,hw,g1,g2,?_,by omega,by omega,by omega,by omega⟩
 rw [hn]; congr 1; omega
theorem P4d {s e u t:Nat} (hu:u<h.Combs.length) (ht:s<=t) (p:Nat->Nat->Int):Wt h d p s e u t=0:=by
 obtain ⟨x,w,_,_,_,_,_,_,_,h1,_⟩:=P3o hv hf hu t
 unfold Wt; rw [if_neg (by omega)]
theorem P35 {m:Nat->Nat} {s e:Nat} (hm:∀ u,u<h.Combs.length->nxt h u=(e:Int)->s<=m u):Cm h d m s e=arr h d s e+b23 (fun u=>b23 (Wt h d (ps h d) s e u) s) h.Combs.length:=by
 unfold Cm
 congr 1
 refine H0y fun u hu=>?_
 by_cases q:nxt h u=(e:Int)
 ·exact P3k (fun i hi=>P4d hv hf hu hi _) (hm u hu q)
 ·rw [P2o fun i _=>by unfold Wt; rw [if_neg fun hh=>q hh.1],P2o fun i _=>by unfold Wt; rw [if_neg fun hh=>q hh.1]]
theorem P48 {m:Nat->Nat} {s e:Nat} (hm:∀ u,u<h.Combs.length->nxt h u=(e:Int)->s<=m u):nn h d s e=Cm h d m s e+if 0<s then lf h d (s - 1) e else 0:=by
 rw [P2n,P35 hv hf hm]; rfl
theorem P3i {m:Nat->Nat} {s e:Nat} (hm:∀ u,u<h.Combs.length->nxt h u=(e:Int)->s<=m u) (he:s<=m e):nn h d s e=Pm h d m s e:=by
 rw [P48 hv hf hm]
 unfold Pm
 by_cases q:0<s
 ·rw [if_pos q,if_pos ⟨q,he⟩]
 ·rw [if_neg q,if_neg (by omega)]
theorem P3m {i k:Nat} (hi:i<h.Trains.length) (hk:k<(tr h i).Crowds.length):0<=dPe d i k/\dPe d i k<=1000/\∃ y,(tr h i).Crowds[k]?=some y/\y.People.Low<=dPe d i k/\dPe d i k<=y.People.High:=by
 obtain ⟨x,hx⟩:=b3b hi
 obtain ⟨a,ha⟩:=b3b (show i<d.At.length by rw [hf.at_]; exact hi)
 obtain ⟨p,hp⟩:=b3b (show i<d.People.length by rw [hf.people]; exact hi)
 obtain ⟨_,g2,g3⟩:=hf.ride i x a p hx ha hp
 have et:tr h i=x:=by unfold tr; rw [hx]; rfl
 rw [et] at hk ⊢
 obtain ⟨y,hy⟩:=b3b hk
 obtain ⟨n,hn⟩:=b3b (show k<p.length by omega)
 have := g3 k y n hy hn
 have hg:=(hv.2.2.1 i x hx).2.2.2.2 k y hy
 unfold E62 at hg
 have e:dPe d i k=n:=by unfold dPe; rw [hp]; simp [hn]
 rw [e]
 exact ⟨by omega,by omega,y,hy,by omega,by omega⟩
theorem P4f {i:Nat} (hi:i<h.Trains.length):∃ x a,h.Trains[i]?=some x/\d.At[i]?=some (a:Nat)/\dAt d i=(a:Nat)/\a<T h/\x.At.Low<=(a:Nat)/\(a:Int)<=x.At.High/\tr h i=x:=by
 obtain ⟨x,hx⟩:=b3b hi
 obtain ⟨a,ha⟩:=b3b (show i<d.At.length by rw [hf.at_]; exact hi)
 obtain ⟨p,hp⟩:=b3b (show i<d.People.length by rw [hf.people]; exact hi)
 obtain ⟨g1,_,_⟩:=hf.ride i x a p hx ha hp
 have hg:=hv.2.2.1 i x hx
 have := E9u hv
 obtain ⟨q1,q2,q3,_⟩:=hg
 refine ⟨x,a.toNat,hx,?_,?_,by omega,by omega,by omega,by unfold tr; rw [hx]; rfl⟩
 ·rw [ha]; congr 1; omega
 ·unfold dAt; rw [ha]; simp; omega
omit hf in
theorem P3d {i:Nat} (hi:i<h.Trains.length):(tr h i).Crowds.length<=4:=by
 obtain ⟨x,hx⟩:=b3b hi
 have : tr h i=x:=by unfold tr; rw [hx]; rfl
 rw [this]; exact (hv.2.2.1 i x hx).2.2.2.1
theorem P3a {c i:Nat} (hi:i<h.Trains.length) {k:Nat} (hk:k<=(tr h i).Crowds.length):0<=b23 (N4a h d c i) k/\b23 (N4a h d c i) k<=4000:=by
 have := G35 (f:=N4a h d c i) (B:=1000) (k:=k) fun j hj=>by
  have := P3m hv hf hi (show j<(tr h i).Crowds.length by omega)
  unfold N4a; split <;> omega
 have := P3d hv hi
 omega
theorem P4e {t c i:Nat} (hi:i<h.Trains.length):0<=N39 h d t c i/\N39 h d t c i<=4000:=by
 have := P3a hv hf (c:=c) hi (Nat.le_refl _)
 unfold N39; split <;> omega
theorem P2u {t c k:Nat} (hk:k<=h.Trains.length):0<=b23 (N39 h d t c) k/\b23 (N39 h d t c) k<=48000:=by
 have := G35 (f:=N39 h d t c) (B:=4000) (k:=k) fun i hi=>P4e hv hf (by omega)
 have := hv.1.2.2.2.2.1
 omega
omit hf in
theorem P4c {n:Nat->Nat->Int} {s e u t:Nat} (hn:∀ t c,t<s->0<=n t c) (ht:t<s):0<=Wt h d (psN h n) s e u t/\Wt h d (psN h n) s e u t<=1000:=by
 have h1:=hn t u ht
 have h2:=H08 hv (c:=u) t
 unfold Wt; split
 ·unfold psN; omega
 ·omega
theorem P3j:∀ (t:Nat),t<T h->∀ c,0<=nn h d t c/\nn h d t c<=1000000 * (t+1):=by
 intro t
 induction t using Nat.strongRecOn with
 | _ t ih =>
  intro ht c
  have hT:=E7p hv
  have hN:=hv.1.2.2.2.1
  have h1:=P2u hv hf (t:=t) (c:=c) (Nat.le_refl _)
  have h2:0<=b23 (fun u=>b23 (Wt h d (psN h (nn h d)) t c u) t) h.Combs.length/\b23 (fun u=>b23 (Wt h d (psN h (nn h d)) t c u) t) h.Combs.length<=800000:=by
   have := G35 (f:=fun u=>b23 (Wt h d (psN h (nn h d)) t c u) t) (B:=100000) (k:=h.Combs.length) fun u hu=>by
    have := G35 (f:=Wt h d (psN h (nn h d)) t c u) (B:=1000) (k:=t) fun t' ht'=>P4c hv (fun t c htt=>by
     by_cases q:t<T h
     ·exact (ih t (by omega) q c).1
     ·omega) ht'
    omega
   omega
  rw [P2n]
  unfold P82
  unfold arr
  split
  ·have h3:=ih (t - 1) (by omega) (by omega) c
   have h4:=H08 hv (c:=c) (t - 1)
   have e1:lfN h (nn h d) (t - 1) c=nn h d (t - 1) c - min (nn h d (t - 1) c) (u8s h c (t - 1)):=rfl
   rw [e1]
   have : ((t - 1:Nat):Int)=(t:Int) - 1:=by omega
   rw [this] at h3
   omega
  ·omega
theorem P24 {t:Nat} (ht:t<T h) (c:Nat):0<=ps h d t c/\ps h d t c<=1000/\0<=lf h d t c/\lf h d t c<=1000000 * (t+1):=by
 have h1:=P3j hv hf t ht c
 have h2:=H08 hv (c:=c) t
 have e1:ps h d t c=min (nn h d t c) (u8s h c t):=rfl
 have e2:lf h d t c=nn h d t c - ps h d t c:=rfl
 omega
theorem P34 {m:Nat->Nat} (hm:∀ u,u<h.Combs.length->m u<=T h) (s e:Nat):0<=Cm h d m s e/\Cm h d m s e<=1000000:=by
 have hT:=E7p hv
 have hN:=hv.1.2.2.2.1
 have h1:=P2u hv hf (t:=s) (c:=e) (Nat.le_refl _)
 have := G35 (f:=fun u=>b23 (Wt h d (ps h d) s e u) (m u)) (B:=100000) (k:=h.Combs.length) fun u hu=>by
  have hmu:=hm u hu
  have := G35 (f:=Wt h d (ps h d) s e u) (B:=1000) (k:=m u) fun t' ht'=>by
   have := P24 hv hf (show t'<T h by omega) u
   unfold Wt; split <;> omega
  omega
 unfold Cm arr
 omega
theorem P2t {m:Nat->Nat} (hm:∀ u,u<h.Combs.length->m u<=T h) {s:Nat} (hs:s<T h) (e:Nat):0<=Pm h d m s e/\Pm h d m s e<=1000000000:=by
 have h1:=P34 hv hf hm s e
 have hT:=E7p hv
 unfold Pm
 split
 ·have := P24 hv hf (show s - 1<T h by omega) e
  omega
 ·omega
end
def P08 (m n:Nat) (g:Nat->Nat->Int):List (List Int):=tab m fun t=>tab n (g t)
theorem c2x {m n t:Nat} {g:Nat->Nat->Int} (ht:t<m):get (P08 m n g) (t:Int)=some (tab n (g t)):=c2y ht
theorem P25 {m n a b:Nat} {g:Nat->Nat->Int} {v:Int}:(P08 m n g).set a ((tab n (g a)).set b v)=P08 m n fun t c=>if t=a/\c=b then v else g t c:=by
 unfold P08
 rw [d5i]
 refine c1m fun t _=>?_
 by_cases e:t=a
 ·subst e
  rw [if_pos rfl,d5i]
  exact c1m fun c _=>by
   by_cases e2:c=b
   ·rw [if_pos e2]; show v=if t=t/\c=b then v else g t c; rw [if_pos ⟨rfl,e2⟩]
   ·rw [if_neg e2]; show g t c=if t=t/\c=b then v else g t c; rw [if_neg fun hh=>e2 hh.2]
 ·rw [if_neg e]
  exact c1m fun c _=>by show g t c=if t=a/\c=b then v else g t c; rw [if_neg fun hh=>e hh.1]
theorem P1p {m n:Nat} {g k:Nat->Nat->Int} (h:∀ t,t<m->∀ c,c<n->g t c=k t c):P08 m n g=P08 m n k:=c1m fun t ht=>c1m fun c hc=>h t ht c hc
theorem P26 {m n:Nat} {g:Nat->Nat->Int}:(P08 m n g).length=m:=b3y
theorem P5i {m n:Nat} {g:Nat->Nat->Int}:P08 (m+1) n g=P08 m n g++[tab n (g m)]:=l5w
theorem P5f {t n:Nat} (hn:1<=n):rem (t:Int) (n:Int)=some ((t % n:Nat):Int):=by
 unfold rem
 rw [if_neg (by omega)]
 rfl
section
variable {h:Hall} {d:Day} (hv:V h) (hf:Fit h d)
include hv hf
theorem P5k:b0w (P1x h d) (P08 (T h) h.Combs.length fun _ _=>0,0)=some (P08 (T h) h.Combs.length (arr h d)):=by
 have hT:=E7p hv
 have hN:=hv.1.2.2.2.1
 have hTr:=hv.1.2.2.2.2.1
 refine b4h (f:=P1x h d) h.Trains.length (fun s k=>(s,k)) (fun i=>P08 (T h) h.Combs.length fun t c=>b23 (N39 h d t c) i) _ (s0:=P08 (T h) h.Combs.length fun _ _=>0) rfl (fun i hi=>?_) (by
  simp only [P1x]
  rw [if_neg (by simp)]; rfl)
 obtain ⟨x,a,hx,ha,hda,haT,_,_,htr⟩:=P4f hv hf hi
 simp only [P1x,b1h hx,bS9]
 rw [if_pos (by simpa using hi)]
 have hcl:=P3d hv hi
 rw [htr] at hcl
 have := b4h (f:=P18 d i x) x.Crowds.length (fun s k=>(s,k)) (fun k=>P08 (T h) h.Combs.length fun t c=>b23 (N39 h d t c) i+if dAt d i=(t:Int) then b23 (N4a h d c i) k else 0) (P08 (T h) h.Combs.length fun t c=>b23 (N39 h d t c) (i+1))
  (s0 := P08 (T h) h.Combs.length fun t c=>b23 (N39 h d t c) i) (P1p fun t _ c _=>by simp [G0e]) (fun k hk=>by
   obtain ⟨y,hy⟩:=b3b hk
   obtain ⟨p,hp⟩:=b3b (show i<d.People.length by rw [hf.people]; exact hi)
   obtain ⟨_,g2,_⟩:=hf.ride i x a p hx ha hp
   obtain ⟨n,hn⟩:=b3b (show k<p.length by omega)
   have hpe:dPe d i k=n:=by unfold dPe; rw [hp]; simp [hn]
   have hb:=P3m hv hf hi (k:=k) (by rw [htr]; exact hk)
   have hgc:=(hv.2.2.1 i x hx).2.2.2.2 k y hy
   have hyc:0<=y.Comb:=by
    have := (G8b hv).2.1.2 x (mG9 hx)
    have key:∀ (j:Nat) (z:Crowd),x.Crowds[j]?=some z -> -1<z.Comb:=by
     intro j
     induction j with
     | zero=>intro z hz; exact ((hv.2.2.1 i x hx).2.2.2.2 0 z hz).2.2.2.2
     | succ j ih =>
      intro z hz
      obtain ⟨z',hz'⟩:=b3b (show j<x.Crowds.length by have:=b1k hz; omega)
      have := ih z' hz'
      have := ((hv.2.2.1 i x hx).2.2.2.2 (j+1) z hz).2.2.2.2 z' hz'
      omega
    have := key k y hy; omega
   obtain ⟨b,hb'⟩:∃ b:Nat,y.Comb=b:=⟨y.Comb.toNat,by omega⟩
   have hbN:b<h.Combs.length:=by unfold E62 at hgc; omega
   have hcr:crC h i k=b:=by unfold crC; rw [htr,hy,<- hb']; rfl
   have hs:=P2u hv hf (t:=a) (c:=b) (k:=i) (by omega)
   have hs2:=P3a hv hf (c:=b) hi (k:=k) (by rw [htr]; omega)
   simp only [P18,b1h hy,b1h ha,b1h hp,b1h hn,bS9]
   rw [if_pos (by simpa using hk),c2x haT]
   simp only [bS9,hb']
   rw [c2y hbN]
   simp only [bS9]
   rw [show ((a:Nat):Int).toNat=a from by omega,show ((b:Nat):Int).toNat=b from by omega,b2r hk (show x.Crowds.length<=maxLen by simp only [maxLen]; omega),hda,if_pos rfl,x21 (by omega) (by omega),
    P25 (g:=fun t c=>b23 (N39 h d t c) i+if ((a:Nat):Int)=(t:Int) then b23 (N4a h d c i) k else 0)]
   congr 3
   refine P1p fun t ht c hc=>?_
   by_cases e:t=a
   ·subst e
    rw [if_pos rfl]
    by_cases e2:c=b
    ·subst e2
     rw [if_pos ⟨rfl,rfl⟩,E7a]
     simp only [N4a,hcr,if_true,hpe]
     omega
    ·rw [if_neg (by omega),if_pos rfl,E7a]
     simp only [N4a,hcr]
     rw [if_neg (c:=(b:Int)=c) (by omega)]; omega
   ·rw [if_neg (by omega),if_neg (by omega),if_neg (by omega)]) (by
  simp only [P18]
  rw [if_neg (by simp)]
  congr 2
  refine P1p fun t _ c _=>?_
  rw [E7a]
  unfold N39
  rw [htr])
 rw [this]
 simp only [bS9,P2j,b2r hi (show h.Trains.length<=maxLen by simp only [maxLen]; omega)]
def mAt (t c:Nat):Nat->Nat:=fun u=>if u<c then t+1 else t
omit hf in
theorem P5a {c:Nat} (hc:c<h.Combs.length):∃ x,h.Combs[c]?=some x/\nxt h c=x.Next/\(x.Next = -1\/((c:Int)<x.Next/\x.Next<h.Combs.length)):=by
 obtain ⟨x,hx⟩:=b3b hc
 exact ⟨x,hx,by unfold nxt; rw [hx]; rfl,(hv.2.1 c x hx).2.2.2.2.1⟩
theorem P5e {t:Nat} (ht:t<T h) :
  b0w (P1y h d (tab h.Combs.length fun c=>tab (T h) (u8s h c)) t (tab h.Combs.length (Pm h d (fun _=>t) t))) (P08 (T h) h.Combs.length (Pm h d fun _=>t),0)=some (P08 (T h) h.Combs.length (Pm h d fun _=>t+1)):=by
 have hT:=E7p hv
 have hTi:=E9u hv
 have hN:=hv.1.2.2.2.1
 refine b4h (f:=P1y h d (tab h.Combs.length fun c=>tab (T h) (u8s h c)) t (tab h.Combs.length (Pm h d (fun _=>t) t))) h.Combs.length (fun s k=>(s,k)) (fun c=>P08 (T h) h.Combs.length (Pm h d (mAt t c))) _ (s0:=P08 (T h) h.Combs.length (Pm h d fun _=>t)) rfl (fun c hc=>?_) (by
  simp only [P1y,b3y]
  rw [if_neg (by simp)]
  congr 2
  refine P1p fun s _ e he=>?_
  unfold Pm Cm
  congr 1
  ·congr 1
   refine H0y fun u hu=>?_
   unfold mAt; rw [if_pos hu]
  ·unfold mAt; rw [if_pos he])
 obtain ⟨x,hx,hnx,hnb⟩:=P5a hv hc
 obtain ⟨x',w,hx',hw,hw1,hw2,hwv,_,_,hk1,hk2⟩:=P3o hv hf hc t
 have hmle:∀ u,u<h.Combs.length->mAt t c u<=T h:=fun u _=>by unfold mAt; split <;> omega
 have hmle':∀ u,u<h.Combs.length->mAt t (c+1) u<=T h:=fun u _=>by unfold mAt; split <;> omega
 have hmc:mAt t c c=t:=by unfold mAt; rw [if_neg (by omega)]
 have hmc':mAt t (c+1) c=mAt t c c+1:=by rw [hmc]; unfold mAt; rw [if_pos (by omega)]
 have hmu:∀ u,u≠c->mAt t (c+1) u=mAt t c u:=fun u hu=>by
  unfold mAt
  by_cases q:u<c
  ·rw [if_pos q,if_pos (by omega)]
  ·rw [if_neg q,if_neg (by omega)]
 have hval:Pm h d (mAt t c) t c=nn h d t c:=(P3i hv hf (fun u _ _=>by unfold mAt; split <;> omega) (by rw [hmc]; omega)).symm
 have hnb2:=P3j hv hf t ht c
 have hps:=P24 hv hf ht c
 have eps:min (nn h d t c) (u8s h c t)=ps h d t c:=rfl
 have elf:nn h d t c - ps h d t c=lf h d t c:=rfl
 simp only [P1y,b3y]
 rw [if_pos (by simpa using hc),c2x ht]
 simp only [bS9]
 rw [c2y hc]
 simp only [bS9,hval]
 rw [c2y hc]
 simp only [bS9]
 rw [c2y ht]
 simp only [bS9,g1r,eps]
 rw [show wr ((t:Int)+1)=((t+1:Nat):Int) from by rw [x21 (by omega) (by omega)]; omega]
 have wl:∀ g:Nat->Nat->Int,(∀ s,s<T h->∀ e,-1000000000<=g s e/\g s e<=2000000000)->(∀ s,s<T h->∀ e,e<h.Combs.length->g s e+Wt h d (ps h d) s e c t=Pm h d (mAt t (c+1)) s e) ->
   P10 h d t c (nn h d t c) (u8s h c t) (P08 (T h) h.Combs.length g)=some (.nx (P08 (T h) h.Combs.length (Pm h d (mAt t (c+1))),(c:Int)+1)):=fun g hgb hg=>by
  unfold P10
  rw [b1h hw]
  simp only [bS9]
  rw [P5f hw1]
  simp only [bS9]
  rw [b1h hwv]
  simp only [bS9]
  rw [b1h hx]
  simp only [bS9,g1r,eps]
  rw [show wr ((t:Int)+(wlk d c t:Int))=((t+wlk d c t:Nat):Int) from by rw [x21 (by omega) (by omega)]; omega]
  by_cases q:0<=x.Next/\t+wlk d c t<T h
  ·obtain ⟨e',he'⟩:∃ e':Nat,x.Next=e':=⟨x.Next.toNat,by omega⟩
   rw [if_pos (by rw [<- hTi]; simp; omega),c2x q.2]
   simp only [bS9,he']
   rw [c2y (show e'<h.Combs.length by omega)]
   simp only [bS9,P1z]
   have := hgb _ q.2 e'
   rw [show ((t+wlk d c t:Nat):Int).toNat=t+wlk d c t from by omega,show ((e':Nat):Int).toNat=e' from by omega,P25,b2r hc (show h.Combs.length<=maxLen by simp only [maxLen]; omega),x21 (by omega) (by omega)]
   congr 3
   refine P1p fun s hs e he=>?_
   rw [<- hg s hs e he]
   unfold Wt
   by_cases q2:s=t+wlk d c t/\e=e'
   ·obtain ⟨rfl,rfl⟩:=q2
    rw [if_pos ⟨rfl,rfl⟩,if_pos ⟨by omega,rfl⟩]
   ·rw [if_neg q2,if_neg (by omega)]; omega
  ·rw [if_neg (by rw [<- hTi]; simp; omega)]
   simp only [P1z]
   rw [b2r hc (show h.Combs.length<=maxLen by simp only [maxLen]; omega)]
   congr 3
   refine P1p fun s hs e he=>?_
   rw [<- hg s hs e he]
   unfold Wt
   rw [if_neg (by omega)]; omega
 by_cases q:t+1<T h
 ·rw [if_pos (by rw [<- hTi]; simp; omega),c2x q]
  simp only [bS9]
  rw [c2y hc]
  simp only [bS9]
  have hb1:=P2t hv hf hmle q c
  rw [show ((t+1:Nat):Int).toNat=t+1 from by omega,show ((c:Nat):Int).toNat=c from by omega,P25,x21 (n:=nn h d t c - ps h d t c) (by omega) (by omega),elf,x21 (by omega) (by omega)]
  refine wl _ (fun s hs e=>?_) (fun s hs e he=>?_)
  ·have hb2:=P2t hv hf hmle hs e
   by_cases q2:s=t+1/\e=c
   ·rw [if_pos q2]; omega
   ·rw [if_neg q2]; omega
  ·rw [P29 hc hmu hmc',hmc]
   by_cases q2:s=t+1/\e=c
   ·obtain ⟨rfl,rfl⟩:=q2
    rw [if_pos ⟨rfl,rfl⟩,if_pos ⟨rfl,rfl⟩]
   ·rw [if_neg q2,if_neg q2]; omega
 ·rw [if_neg (by rw [<- hTi]; simp; omega)]
  refine wl _ (fun s hs e=>?_) (fun s hs e he=>?_)
  ·have hb2:=P2t hv hf hmle hs e; omega
  ·rw [P29 hc hmu hmc',hmc,if_neg (by omega)]; omega
theorem P4b (hd:N35 d):P1w h d=some (P08 (T h) h.Combs.length (nn h d),0):=by
 have hT:=E7p hv
 have hTi:=E9u hv
 have hN:=hv.1.2.2.2.1
 have hday:P1q h d=some true:=by
  rcases P41 hv hd with ⟨_,h1⟩|⟨h1,_⟩
  ·exact h1
  ·exact absurd hf h1
 unfold P1w
 rw [(G77 hv).1]
 simp only [bS9]
 rw [if_neg (by simp),hday]
 simp only [bS9]
 rw [if_neg (by simp)]
 have l1:=b4h (f:=P17 h) (T h) (fun s k=>(s,k)) (fun k=>P08 k h.Combs.length fun _ _=>0) (P08 (T h) h.Combs.length fun _ _=>0) (s0:=[]) rfl (fun t ht=>by
  simp only [P17]
  rw [<- hTi,if_pos (by simpa using ht),g1q (by omega) (by omega)]
  simp only [bS9]
  rw [b9k (by simp only [P26,List.length_cons,List.length_nil]; omega)]
  simp only [bS9,b2r ht (show T h<=maxLen by simp only [maxLen]; omega)]
  rw [P5i]) (by
  simp only [P17]
  rw [<- hTi,if_neg (by simp)])
 rw [l1]
 simp only [bS9,P2f]
 rw [P5k hv hf]
 simp only [bS9,P2g]
 rw [g1q (by omega) (by omega)]
 simp only [bS9]
 have l2:=b4h (f:=P19 h) h.Combs.length (fun s k=>(s,k)) (fill h.Combs.length (fun c=>tab (T h) (u8s h c)) []) (tab h.Combs.length fun c=>tab (T h) (u8s h c)) (s0:=tab h.Combs.length fun _=>[]) (by rw [<- p6y,d1w]) (fun c hc=>by
  simp only [P19]
  rw [if_pos (by simpa using hc),H09 hv hc]
  simp only [bS9]
  rw [d15 hc]
  simp only [bS9]
  rw [show ((c:Nat):Int).toNat=c from by omega,c2r rfl,b2r hc (show h.Combs.length<=maxLen by simp only [maxLen]; omega)]) (by
  simp only [P19]
  rw [if_neg (by simp),d1u (Nat.le_refl _)])
 rw [l2]
 simp only [bS9,P2h]
 have l3:=b4h (f:=P2a h d (P08 (T h) h.Combs.length (arr h d)) (tab h.Combs.length fun c=>tab (T h) (u8s h c))) (T h) (fun s k=>(s,k)) (fun t=>P08 (T h) h.Combs.length (Pm h d fun _=>t)) (P08 (T h) h.Combs.length (nn h d)) (s0:=P08 (T h) h.Combs.length (arr h d)) (P1p fun s _ e _=>by
  unfold Pm Cm
  rw [P2o fun u _=>G0e,if_neg fun hh=>by have h2:s<=0:=hh.2; omega]; omega) (fun t ht=>by
  simp only [P2a,P26]
  rw [if_pos (by simpa using ht),c2x ht]
  simp only [bS9]
  rw [P5e hv hf ht]
  simp only [bS9,P2i,b2r ht (show T h<=maxLen by simp only [maxLen]; omega)]) (by
  simp only [P2a,P26]
  rw [if_neg (by simp)]
  congr 2
  exact P1p fun s hs e he=>(P3i hv hf (fun u _ _=>by omega) (by omega)).symm)
 rw [l3]; rfl
end
section
variable {h:Hall} {d:Day} (hv:V h) (hf:Fit h d)
include hv hf
end
section
variable {h:Hall} (hv:V h)
include hv
def Emp (h:Hall) (e:Int):Prop:=0<=e/\(∀ c,c<h.Combs.length->∀ t,t<T h->e<=(t:Int)->(own h c).most t<=0)/\(e=0\/∃ c t:Nat,c<h.Combs.length/\t<T h/\e=(t:Int)+1/\0<(own h c).most t)
theorem P38:∃ e,P1s h=some (e,0)/\Emp h e:=by
 have hT:=E7p hv
 have hN:=hv.1.2.2.2.1
 unfold P1s
 rw [(G77 hv).1]
 simp only [bS9]
 rw [if_neg (by simp),G8e hv]
 let ex (z:Int):Prop:=z=0\/∃ c t:Nat,c<h.Combs.length/\t<T h/\z=(t:Int)+1/\0<(own h c).most t
 have H0f:∀ (c:Nat),c<h.Combs.length->∀ (z:Int),0<=z->z<=T h->ex z->∃ z',b0w (P1t (bdT (T h) (own h c) (u8s h c))) (z,0)=some z'/\z<=z'/\z'<=T h/\ex z'/\∀ t,t<T h->z'<=(t:Int)->(own h c).most t<=0:=fun c hc z hz hz2 hz3=>by
  obtain ⟨b,h1,h2⟩:=j7u (f:=P1t (bdT (T h) (own h c) (u8s h c))) (T h) (fun (s:Int) k=>(s,k)) (fun k s=>z<=s/\s<=T h/\ex s/\∀ t,t<k->s<=(t:Int)->(own h c).most t<=0)
   (fun b=>z<=b/\b<=T h/\ex b/\∀ t,t<T h->b<=(t:Int)->(own h c).most t<=0) (fun s k hk ⟨i1,i2,i4,i3⟩=>by
    simp only [P1t,bdT,b3y]
    rw [if_pos (by simpa using hk),c2y hk]
    simp only [bS9]
    by_cases q:0<(own h c).most k
    ·rw [if_pos (by simpa using q)]
     refine .inl ⟨max s ((k:Int)+1),?_,by omega,by omega,?_,fun t ht hle=>i3 t (by omega) (by omega)⟩
     ·simp only [P1v,N27,b2r hk (show T h<=maxLen by simp only [maxLen]; omega)]
     ·by_cases q2:s<=(k:Int)+1
      ·rw [Int.max_eq_right q2]; exact .inr ⟨c,k,hc,hk,rfl,q⟩
      ·rw [Int.max_eq_left (by omega)]; exact i4
    ·rw [if_neg (by simpa using q)]
     refine .inl ⟨s,?_,i1,i2,i4,fun t ht hle=>?_⟩
     ·simp only [P1v,b2r hk (show T h<=maxLen by simp only [maxLen]; omega)]
     ·by_cases e:t=k
      ·subst e; omega
      ·exact i3 t (by omega) hle) (fun s ⟨i1,i2,i4,i3⟩=>⟨s,by simp [P1t,bdT,b3y],i1,i2,i4,i3⟩) (s:=z) 0 (by omega) ⟨Int.le_refl _,hz2,hz3,fun t ht=>by omega⟩
  exact ⟨b,h1,h2⟩
 obtain ⟨b,h1,h2⟩:=j7u (f:=P1u (tab h.Combs.length fun c=>bdT (T h) (own h c) (u8s h c))) h.Combs.length (fun (s:Int) k=>(s,k)) (fun k s=>0<=s/\s<=T h/\ex s/\∀ c,c<k->∀ t,t<T h->s<=(t:Int)->(own h c).most t<=0)
  (fun b=>0<=b/\ex b/\∀ c,c<h.Combs.length->∀ t,t<T h->b<=(t:Int)->(own h c).most t<=0) (fun s k hk ⟨i1,i2,i4,i3⟩=>by
   simp only [P1u,b3y]
   rw [if_pos (by simpa using hk),c2y hk]
   simp only [bS9]
   obtain ⟨z',e,j1,j2,j4,j3⟩:=H0f k hk s i1 i2 i4
   rw [e]
   simp only [bS9,P2e,b2r hk (show h.Combs.length<=maxLen by simp only [maxLen]; omega)]
   refine .inl ⟨z',rfl,by omega,j2,j4,fun c hc t ht hle=>?_⟩
   by_cases e:c=k
   ·subst e; exact j3 t ht hle
   ·exact i3 c (by omega) t ht (by omega)) (fun s ⟨i1,i2,i4,i3⟩=>⟨s,by simp [P1u,b3y],i1,i4,i3⟩) (s:=0) 0 (by omega) ⟨Int.le_refl _,by omega,.inl rfl,fun c hc=>by omega⟩
 rw [show b0w (P1u (tab h.Combs.length fun c=>bdT (T h) (own h c) (u8s h c))) (0,0)=some b from h1]
 exact ⟨b,rfl,h2.1,h2.2.2,h2.2.1⟩
end
end Go.Nw.EM.H
namespace Go.Nw.EM
open Go.Nw.EM.H
def s26 (w n:Int):Hall:=Hall.mk ([(Comb.mk w 0 (-1) (Span.mk 1 1))]) ([(Train.mk (Span.mk 0 0) ([(Crowd.mk 0 (Span.mk n n))]))]) ([]) 100
def P1j (n:Int):Day:=Day.mk ([0]) ([[n]]) ([[1]])
def N0x (w n:Int) (t:Nat):Int:=max 0 (n - w * (t:Int))
theorem N2j {α:Type} {a x:α} {k:Nat} (h:[a][k]?=some x):k=0/\x=a:=by
 cases k with
 | zero=>simp at h; exact ⟨rfl,h.symm⟩
 | succ k=>simp at h
section
variable {w n:Int} (hw:1<=w/\w<=100) (hn:1<=n/\n<=1000)
include hw hn
theorem v_E:V (s26 w n):=by
 refine ⟨?_,fun k x hx=>?_,fun k x hx=>?_,fun k x hx=>by simp [s26] at hx⟩
 ·unfold E7j s26; simp
 ·obtain ⟨rfl,rfl⟩:=N2j hx
  unfold E61 s26; simp; omega
 ·obtain ⟨rfl,rfl⟩:=N2j hx
  unfold E7s s26
  refine ⟨by show (0:Int)<=0; decide,by show (0:Int)<=0; decide,by show (0:Int)<=100 - 1; decide,by show 1<=4; decide,fun j y hy=>?_⟩
  obtain ⟨rfl,rfl⟩:=N2j hy
  unfold E62; simp; omega
theorem T_E:T (s26 w n)=100:=rfl
theorem N7i (t:Nat):u8s (s26 w n) 0 t=w:=rfl
theorem N2h (k:Nat):b23 (u8s (s26 w n) 0) k=w * (k:Int):=by
 induction k with
 | zero=>simp [b23]
 | succ k ih =>
  rw [E7a,ih,N7i hw hn,show ((k+1:Nat):Int)=(k:Int)+1 by omega,Int.mul_add,Int.mul_one]
theorem N4i (s t:Nat):y27 (s26 w n) 0 s t=if s=0 then n else 0:=by
 unfold y27 s26
 simp only [List.map_cons,List.map_nil,List.sum_cons,List.sum_nil,x12,M95]
 by_cases h:s=0
 ·subst h
  rw [if_neg (by simp),if_pos rfl]
  simp
 ·rw [if_pos (by left; show (0:Int)<(s:Int); omega),if_neg h]; rfl
theorem N6z (t:Nat):(own (s26 w n) 0).most t=N0x w n t:=by
 show (bd (s26 w n) (u8s (s26 w n)) 0).most t=_
 rw [E8v]
 show E8s (x67 (s26 w n) 0 _) (u8s (s26 w n) 0) t=_
 unfold E8s
 have hg:∀ s,x67 (s26 w n) 0 (bd (s26 w n) (u8s (s26 w n))) s t=if s=0 then n else 0:=fun s=>by
  unfold x67
  rw [N4i hw hn,G0e,Int.add_zero]
 unfold N0x
 have hlow:max 0 (n - w * (t:Int))<=E69 0 (fun s=>x67 (s26 w n) 0 (bd (s26 w n) (u8s (s26 w n))) s t - (b23 (u8s (s26 w n) 0) t - b23 (u8s (s26 w n) 0) s)) 0 (t+1):=by
  have h1:=G6s (z:=0) (g:=fun s=>x67 (s26 w n) 0 (bd (s26 w n) (u8s (s26 w n))) s t - (b23 (u8s (s26 w n) 0) t - b23 (u8s (s26 w n) 0) s)) (a:=0) (n:=t+1)
  have h2:=H0m (z:=0) (g:=fun s=>x67 (s26 w n) 0 (bd (s26 w n) (u8s (s26 w n))) s t - (b23 (u8s (s26 w n) 0) t - b23 (u8s (s26 w n) 0) s)) (a:=0) (n:=t+1) (i:=0) (by omega)
  simp only [Nat.add_zero,hg,if_true,N2h hw hn,G0e,Int.sub_zero] at h2
  rw [show w * ((0:Nat):Int)=0 by simp] at h2
  simp only [hg,N2h hw hn] at h1 ⊢
  omega
 refine Int.le_antisymm (G1e.2 ⟨by omega,fun s hs=>?_⟩) hlow
 simp only [Nat.zero_add,hg,N2h hw hn]
 by_cases h:s=0
 ·subst h
  rw [if_pos rfl,show w * ((0:Nat):Int)=0 by simp]
  omega
 ·rw [if_neg h]
  have : w * (s:Int)<=w * (t:Int):=Int.mul_le_mul_of_nonneg_left (by omega) (by omega)
  omega
theorem P37:∃ e,P1s (s26 w n)=some (e,0)/\0<=e/\(∀ t:Nat,t<100->e<=(t:Int)->N0x w n t<=0)/\(e=0\/∃ t:Nat,t<100/\e=(t:Int)+1/\0<N0x w n t):=by
 obtain ⟨e,h1,h2,h3,h4⟩:=P38 (v_E hw hn)
 refine ⟨e,h1,h2,fun t ht hle=>?_,?_⟩
 ·rw [<- N6z hw hn]
  exact h3 0 (by show 0<1; decide) t ht hle
 ·rcases h4 with h4|⟨c,t,hc,ht,he,hp⟩
  ·exact .inl h4
  ·have : c=0:=by
    have : c<1:=hc
    omega
   subst this
   exact .inr ⟨t,ht,he,by rw [<- N6z hw hn]; exact hp⟩
theorem P4r:Fit (s26 w n) (P1j n):=by
 refine ⟨rfl,rfl,rfl,fun i x a p hx ha hp=>?_,fun u x v hx hv=>?_⟩
 ·obtain ⟨rfl,rfl⟩:=N2j hx
  obtain ⟨_,rfl⟩:=N2j ha
  obtain ⟨_,rfl⟩:=N2j hp
  refine ⟨by show (0:Int)<=0/\(0:Int)<=0; decide,rfl,fun k y m hy hm=>?_⟩
  obtain ⟨rfl,rfl⟩:=N2j hy
  obtain ⟨_,rfl⟩:=N2j hm
  exact ⟨Int.le_refl _,Int.le_refl _⟩
 ·obtain ⟨rfl,rfl⟩:=N2j hx
  obtain ⟨_,rfl⟩:=N2j hv
  refine ⟨by decide,by decide,fun m hm=>?_⟩
  rw [List.mem_singleton.1 hm]
  show (1:Int)<=1/\(1:Int)<=1
  decide
theorem P49:∀ t:Nat,nn (s26 w n) (P1j n) t 0=N0x w n t:=by
 have ha:∀ t:Nat,arr (s26 w n) (P1j n) t 0=if t=0 then n else 0:=fun t=>by
  unfold arr
  show b23 (N39 (s26 w n) (P1j n) t 0) 1=_
  rw [E7a,G0e,Int.zero_add]
  unfold N39
  have e0:dAt (P1j n) 0=0:=rfl
  have e1:b23 (N4a (s26 w n) (P1j n) 0 0) (tr (s26 w n) 0).Crowds.length=n:=by
   show b23 (N4a (s26 w n) (P1j n) 0 0) 1=n
   rw [E7a,G0e,Int.zero_add]
   unfold N4a
   have : crC (s26 w n) 0 0=((0:Nat):Int):=rfl
   rw [if_pos this]; rfl
  rw [e0,e1]
  by_cases h:t=0
  ·subst h; rfl
  ·rw [if_neg h,if_neg (by omega)]
 have hW:∀ (p:Nat->Nat->Int) t,b23 (fun u=>b23 (Wt (s26 w n) (P1j n) p t 0 u) t) (s26 w n).Combs.length=0:=fun p t=>by
  show b23 (fun u=>b23 (Wt (s26 w n) (P1j n) p t 0 u) t) 1=0
  rw [E7a,G0e,Int.zero_add]
  refine P2o fun i hi=>?_
  unfold Wt
  have : nxt (s26 w n) 0 = -1:=rfl
  rw [if_neg (by rw [this]; intro h; omega)]
 intro t
 induction t with
 | zero =>
  rw [P2n]
  unfold P82
  rw [ha,hW]
  unfold N0x
  simp; omega
 | succ t ih =>
  rw [P2n]
  unfold P82
  rw [ha,hW,if_neg (by omega),if_pos (by omega),Nat.add_sub_cancel]
  unfold lfN psN
  rw [ih,N7i hw hn]
  unfold N0x
  rw [show ((t+1:Nat):Int)=(t:Int)+1 by omega,Int.mul_add,Int.mul_one]
  omega
theorem P5b:N35 (P1j n):=by
 refine ⟨⟨by show 1<=maxLen; unfold maxLen; omega,fun x hx=>?_⟩,⟨by show 1<=maxLen; unfold maxLen; omega,fun x hx=>?_⟩,⟨by show 1<=maxLen; unfold maxLen; omega,fun x hx=>?_⟩⟩
 ·rw [List.mem_singleton.1 hx]; exact ⟨by omega,by omega⟩
 ·rw [List.mem_singleton.1 hx]
  refine ⟨by show 1<=maxLen; unfold maxLen; omega,fun y hy=>?_⟩
  rw [List.mem_singleton.1 hy]
  exact ⟨by omega,by omega⟩
 ·rw [List.mem_singleton.1 hx]
  refine ⟨by show 1<=maxLen; unfold maxLen; omega,fun y hy=>?_⟩
  rw [List.mem_singleton.1 hy]
  exact ⟨by omega,by omega⟩
theorem P4a:P1w (s26 w n) (P1j n)=some (tab 100 fun t=>[N0x w n t],0):=by
 have h:=P4b (v_E hw hn) (P4r hw hn) (P5b hw hn)
 rw [T_E hw hn] at h
 have e:P08 100 (s26 w n).Combs.length (nn (s26 w n) (P1j n))=tab 100 fun t=>[N0x w n t]:=by
  unfold P08
  refine c1m fun t _=>?_
  show tab 1 _=_
  rw [l5w,P5j,List.nil_append,P49 hw hn]
 rw [e] at h
 exact h
end
end Go.Nw.EM
namespace Go.Nw.EM
def stE (d w:Int):Station:=Station.mk 2 ([(Passage.mk 0 1 1 d w (-1) 0)]) ([1])
theorem wrs {n:Int} (h1 : -100000<=n) (h2:n<=100000):wr n=n:=b3t (by omega) (by omega)
section
variable {d w o n T:Int} (hd:1<=d/\d<=20) (hw:1<=w/\w<=50) (ho:1<=o/\o<=50) (hn:1<=n/\n<=1000) (hT:0<=T/\T<=60)
include hd hw
theorem P5c:B80 (Passage.mk 0 1 1 d w (-1) 0) 2=true:=by
 unfold B80 B81 b53
 rw [wrs (n:=2 - 1) (by omega) (by omega)]
 rw [if_neg (by simp; omega)]
 simp
theorem P4o:B9i (stE d w)=some 0:=by
 unfold B9i
 rw [if_neg (by simp [stE,b53])]
 have s0:B9j (stE d w) (([]:List (Int × Int)),0)=some (.nx (b3w ([]:List (Int × Int)) (-1) (wr (b2w ([]:List (Int × Int)) (-1) 0+1)),1)):=by
  unfold B9j
  have g:get (stE d w).Passages 0=some (Passage.mk 0 1 1 d w (-1) 0):=rfl
  simp only [g,bS9]
  rw [if_pos (by simp [stE]),if_neg (by rw [show (stE d w).Places=2 from rfl,P5c hd hw]; simp),if_neg (by simp),wrs (n:=0+1) (by omega) (by omega)]
  rfl
 rw [w91 s0,b3d (b:=.inl ()) (by unfold B9j; simp [stE])]
 simp only [bS9]
 unfold B9l
 have s1:B9k (stE d w) ((-1),0)=some (.nx (1,1)):=by
  unfold B9k
  have g:get (stE d w).Exits 0=some 1:=rfl
  simp only [g,bS9]
  rw [if_pos (by simp [stE]),if_neg (by rw [show (stE d w).Places=2 from rfl,wrs (n := -1+1) (by omega) (by omega),wrs (n:=2 - 1) (by omega) (by omega)]; unfold b53; simp),wrs (n:=0+1) (by omega) (by omega)]
  rfl
 rw [w91 s1,b3d (b:=.inl ()) (by unfold B9k; simp [stE])]
 rfl
include ho
omit ho hd hw
include hn
theorem P4p:N06 (stE d w) [n,0]=some true:=by
 unfold N06
 have s0:N0c [n,0] 0=some (.nx 1):=by
  unfold N0c
  have g:get [n,0] 0=some n:=rfl
  simp only [g,bS9]
  rw [if_pos (by simp),if_neg (by unfold b53; simp; omega),wrs (n:=0+1) (by omega) (by omega)]
  rfl
 have s1:N0c [n,0] 1=some (.nx 2):=by
  unfold N0c
  have g:get [n,0] 1=some 0:=rfl
  simp only [g,bS9]
  rw [if_pos (by simp),if_neg (by unfold b53; simp),wrs (n:=1+1) (by omega) (by omega)]
  rfl
 rw [w91 s0,w91 s1,b3d (b:=.inl ()) (by unfold N0c; rw [if_neg (by simp)])]
 rfl
include hd hw hT
theorem P3g:N07 (stE d w) 0 [n,0] T=some 0:=by
 unfold N07
 rw [P4o hd hw]
 simp only [bS9]
 rw [if_neg (by simp),if_neg (by unfold b53; simp),P4p hn]
 simp only [bS9]
 rw [if_neg (by unfold b53; simp; omega)]
include ho
omit ho
theorem P3f:Gd (stE d w) [n,0] T:=by
 refine ⟨by show (1:Int)<=2/\(2:Int)<=10; decide,rfl,fun x hx=>?_,hT,by show 1<=1/\1<=24; decide,fun p hp=>?_,by show 1<=1/\1<=24; decide⟩
 ·simp only [List.mem_cons,List.not_mem_nil,or_false] at hx
  rcases hx with rfl|rfl <;> omega
 ·have : p=Passage.mk 0 1 1 d w (-1) 0:=List.mem_singleton.1 hp
  subst this
  unfold GdP
  simp only [stE]
  refine ⟨by omega,by omega,by omega,hd,by omega,by decide,by decide⟩
include ho
omit ho hT
theorem P3n:Star (stE d w) [n,0] n 2 d.toNat [(0,0,1,d,w)]:=by
 refine ⟨rfl,by decide,by simp [stE],fun q h1 h2=>?_,rfl,fun q h1=>?_,?_,fun x hx=>?_,by omega,by omega⟩
 ·have : q=1:=by omega
  subst this; simp [stE]
 ·match q,h1 with
  | 1,_=>rfl
  | q+2,_=>rfl
 ·simp [M99,N10,N11,stE,List.zipIdx]
 ·rw [List.mem_singleton.1 hx]
  exact ⟨rfl,⟨1,by omega,by omega,rfl⟩,by show d=_; omega,by show 0<=w; omega⟩
include ho
include hT
omit ho
theorem P39:N05 (stE d w) 0 [n,0] T=some (min n (w * max 0 (T+1 - d)),0):=by
 unfold N05
 rw [P3g hd hw hn hT]
 simp only [bS9]
 rw [if_neg (by simp),if_pos (P3f hd hw hn hT),N6s (P3n hd hw hn) T.toNat (by omega)]
 simp only [bS9,K73]
 have e1:((T.toNat+1 - d.toNat:Nat):Int)=max 0 (T+1 - d):=by omega
 rw [e1,Int.add_zero]
end
end Go.Nw.EM
namespace Go.Nw.EM
section
variable {d w n:Int} (hd:1<=d/\d<=20) (hw:1<=w/\w<=50) (hn:1<=n/\n<=1000)
include hn
theorem P5h:P15 [n,0]=some n:=by
 unfold P15
 have s0:P1r [n,0] (0,0)=some (.nx (n,1)):=by
  unfold P1r
  have g:get [n,0] 0=some n:=rfl
  simp only [g,bS9]
  rw [if_pos (by simp),wrs (n:=0+n) (by omega) (by omega),wrs (n:=0+1) (by omega) (by omega),Int.zero_add]
  rfl
 have s1:P1r [n,0] (n,1)=some (.nx (n,2)):=by
  unfold P1r
  have g:get [n,0] 1=some 0:=rfl
  simp only [g,bS9]
  rw [if_pos (by simp),wrs (n:=n+0) (by omega) (by omega),wrs (n:=1+1) (by omega) (by omega),Int.add_zero]
  rfl
 rw [w91 s0,w91 s1,b3d (b:=n) (by unfold P1r; simp)]
 rfl
include hd hw
theorem P3h (t:Nat):N0v (stE d w) [n,0] t=some (min n (w * max 0 ((t:Int)+1 - d))):=by
 rw [N6s (P3n hd hw hn) t (by omega)]
 simp only [K73]
 have e1:((t+1 - d.toNat:Nat):Int)=max 0 ((t:Int)+1 - d):=by omega
 rw [e1,Int.add_zero]
theorem P3b:∀ (k t u:Nat),t<=u->u<t+k->(∀ j:Nat,t<=j->j<u->¬ n<=w * max 0 ((j:Int)+1 - d))->n<=w * max 0 ((u:Int)+1 - d)->P1l (stE d w) [n,0] n k t=some ((u:Int),0)
 | 0,t,u,h1,h2,_,_=>by omega
 | k+1,t,u,h1,h2,h3,h4=>by
  rw [P1l,P3h hd hw hn,bS9]
  by_cases e:t=u
  ·subst e
   rw [if_pos (by omega)]
  ·have := h3 t (Nat.le_refl _) (by omega)
   rw [if_neg (by omega)]
   exact P3b k (t+1) u (by omega) (by omega) (fun j a b=>h3 j (by omega) b) h4
theorem P3c:∀ (k t:Nat),(∀ j:Nat,t<=j->j<t+k->¬ n<=w * max 0 ((j:Int)+1 - d))->P1l (stE d w) [n,0] n k t=some (0,3)
 | 0,t,_=>rfl
 | k+1,t,h=>by
  rw [P1l,P3h hd hw hn,bS9]
  have := h t (Nat.le_refl _) (by omega)
  rw [if_neg (by omega)]
  exact P3c k (t+1) fun j a b=>h j (by omega) (by omega)
theorem P33:P2c (stE d w) 0 [n,0]=P1l (stE d w) [n,0] n 61 0:=by
 unfold P2c
 rw [P3g hd hw hn ⟨Int.le_refl _,by omega⟩]
 simp only [bS9]
 rw [if_neg (by simp),if_pos (P3f hd hw hn ⟨Int.le_refl _,by omega⟩),P5h hn]
 rfl
end
theorem P46 {w a b:Int} (hw:0<=w) (h:a<=b):w * a<=w * b:=Int.mul_le_mul_of_nonneg_left h hw
theorem P5d {w n:Int} (hw:1<=w) (hn:0<=n) (t:Nat):min n (w * (t:Int))+min (N0x w n t) w=min n (w * ((t+1:Nat):Int)):=by
 have e:w * ((t+1:Nat):Int)=w * (t:Int)+w:=by rw [show ((t+1:Nat):Int)=(t:Int)+1 by omega,Int.mul_add,Int.mul_one]
 rw [e]
 unfold N0x
 have : 0<=w * (t:Int):=Int.mul_nonneg (by omega) (by omega)
 omega
theorem P42 (hme:L1k=some true) (x:neweltop_Room) (hn:1<=x.People/\x.People<=1000) (hw:1<=x.Wide/\x.Wide<=50) (hd:1<=x.Ticks/\x.Ticks<=20):P14 x=some true:=by
 unfold P14
 rw [hme]
 simp only [bS9]
 split
 ·rfl
 rename_i hg
 simp only [Bool.or_eq_true,decide_eq_true_eq,not_or] at hg
 have hT:0<=x.Tick/\x.Tick<=60:=by omega
 have hP:=P4a (w:=x.Wide) (n:=x.People) (by omega) hn
 unfold s26 P1j at hP
 rw [hP]
 simp only [bS9]
 rw [if_neg (by simp [b3y])]
 obtain ⟨k,hk⟩:∃ k:Nat,max 0 (x.Tick+1 - x.Ticks)=k:=⟨(max 0 (x.Tick+1 - x.Ticks)).toNat,by omega⟩
 have loop:∀ (m t:Nat),t+m=k->b0w (P13 x (tab 100 fun t=>[N0x x.Wide x.People t],0)) (min x.People (x.Wide * (t:Int)),(t:Int))=some (.inl (min x.People (x.Wide * (k:Int)))):=by
  intro m
  induction m with
  | zero =>
   intro t ht
   obtain rfl:t=k:=by omega
   refine b3d ?_
   unfold P13
   simp only
   rw [wrs (n:=(t:Int)+x.Ticks) (by omega) (by omega),if_neg (by simp; omega)]
  | succ m ih =>
   intro t ht
   have hlt:t<100:=by omega
   have h0:0<=x.Wide * (t:Int):=Int.mul_nonneg (by omega) (by omega)
   have hst:=P5d (w:=x.Wide) (n:=x.People) (by omega) (by omega) t
   have hmn:∀ a b:Int,mn a b=min a b:=fun a b=>by unfold mn; omega
   have s0:P13 x (tab 100 fun t=>[N0x x.Wide x.People t],0) (min x.People (x.Wide * (t:Int)),(t:Int))=some (.nx (min x.People (x.Wide * ((t+1:Nat):Int)),((t+1:Nat):Int))):=by
    unfold P13
    simp only
    rw [wrs (n:=(t:Int)+x.Ticks) (by omega) (by omega),if_pos (by simp; omega),c2y hlt]
    simp only [bS9]
    rw [if_neg (by simp)]
    have g:get [N0x x.Wide x.People t] 0=some (N0x x.Wide x.People t):=rfl
    rw [g]
    simp only [bS9]
    have h1:0<=N0x x.Wide x.People t:=by unfold N0x; omega
    rw [hmn,hst,wrs (by
     have := Int.mul_nonneg (show (0:Int)<=x.Wide by omega) (show (0:Int)<=((t+1:Nat):Int) by omega)
     omega) (by omega),wrs (n:=(t:Int)+1) (by omega) (by omega)]
    rfl
   rw [w91 s0]
   exact ih (t+1) (by omega)
 have hl:=loop k 0 (by omega)
 have e0:min x.People (x.Wide * ((0:Nat):Int))=0:=by
  rw [show x.Wide * ((0:Nat):Int)=0 by simp]; omega
 rw [e0] at hl
 rw [show (((0:Nat):Int))=0 from rfl] at hl
 rw [hl]
 simp only [bS9]
 unfold P2m
 have hL:=P39 hd hw hn hT
 unfold stE at hL
 rw [hL,hme]
 simp only [bS9]
 rw [hk,if_pos (by simp)]
 rfl
theorem P4q (hme:L1k=some true) (x:neweltop_Room) (hx:N1e x):P2b x=some true:=by
 unfold P2b
 rw [hme]
 simp only [bS9]
 split
 ·rfl
 rename_i hg
 simp only [Bool.or_eq_true,decide_eq_true_eq,not_or] at hg
 obtain ⟨⟨⟨⟨⟨g1,g2⟩,g3⟩,g4⟩,g5⟩,g6⟩:=hg
 have hn:1<=x.People/\x.People<=1000:=by omega
 have hw:1<=x.Wide/\x.Wide<=50:=by omega
 have hd:1<=x.Ticks/\x.Ticks<=20:=by omega
 have hj:=P42 hme x hn hw hd
 obtain ⟨e,hE,he0,he1,he2⟩:=P37 (w:=x.Wide) (n:=x.People) (by omega) hn
 have hC:=P33 hd hw hn
 unfold s26 at hE
 have hst:Station.mk 2 ([(Passage.mk 0 1 1 x.Ticks x.Wide (-1) 0)]) ([1])=stE x.Ticks x.Wide:=rfl
 rw [hst,hC,hE]
 have ht0:∃ t:Nat,t<100/\e=(t:Int)+1/\0<N0x x.Wide x.People t:=by
  rcases he2 with rfl|h
  ·have := he1 0 (by omega) (Int.le_refl _)
   unfold N0x at this
   rw [show x.Wide * ((0:Nat):Int)=0 by simp] at this
   omega
  ·exact h
 obtain ⟨t,ht,rfl,hpos⟩:=ht0
 have hwt:x.Wide * (t:Int)<x.People:=by unfold N0x at hpos; omega
 have hmiss:∀ j:Nat,(j:Int)<(t:Int)+x.Ticks->¬ x.People<=x.Wide * max 0 ((j:Int)+1 - x.Ticks):=fun j hj hle=>by
  have h1:max 0 ((j:Int)+1 - x.Ticks)<=(t:Int):=by omega
  have h2:=P46 (w:=x.Wide) (by omega) h1
  omega
 have ws:wr (wr ((t:Int)+1 - 1)+x.Ticks)=(t:Int)+x.Ticks:=by
  rw [wrs (n:=(t:Int)+1 - 1) (by omega) (by omega),wrs (by omega) (by omega)]; omega
 by_cases hl:60<(t:Int)+x.Ticks
 ·have hcl:=P3c hd hw hn 61 0 fun j _ hj=>hmiss j (by omega)
  rw [hcl]
  simp only [bS9,ws]
  rw [if_neg (by simp),if_pos (decide_eq_true hl),if_neg (by simp)]
  exact hj
 ·have ht1:t+1<100:=by omega
  have hhit:x.People<=x.Wide * max 0 ((((t:Int)+x.Ticks).toNat:Int)+1 - x.Ticks):=by
   have h1:=he1 (t+1) ht1 (by omega)
   unfold N0x at h1
   rw [show max 0 ((((t:Int)+x.Ticks).toNat:Int)+1 - x.Ticks)=((t+1:Nat):Int) by omega]
   omega
  have hcl:=P3b hd hw hn 61 0 ((t:Int)+x.Ticks).toNat (Nat.zero_le _) (by omega) (fun j _ hj=>hmiss j (by omega)) hhit
  rw [hcl]
  simp only [bS9,ws]
  rw [if_neg (by simp),if_neg (fun h=>hl (of_decide_eq_true h)),if_neg (by simp; omega)]
  exact hj
end Go.Nw.EM
