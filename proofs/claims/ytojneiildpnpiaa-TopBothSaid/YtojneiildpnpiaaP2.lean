/- Plain laws on the models. -/
import Derived.Test.YtojneiildpnpiaaNwPlain
set_option linter.all false
namespace Go.Nw
theorem j7u {σ τ β:Type} {f:τ->Option (Out τ β)} (n:Nat) (mk:σ->Int->τ) (Inv:Nat->σ->Prop) (P:β->Prop)
  (step : ∀ s (k:Nat),k<n->Inv k s->(∃ s',f (mk s k)=some (.nx (mk s' ((k:Int)+1)))/\Inv (k+1) s')\/∃ b,f (mk s k)=some (.br b)/\P b)
  (fin : ∀ s,Inv n s->∃ b,f (mk s n)=some (.br b)/\P b) {s:σ} (k0:Nat) (hk0:k0<=n) (h0:Inv k0 s):∃ b,b0w f (mk s k0)=some b/\P b:=by
 have key:∀ (d k:Nat) (s:σ),n - k=d->k<=n->Inv k s->∃ b,b0w f (mk s k)=some b/\P b:=by
  intro d
  induction d with
  | zero =>
   intro k s hd hk hi
   have : k=n:=by omega
   subst this
   obtain ⟨b,h1,h2⟩:=fin s hi
   exact ⟨b,b3d h1,h2⟩
  | succ d ih =>
   intro k s hd hk hi
   rcases step s k (by omega) hi with ⟨s',h1,h2⟩|⟨b,h1,h2⟩
   ·rw [w91 h1]
    exact ih (k+1) s' (by omega) (by omega) h2
   ·exact ⟨b,b3d h1,h2⟩
 exact key _ k0 s rfl hk0 h0
def Sub (a b:Nat):Prop:=∀ i,a.testBit i=true->b.testBit i=true
theorem sub_zero (a:Nat):Sub 0 a:=fun i h=>by simp at h
end Go.Nw
namespace Go.Nw
theorem b1h {α:Type} {l:List α} {k:Nat} {x:α} (h:l[k]?=some x):get l (k:Int)=some x:=by
 unfold get; rw [if_pos (by omega)]; simpa using h
theorem b1k {α:Type} {l:List α} {k:Nat} {x:α} (h:l[k]?=some x):k<l.length:=(gS9.1 h).1
theorem b3b {α:Type} {l:List α} {k:Nat} (h:k<l.length):∃ x,l[k]?=some x:=⟨_,gG9 h⟩
theorem j7y {σ τ β:Type} {f:τ->Option (Out τ β)} (n:Nat) (mk:σ->Int->τ) (S:Nat->σ) (b:β)
  (step : ∀ k:Nat,k<n->f (mk (S k) k)=some (.nx (mk (S (k+1)) ((k:Int)+1)))) (fin:f (mk (S n) n)=some (.br b)) (k0:Nat) (hk0:k0<=n):b0w f (mk (S k0) k0)=some b:=by
 obtain ⟨b',h1,h2⟩:=j7u (f:=f) n mk (fun k s=>s=S k) (fun x=>x=b) (fun s k hk hs=>by
  subst hs; exact .inl ⟨_,step k hk,rfl⟩) (fun s hs=>by subst hs; exact ⟨b,fin,rfl⟩) k0 hk0 rfl
 rw [h1,h2]
theorem j7z {σ τ β:Type} {f:τ->Option (Out τ β)} (n:Nat) (mk:σ->Int->τ) (S:Nat->σ) (b:β)
  (step : ∀ k:Nat,k<n->f (mk (S k) k)=some (.nx (mk (S (k+1)) ((k:Int)+1)))) (fin:f (mk (S n) n)=some (.br b)):b0w f (mk (S 0) 0)=some b :=
 j7y n mk S b step fin 0 (Nat.zero_le _)
theorem b4h {σ τ β:Type} {f:τ->Option (Out τ β)} (n:Nat) (mk:σ->Int->τ) (S:Nat->σ) (b:β) {s0:σ} (h0:s0=S 0)
  (step : ∀ k:Nat,k<n->f (mk (S k) k)=some (.nx (mk (S (k+1)) ((k:Int)+1)))) (fin:f (mk (S n) n)=some (.br b)):b0w f (mk s0 0)=some b:=by
 subst h0; exact j7z n mk S b step fin
theorem g1j {α σ τ β:Type} {f:τ->Option (Out τ β)} (l:List α) (mk:σ->Int->τ) (S:Nat->σ) (bad:Nat->α->Prop) (e u:β)
  (bstep : ∀ k x,(∀ j y,j<k->l[j]?=some y->¬ bad j y)->l[k]?=some x->bad k x->f (mk (S k) k)=some (.br e))
  (nstep : ∀ k x,(∀ j y,j<k->l[j]?=some y->¬ bad j y)->l[k]?=some x->¬ bad k x->f (mk (S k) k)=some (.nx (mk (S (k+1)) ((k:Int)+1))))
  (fin : f (mk (S l.length) l.length)=some (.br u)) {s0:σ} (h0:s0=S 0):((∀ k x,l[k]?=some x->¬ bad k x)/\b0w f (mk s0 0)=some u)\/((∃ k x,l[k]?=some x/\bad k x)/\b0w f (mk s0 0)=some e):=by
 subst h0
 have key:∀ (d k:Nat),l.length - k=d->k<=l.length->(∀ j x,j<k->l[j]?=some x->¬ bad j x) ->
   ((∀ k x,l[k]?=some x->¬ bad k x)/\b0w f (mk (S k) k)=some u)\/((∃ k x,l[k]?=some x/\bad k x)/\b0w f (mk (S k) k)=some e):=by
  intro d
  induction d with
  | zero =>
   intro k hd hk hb
   have : k=l.length:=by omega
   subst this
   exact .inl ⟨fun j x hx=>hb j x (b1k hx) hx,b3d fin⟩
  | succ d ih =>
   intro k hd hk hb
   obtain ⟨x,hx⟩:=b3b (show k<l.length by omega)
   by_cases h:bad k x
   ·exact .inr ⟨⟨k,x,hx,h⟩,b3d (bstep k x hb hx h)⟩
   ·rw [w91 (nstep k x hb hx h)]
    refine ih (k+1) (by omega) (by omega) fun j y hj hy=>?_
    by_cases e:j=k
    ·subst e; rw [hx] at hy; cases hy; exact h
    ·exact hb j y (by omega) hy
 exact key l.length 0 (by omega) (by omega) fun j x hj=>by omega
theorem D5v {α β:Type} {f:Int->Option (Out Int β)} (l:List α) (bad:Nat->α->Prop) (e u:β)
  (bstep : ∀ k x,(∀ j y,j<k->l[j]?=some y->¬ bad j y)->l[k]?=some x->bad k x->f (k:Int)=some (.br e)) (nstep:∀ k x,(∀ j y,j<k->l[j]?=some y->¬ bad j y)->l[k]?=some x->¬ bad k x->f (k:Int)=some (.nx ((k:Int)+1)))
  (fin : f (l.length:Int)=some (.br u)):((∀ k x,l[k]?=some x->¬ bad k x)/\b0w f 0=some u)\/((∃ k x,l[k]?=some x/\bad k x)/\b0w f 0=some e):=by
 have := g1j (f:=f) (σ:=Unit) l (fun _ k=>k) (fun _=>()) bad e u (fun k x h1 h2 h3=>bstep k x h1 h2 h3) (fun k x h1 h2 h3=>nstep k x h1 h2 h3) fin (s0:=()) rfl
 exact this
theorem b2r {k n:Nat} (h:k<n) (hn:n<=maxLen):wr ((k:Int)+1)=(k:Int)+1:=b3t (by omega) (by simp only [maxLen] at hn; omega)
theorem x0f {b:Bool} (h:¬ b=true):b=false:=by cases b <;> simp_all
def b6i {α:Type} (s:List α) (f:α->Option Bool):Int->Option (Out Int (Unit ⊕ Int)):=fun x =>
 if decide (x<(List.length s:Int)) then (get s x).bind fun a=>(f a).bind fun y=>if y then some (.br (.inr x)) else some (.nx (wr (x+1)))
 else some (.br (.inl ()))
theorem j4x {α:Type} {s:List α} {f:α->Option Bool} {p:α->Prop} (hl:s.length<=maxLen) (hf:∀ x∈s,∃ b,f x=some b/\(b=true ↔ p x)) :
  (∃ (k:Nat) (x:α),s[k]?=some x/\p x/\(∀ j y,j<k->s[j]?=some y->¬ p y)/\b0w (b6i s f) 0=some (.inr (k:Int)))\/((∀ x∈s,¬ p x)/\b0w (b6i s f) 0=some (.inl ())):=by
 have key:∀ (d k:Nat),s.length - k=d->k<=s.length->(∀ j y,j<k->s[j]?=some y->¬ p y) ->
   (∃ (k':Nat) (x:α),s[k']?=some x/\p x/\(∀ j y,j<k'->s[j]?=some y->¬ p y)/\b0w (b6i s f) (k:Int)=some (.inr (k':Int)))\/((∀ x∈s,¬ p x)/\b0w (b6i s f) (k:Int)=some (.inl ())):=by
  intro d
  induction d with
  | zero =>
   intro k hd hk hb
   have : k=s.length:=by omega
   subst this
   refine .inr ⟨fun x hx=>?_,b3d (by simp [b6i])⟩
   obtain ⟨j,hj,rfl⟩:=List.getElem_of_mem hx
   exact hb j _ hj (gG9 hj)
  | succ d ih =>
   intro k hd hk hb
   obtain ⟨x,hx⟩:=b3b (show k<s.length by omega)
   obtain ⟨b,hb1,hb2⟩:=hf x (mG9 hx)
   cases b with
   | true=>exact .inl ⟨k,x,hx,hb2.1 rfl,hb,b3d (by simp [b6i,b1h hx,hb1,b1k hx])⟩
   | false =>
    rw [w91 (s':=(k:Int)+1) (by simp [b6i,b1h hx,hb1,b1k hx,b2r (b1k hx) hl])]
    refine ih (k+1) (by omega) (by omega) fun j y hj hy=>?_
    by_cases e:j=k
    ·subst e; rw [hx] at hy; cases hy; exact fun hp=>by have:=hb2.2 hp; cases this
    ·exact hb j y (by omega) hy
 exact key s.length 0 (by omega) (by omega) fun j x hj=>by omega
theorem j40 {α:Type} {s:List α} {f:α->Option Bool} {p:α->Prop} {g:Option Int} (hg:g=(b0w (b6i s f) 0).bind fun|(.inl ())=>some (-1)|(.inr r')=>some r')
  (hl : s.length<=maxLen) (hf:∀ x∈s,∃ b,f x=some b/\(b=true ↔ p x)) :
  (∃ (k:Nat) (x:α),s[k]?=some x/\p x/\(∀ j y,j<k->s[j]?=some y->¬ p y)/\g=some (k:Int))\/((∀ x∈s,¬ p x)/\g=some (-1)):=by
 subst hg
 rcases j4x hl hf with ⟨k,x,h1,h2,h3,h4⟩|⟨h1,h2⟩
 ·exact .inl ⟨k,x,h1,h2,h3,by rw [h4]; rfl⟩
 ·exact .inr ⟨h1,by rw [h2]; rfl⟩
theorem G6l {α:Type} {s:List α} {f:α->Option Bool} {p:α->Prop} {g:Option Bool} (hg:g=((b0w (b6i s f) 0).bind fun|(.inl ())=>some (-1)|(.inr r')=>some r').bind fun y=>some (decide (0<=y)))
  (hl : s.length<=maxLen) (hf:∀ x∈s,∃ b,f x=some b/\(b=true ↔ p x)):∃ b,g=some b/\(b=true ↔ ∃ x∈s,p x):=by
 subst hg
 rcases j40 rfl hl hf with ⟨k,x,h1,h2,h3,h4⟩|⟨h1,h2⟩
 ·rw [h4]; exact ⟨_,rfl,by simp; exact ⟨x,mG9 h1,h2⟩⟩
 ·rw [h2]; exact ⟨_,rfl,by simp; exact h1⟩
def tab {α:Type} (n:Nat) (f:Nat->α):List α:=(List.range n).map f
def fill {α:Type} (n:Nat) (f:Nat->α) (z:α) (k:Nat):List α:=tab n fun i=>if i<k then f i else z
theorem b3y {α:Type} {n:Nat} {f:Nat->α}:(tab n f).length=n:=by simp [tab]
theorem c1l {α:Type} {n:Nat} {f:Nat->α} {i:Nat} (h:i<n):(tab n f)[i]?=some (f i):=by simp [tab,h]
theorem c2y {α:Type} {n:Nat} {f:Nat->α} {i:Nat} (h:i<n):get (tab n f) (i:Int)=some (f i):=b1h (c1l h)
theorem c1m {α:Type} {n:Nat} {f g:Nat->α} (h:∀ i,i<n->f i=g i):tab n f=tab n g:=List.map_congr_left fun i hi=>h i (List.mem_range.1 hi)
theorem l5w {α:Type} {n:Nat} {f:Nat->α}:tab (n+1) f=tab n f++[f n]:=by simp [tab,List.range_succ]
theorem d5i {α:Type} {n:Nat} {f:Nat->α} {k:Nat} {v:α}:(tab n f).set k v=tab n fun i=>if i=k then v else f i:=by
 apply List.ext_getElem?
 intro i
 by_cases hi:i<n
 ·rw [c1l hi,List.getElem?_set]
  by_cases e:k=i
  ·subst e; simp [b3y,hi]
  ·rw [if_neg e,c1l hi,if_neg (fun h=>e h.symm)]
 ·rw [List.getElem?_eq_none (by simp [b3y]; omega),List.getElem?_eq_none (by simp [b3y]; omega)]
theorem p6y {α:Type} {n:Nat} {z:α}:List.replicate n z=tab n fun _=>z:=by
 apply List.ext_getElem?
 intro i
 by_cases hi:i<n
 ·rw [c1l hi]; simp [hi]
 ·rw [List.getElem?_eq_none (by simp; omega),List.getElem?_eq_none (by simp [b3y]; omega)]
theorem d1w {α:Type} {n:Nat} {f:Nat->α} {z:α}:List.replicate n z=fill n f z 0:=by rw [p6y]; rfl
theorem d1u {α:Type} {n k:Nat} {f:Nat->α} {z:α} (h:n<=k):fill n f z k=tab n f:=c1m fun i hi=>if_pos (by omega)
theorem c2r {α:Type} {n k:Nat} {f:Nat->α} {z v:α} (hv:v=f k):(fill n f z k).set k v=fill n f z (k+1):=by
 unfold fill
 rw [d5i]
 refine c1m fun i hi=>?_
 by_cases e:i=k
 ·subst e; simp [hv]
 ·rw [if_neg e]
  by_cases h:i<k
  ·rw [if_pos h,if_pos (by omega)]
  ·rw [if_neg h,if_neg (by omega)]
theorem d15 {α:Type} {n k i:Nat} {f:Nat->α} {z:α} (h:i<n):get (fill n f z k) (i:Int)=some (if i<k then f i else z):=c2y h
theorem g1q {α:Type} {b n:Nat} {z:α} (h:n * b<=2 ^ 47) (hb:1<=b):mks b (n:Int) z=some (tab n fun _=>z):=by
 have h3:n<=n * b:=Nat.le_mul_of_pos_right n hb
 have : ((n * b:Nat):Int)=(n:Int) * b:=by simp
 rw [j8b (by omega) (by rw [<- this]; omega) (by omega),<- p6y]; rfl
def P1f {α:Type} (l:List α) (g:α->Int) (k:Nat):Int:=((l.take k).map g).sum
theorem G38 {α:Type} {l:List α} {g:α->Int}:P1f l g 0=0:=by simp [P1f]
theorem G1i {α:Type} {l:List α} {g:α->Int} {k:Nat} {x:α} (hx:l[k]?=some x):P1f l g (k+1)=P1f l g k+g x:=by
 unfold P1f; rw [List.take_add_one,hx]; simp
theorem G0f {α:Type} {l:List α} {g:α->Int}:P1f l g l.length=(l.map g).sum:=by simp [P1f]
theorem G6z {α:Type} {l:List α} {g:α->Int} {B:Int} (hB:∀ x∈l,0<=g x/\g x<=B):∀ k,k<=l.length->0<=P1f l g k/\P1f l g k<=B * k:=by
 intro k
 induction k with
 | zero=>intro _; simp [G38]
 | succ k ih =>
  intro hk
  obtain ⟨x,hx⟩:=b3b (show k<l.length by omega)
  have h1:=ih (by omega)
  have h2:=hB x (mG9 hx)
  rw [G1i hx]
  have : B * ((k+1:Nat):Int)=B * k+B:=by rw [Int.natCast_add,Int.mul_add]; simp
  rw [this]
  omega
def b23 (f:Nat->Int) (k:Nat):Int:=((List.range k).map f).sum
theorem G0e {f:Nat->Int}:b23 f 0=0:=rfl
theorem E7a {f:Nat->Int} {k:Nat}:b23 f (k+1)=b23 f k+f k:=by simp [b23,List.range_succ]
theorem G35 {f:Nat->Int} {B:Int}:∀ {k:Nat},(∀ i,i<k->0<=f i/\f i<=B)->0<=b23 f k/\b23 f k<=B * k
 | 0,_=>by simp [G0e]
 | k+1,h=>by
  have h1:=G35 (k:=k) fun i hi=>h i (by omega)
  have h2:=h k (by omega)
  rw [E7a]
  have : B * ((k+1:Nat):Int)=B * k+B:=by rw [Int.natCast_add,Int.mul_add]; simp
  rw [this]
  omega
theorem H00 {f:Nat->Int} {a b:Nat} (hab:a<=b) (h:∀ i,a<=i->i<b->0<=f i):b23 f a<=b23 f b:=by
 induction b with
 | zero=>have:a=0:=by omega
         subst this; exact Int.le_refl _
 | succ b ih =>
  by_cases e:a=b+1
  ·subst e; exact Int.le_refl _
  ·have := ih (by omega) fun i h1 h2=>h i h1 (by omega)
   have := h b (by omega) (by omega)
   rw [E7a]; omega
theorem H0z {f:Nat->Int} {B:Int} {a b:Nat} (hab:a<=b) (h:∀ i,a<=i->i<b->0<=f i/\f i<=B):0<=b23 f b - b23 f a/\b23 f b - b23 f a<=B * ((b - a:Nat):Int):=by
 induction b with
 | zero=>have:a=0:=by omega
         subst this; simp
 | succ b ih =>
  by_cases e:a=b+1
  ·subst e; simp
  ·have h1:=ih (by omega) fun i h1 h2=>h i h1 (by omega)
   have h2:=h b (by omega) (by omega)
   have : B * ((b+1 - a:Nat):Int)=B * ((b - a:Nat):Int)+B:=by rw [show b+1 - a=(b - a)+1 by omega,Int.natCast_add,Int.mul_add]; simp
   rw [E7a,this]; omega
theorem H0y {f g:Nat->Int} {k:Nat} (h:∀ i,i<k->f i=g i):b23 f k=b23 g k:=by
 unfold b23; rw [List.map_congr_left fun i hi=>h i (List.mem_range.1 hi)]
def E63 (z:Int) (g:Nat->Int) (a:Nat):Nat->Int
 | 0=>z
 | n+1=>min (E63 z g a n) (g (a+n))
def E69 (z:Int) (g:Nat->Int) (a:Nat):Nat->Int
 | 0=>z
 | n+1=>max (E69 z g a n) (g (a+n))
theorem G1f {z x:Int} {g:Nat->Int} {a n:Nat}:x<=E63 z g a n ↔ x<=z/\∀ i,i<n->x<=g (a+i):=by
 induction n with
 | zero=>simp [E63]
 | succ n ih =>
  simp only [E63,Int.le_min,ih]
  constructor
  ·rintro ⟨⟨h1,h2⟩,h3⟩
   refine ⟨h1,fun i hi=>?_⟩
   by_cases e:i=n
   ·subst e; exact h3
   ·exact h2 i (by omega)
  ·rintro ⟨h1,h2⟩
   exact ⟨⟨h1,fun i hi=>h2 i (by omega)⟩,h2 n (by omega)⟩
theorem G6t {z:Int} {g:Nat->Int} {a n:Nat}:E63 z g a n<=z:=(G1f.1 (Int.le_refl _)).1
theorem G1e {z x:Int} {g:Nat->Int} {a n:Nat}:E69 z g a n<=x ↔ z<=x/\∀ i,i<n->g (a+i)<=x:=by
 induction n with
 | zero=>simp [E69]
 | succ n ih =>
  simp only [E69,Int.max_le,ih]
  constructor
  ·rintro ⟨⟨h1,h2⟩,h3⟩
   refine ⟨h1,fun i hi=>?_⟩
   by_cases e:i=n
   ·subst e; exact h3
   ·exact h2 i (by omega)
  ·rintro ⟨h1,h2⟩
   exact ⟨⟨h1,fun i hi=>h2 i (by omega)⟩,h2 n (by omega)⟩
theorem G6s {z:Int} {g:Nat->Int} {a n:Nat}:z<=E69 z g a n:=(G1e.1 (Int.le_refl _)).1
theorem H0m {z:Int} {g:Nat->Int} {a n i:Nat} (hi:i<n):g (a+i)<=E69 z g a n:=(G1e.1 (Int.le_refl _)).2 i hi
theorem p9u {σ τ β:Type} {f:τ->Option (Out τ β)} (n:Nat) (mk:σ->Int->τ) (S:Nat->σ) (b:β) {s0:σ} (k0:Nat) (h0:s0=S k0) (hk0:k0<=n)
  (step : ∀ k:Nat,k0<=k->k<n->f (mk (S k) k)=some (.nx (mk (S (k+1)) ((k:Int)+1)))) (fin:f (mk (S n) n)=some (.br b)):b0w f (mk s0 k0)=some b:=by
 subst h0
 obtain ⟨b',h1,h2⟩:=j7u (f:=f) n mk (fun k s=>s=S k/\k0<=k) (fun x=>x=b) (fun s k hk ⟨hs,hge⟩=>by
  subst hs; exact .inl ⟨_,step k hge hk,rfl,by omega⟩) (fun s ⟨hs,_⟩=>by subst hs; exact ⟨b,fin,rfl⟩) k0 hk0 ⟨rfl,Nat.le_refl _⟩
 rw [h1,h2]
end Go.Nw
namespace Go.Nw.Fl
structure Arc where
 to : Nat
 room : Int
 back : Nat
 mv : Int × Int × Int × Int
 deriving Inhabited
abbrev Net:=List (List Arc)
def at_ (E:Net) (u i:Nat):Option Arc:=(E[u]?).bind fun r=>r[i]?
def P1h (S:Nat->Bool):List Arc->Int
 | []=>0
 | e :: r=>(if S e.to then 0 else e.room)+P1h S r
def M96 (S:Nat->Bool):Nat->Net->Int
 | _,[]=>0
 | u,r :: E=>(if S u then P1h S r else 0)+M96 S (u+1) E
def out (S:Nat->Bool) (E:Net):Int:=M96 S 0 E
def bi (b:Bool):Int:=if b then 1 else 0
theorem N3m (S:Nat->Bool):∀ (r:List Arc) (i:Nat) (e e':Arc),r[i]?=some e->e'.to=e.to->P1h S (r.set i e')=P1h S r+(if S e.to then 0 else e'.room - e.room)
 | [],i,e,e',h,_=>by simp at h
 | x :: r,0,e,e',h,ht=>by
  simp only [List.getElem?_cons_zero,iE9] at h
  subst h
  simp only [List.set_cons_zero,P1h,ht]
  split <;> omega
 | x :: r,i+1,e,e',h,ht=>by
  simp only [List.getElem?_cons_succ] at h
  simp only [List.set_cons_succ,P1h,N3m S r i e e' h ht]
  omega
theorem N2k (S:Nat->Bool):∀ (E:Net) (k u:Nat) (r r':List Arc),E[u]?=some r->M96 S k (E.set u r')=M96 S k E+(if S (k+u) then P1h S r' - P1h S r else 0)
 | [],k,u,r,r',h=>by simp at h
 | x :: E,k,0,r,r',h=>by
  simp only [List.getElem?_cons_zero,iE9] at h
  subst h
  simp only [List.set_cons_zero,M96,Nat.add_zero]
  split <;> omega
 | x :: E,k,u+1,r,r',h=>by
  simp only [List.getElem?_cons_succ] at h
  simp only [List.set_cons_succ,M96,N2k S E (k+1) u r r' h]
  rw [show k+1+u=k+(u+1) by omega]
  omega
def y12 (E:Net) (u i:Nat) (x:Int):Net :=
 match E[u]? with
 | some r=>match r[i]? with
  | some e=>E.set u (r.set i { e with room:=x })
  | none=>E
 | none=>E
theorem N0e {E:Net} {u i:Nat} {e:Arc} (h:at_ E u i=some e):∃ r,E[u]?=some r/\r[i]?=some e:=bE9.1 h
theorem N1o {E:Net} {u i:Nat} {e:Arc} {r:List Arc} {x:Int} (h1:E[u]?=some r) (h2:r[i]?=some e):y12 E u i x=E.set u (r.set i { e with room:=x }):=by
 unfold y12; rw [h1]; simp only [h2]
theorem N3g {S:Nat->Bool} {E:Net} {u i:Nat} {e:Arc} {x:Int} (h:at_ E u i=some e):out S (y12 E u i x)=out S E+(if S u=true/\S e.to=false then x - e.room else 0):=by
 obtain ⟨r,h1,h2⟩:=N0e h
 rw [N1o h1 h2]
 unfold out
 rw [N2k S E 0 u r _ h1,N3m S r i e { e with room:=x } h2 rfl,Nat.zero_add]
 cases S u <;> cases S e.to <;> simp <;> omega
theorem N0n {E:Net} {u i:Nat} {x:Int}:(y12 E u i x).length=E.length:=by
 unfold y12
 split
 ·split
  ·simp
  ·rfl
 ·rfl
theorem N3n {E:Net} {u i:Nat} {x:Int} {v:Nat} (hv:v≠u):(y12 E u i x)[v]?=E[v]?:=by
 unfold y12
 split
 ·split
  ·rw [List.getElem?_set_ne (fun e=>hv e.symm)]
  ·rfl
 ·rfl
theorem N1f {E:Net} {u i:Nat} {e:Arc} {x:Int} (h:at_ E u i=some e) (v j:Nat):at_ (y12 E u i x) v j=if v=u/\j=i then some { e with room:=x } else at_ E v j:=by
 obtain ⟨r,h1,h2⟩:=N0e h
 rw [N1o h1 h2]
 unfold at_
 have hu:=(gS9.1 h1).1
 have hi:=(gS9.1 h2).1
 by_cases e1:v=u
 ·subst e1
  rw [List.getElem?_set_self hu,bS9]
  by_cases e2:j=i
  ·subst e2
   rw [List.getElem?_set_self hi,if_pos ⟨rfl,rfl⟩]
  ·rw [List.getElem?_set_ne (fun e=>e2 e.symm),if_neg (fun e=>e2 e.2),h1,bS9]
 ·rw [List.getElem?_set_ne (fun e=>e1 e.symm),if_neg (fun e=>e1 e.1)]
structure Good (E:Net):Prop where
 p : ∀ u i e,at_ E u i=some e->e.to<E.length/\e.to≠u/\0<=e.room/\∃ e',at_ E e.to e.back=some e'/\e'.to=u/\e'.back=i/\e.room+e'.room<=1099511627776
def o19 (E:Net) (u i:Nat) (m:Int):Net:=match at_ E u i with
 | some e=>match at_ E e.to e.back with
  | some e'=>y12 (y12 E u i (e.room - m)) e.to e.back (e'.room+m)
  | none=>E
 | none=>E
section
variable {E:Net} (G:Good E) {u i:Nat} {e:Arc} (h:at_ E u i=some e) {m:Int}
include G h
theorem N0d:∃ e',at_ E e.to e.back=some e'/\e'.to=u/\e'.back=i/\e.room+e'.room<=1099511627776/\0<=e'.room/\o19 E u i m=y12 (y12 E u i (e.room - m)) e.to e.back (e'.room+m)/\at_ (y12 E u i (e.room - m)) e.to e.back=some e':=by
 obtain ⟨_,hne,_,e',h1,h2,h3,h4⟩:=G.p u i e h
 refine ⟨e',h1,h2,h3,h4,(G.p _ _ _ h1).2.2.1,?_,?_⟩
 ·unfold o19
  rw [h]; simp only [h1]
 ·rw [N1f h,if_neg (fun e=>hne e.1),h1]
theorem N0h (v j:Nat):∃ e',at_ E e.to e.back=some e'/\at_ (o19 E u i m) v j=if v=u/\j=i then some { e with room:=e.room - m } else if v=e.to/\j=e.back then some { e' with room:=e'.room+m } else at_ E v j:=by
 obtain ⟨e',h1,h2,h3,h4,h5,h6,h7⟩:=N0d G h (m:=m)
 have hne:=(G.p u i e h).2.1
 refine ⟨e',h1,?_⟩
 rw [h6,N1f h7,N1f h]
 by_cases c1:v=e.to/\j=e.back
 ·rw [if_pos c1,if_neg (fun c=>hne (c1.1.symm.trans c.1)),if_pos c1]
 ·rw [if_neg c1,if_neg c1]
theorem N36:(o19 E u i m).length=E.length:=by
 obtain ⟨e',_,_,_,_,_,h6,_⟩:=N0d G h (m:=m)
 rw [h6,N0n,N0n]
theorem N37 {v:Nat} (h1:v≠u) (h2:v≠e.to):(o19 E u i m)[v]?=E[v]?:=by
 obtain ⟨e',_,_,_,_,_,h6,_⟩:=N0d G h (m:=m)
 rw [h6,N3n h2,N3n h1]
theorem N64 (S:Nat->Bool):out S (o19 E u i m)=out S E - m * (bi (S u) - bi (S e.to)):=by
 obtain ⟨e',h1,h2,_,_,_,h6,h7⟩:=N0d G h (m:=m)
 rw [h6,N3g h7,N3g h,h2]
 unfold bi
 cases S u <;> cases S e.to <;> simp <;> omega
theorem N5h (h0:0<=m) (hm:m<=e.room):Good (o19 E u i m):=by
 have hne:=(G.p u i e h).2.1
 obtain ⟨e1,q1,q2,q3,q4,q5,_,_⟩:=N0d G h (m:=m)
 refine ⟨fun v j x hx=>?_⟩
 obtain ⟨e',p1,p2⟩:=N0h G h (m:=m) v j
 rw [q1] at p1
 obtain rfl:=Option.some.inj p1
 rw [p2] at hx
 rw [N36 G h]
 by_cases c1:v=u/\j=i
 ·rw [if_pos c1] at hx
  obtain ⟨rfl,rfl⟩:=c1
  obtain rfl:=Option.some.inj hx
  obtain ⟨a1,a2,a3,_⟩:=G.p _ _ _ h
  refine ⟨a1,a2,by show 0<=e.room - m; omega,{ e1 with room:=e1.room+m },?_,q2,q3,by show e.room - m+(e1.room+m)<=_; omega⟩
  obtain ⟨e2,p3,p4⟩:=N0h G h (m:=m) e.to e.back
  rw [q1] at p3
  obtain rfl:=Option.some.inj p3
  show at_ (o19 E v j m) e.to e.back=_
  rw [p4,if_neg (fun c=>hne c.1),if_pos ⟨rfl,rfl⟩]
 ·rw [if_neg c1] at hx
  by_cases c2:v=e.to/\j=e.back
  ·rw [if_pos c2] at hx
   obtain ⟨rfl,rfl⟩:=c2
   obtain rfl:=Option.some.inj hx
   obtain ⟨a1,a2,a3,_⟩:=G.p _ _ _ q1
   refine ⟨a1,a2,by show 0<=e1.room+m; omega,{ e with room:=e.room - m },?_,rfl,rfl,by show e1.room+m+(e.room - m)<=_; omega⟩
   obtain ⟨e2,p3,p4⟩:=N0h G h (m:=m) e1.to e1.back
   show at_ (o19 E u i m) e1.to e1.back=_
   rw [p4,if_pos ⟨q2,q3⟩]
  ·rw [if_neg c2] at hx
   obtain ⟨a1,a2,a3,y,b1,b2,b3,b4⟩:=G.p _ _ _ hx
   refine ⟨a1,a2,a3,?_⟩
   obtain ⟨e2,p3,p4⟩:=N0h G h (m:=m) x.to x.back
   rw [q1] at p3
   obtain rfl:=Option.some.inj p3
   have n1:¬ (x.to=u/\x.back=i):=fun c=>by
    rw [c.1,c.2,h] at b1
    obtain rfl:=Option.some.inj b1
    exact c2 ⟨b2.symm,b3.symm⟩
   have n2:¬ (x.to=e.to/\x.back=e.back):=fun c=>by
    rw [c.1,c.2,q1] at b1
    obtain rfl:=Option.some.inj b1
    rw [q2] at b2; rw [q3] at b3
    exact c1 ⟨b2.symm,b3.symm⟩
   exact ⟨y,by rw [p4,if_neg n1,if_neg n2,b1],b2,b3,b4⟩
end
theorem N66 {E:Net} (hr:∀ u i e,at_ E u i=some e->0<=e.room) (S:Nat->Bool):0<=out S E:=by
 have row:∀ r:List Arc,(∀ e∈r,0<=e.room)->0<=P1h S r:=by
  intro r
  induction r with
  | nil=>intro _; exact Int.le_refl _
  | cons e r ih =>
   intro h
   have h1:=h e List.mem_cons_self
   have h2:=ih fun x hx=>h x (List.mem_cons_of_mem _ hx)
   simp only [P1h]
   split <;> omega
 have key:∀ (E:Net) (k:Nat),(∀ r∈E,∀ e∈r,0<=e.room)->0<=M96 S k E:=by
  intro E
  induction E with
  | nil=>intro k _; exact Int.le_refl _
  | cons r E ih =>
   intro k h
   have h1:=row r (h r List.mem_cons_self)
   have h2:=ih (k+1) fun x hx=>h x (List.mem_cons_of_mem _ hx)
   simp only [M96]
   split <;> omega
 refine key E 0 fun r hm e he=>?_
 obtain ⟨u,hu,rfl⟩:=List.getElem_of_mem hm
 obtain ⟨i,hi,rfl⟩:=List.getElem_of_mem he
 exact hr u i _ (by unfold at_; rw [gG9 hu,bS9,gG9 hi])
theorem N3h {E:Net} (S:Nat->Bool) (h:∀ u i e,at_ E u i=some e->S u=true->S e.to=false->e.room=0):out S E=0:=by
 have row:∀ r:List Arc,(∀ e∈r,S e.to=false->e.room=0)->P1h S r=0:=by
  intro r
  induction r with
  | nil=>intro _; rfl
  | cons e r ih =>
   intro h
   have h1:=h e List.mem_cons_self
   have h2:=ih fun x hx=>h x (List.mem_cons_of_mem _ hx)
   simp only [P1h,h2]
   cases hs:S e.to
   ·simp [h1 hs]
   ·simp
 have key:∀ (E:Net) (k:Nat),(∀ (u:Nat) r,E[u]?=some r->S (k+u)=true->∀ e∈r,S e.to=false->e.room=0)->M96 S k E=0:=by
  intro E
  induction E with
  | nil=>intro k _; rfl
  | cons r E ih =>
   intro k h
   have h2:=ih (k+1) fun u x hx hs=>h (u+1) x hx (by rw [show k+(u+1)=k+1+u by omega]; exact hs)
   simp only [M96,h2]
   cases hs:S k
   ·simp
   ·have h1:=row r (h 0 r rfl hs)
    simp [h1]
 refine key E 0 fun u r hr hs e he hto=>?_
 obtain ⟨i,hi,rfl⟩:=List.getElem_of_mem he
 exact h u i _ (by unfold at_; rw [hr,bS9,gG9 hi]) (by rw [Nat.zero_add] at hs; exact hs) hto
def lv (L:List Int) (u:Nat):Int:=L.getD u (-1)
def adm (L:List Int) (u:Nat) (e:Arc):Prop:=0<e.room/\lv L e.to=lv L u+1
inductive Alive (E:Net) (L:List Int) (o:Nat):Nat->Prop
 | here:Alive E L o o
 | step {u i:Nat} {e:Arc} (h:at_ E u i=some e) (ha:adm L u e) (hn:Alive E L o e.to):Alive E L o u
def b54 (E:Net) (L:List Int) (o:Nat) (N:List Int):Prop:=∀ (u i:Nat) (e:Arc),at_ E u i=some e->(i:Int)<N.getD u 0->adm L u e->¬ Alive E L o e.to
theorem N46 {E:Net} {L:List Int} {o:Nat} {N:List Int} (h:b54 E L o N) {u:Nat} (hu:u≠o) (hall:∀ i e,at_ E u i=some e->(i:Int)<N.getD u 0):¬ Alive E L o u:=fun ha=>by
 cases ha with
 | here=>exact hu rfl
 | step h1 h2 h3=>exact h _ _ _ h1 (hall _ _ h1) h2 h3
structure Lev (E:Net) (b:Nat) (L:List Int):Prop where
 len : L.length=E.length
 b0 : lv L b=0
 lo : ∀ u,-1<=lv L u
 hi : ∀ u,lv L u<E.length
 c : ∀ u i e,at_ E u i=some e->0<=lv L u->0<e.room->0<=lv L e.to
 d : ∀ v,0<lv L v->∃ u i e,at_ E u i=some e/\e.to=v/\0<e.room/\lv L v=lv L u+1/\0<=lv L u
 z : ∀ v,lv L v=0->v=b
theorem N6t {E:Net} {b:Nat} {L:List Int} (h:Lev E b L) {o:Nat} (ho:0<=lv L o):Alive E L o b:=by
 have key:∀ (n:Nat) (v:Nat),lv L v=n->Alive E L o v->Alive E L o b:=by
  intro n
  induction n with
  | zero=>intro v hv ha; rw [<- h.z v hv]; exact ha
  | succ n ih =>
   intro v hv ha
   obtain ⟨u,i,e,h1,rfl,h3,h4,h5⟩:=h.d v (by omega)
   exact ih u (by omega) (.step h1 ⟨h3,h4⟩ ha)
 obtain ⟨n,hn⟩:=Int.eq_ofNat_of_zero_le ho
 exact key n o hn .here
theorem N6u {E:Net} (G:Good E) {b:Nat} {L:List Int} (h:Lev E b L):out (fun u=>decide (0<=lv L u)) E=0:=by
 refine N3h _ fun u i e he hs ht=>?_
 have h0:=(G.p u i e he).2.2.1
 have := h.c u i e he (of_decide_eq_true hs)
 have ht:=of_decide_eq_false ht
 omega
end Go.Nw.Fl
namespace Go.Nw.Fl
def J57 (L:List Int):Nat:=L.countP fun x=>decide (0<=x)
theorem N26 {L:List Int} {v:Nat} {x:Int} (hv:v<L.length) (u:Nat):lv (L.set v x) u=if u=v then x else lv L u:=by
 unfold lv
 rw [List.getD_eq_getElem?_getD,List.getD_eq_getElem?_getD,List.getElem?_set]
 by_cases e:u=v
 ·subst e; rw [if_pos rfl,if_pos hv,if_pos rfl]; rfl
 ·rw [if_neg (fun h=>e h.symm),if_neg e]
theorem N6v {L:List Int} {u:Nat} (h:0<=lv L u):u<L.length:=Classical.byContradiction fun hn=>by
 unfold lv at h
 rw [List.getD_eq_getElem?_getD,List.getElem?_eq_none (by omega)] at h
 simp at h
theorem N0w {L:List Int} {u:Nat} (h:u<L.length):L[u]?=some (lv L u):=by
 unfold lv
 rw [List.getD_eq_getElem?_getD,gG9 h]; rfl
theorem g9b:∀ {L:List Int} {v:Nat} {x:Int},v<L.length->lv L v<0->0<=x->J57 (L.set v x)=J57 L+1
 | [],v,x,hv,_,_=>by simp at hv
 | a :: L,0,x,_,h,hx=>by
  have ha:¬ 0<=a:=by simpa [lv] using h
  simp [J57,List.countP_cons,ha,hx]
 | a :: L,v+1,x,hv,h,hx=>by
  have ih:=g9b (L:=L) (v:=v) (x:=x) (by simpa using hv) (by simpa [lv] using h) hx
  simp only [J57,List.set_cons_succ,List.countP_cons] at ih ⊢
  omega
theorem C00 (L:List Int):J57 L<=L.length:=List.countP_le_length
structure BFi (E:Net) (b a i:Nat) (L:List Int) (q:List Nat):Prop where
 len : L.length=E.length
 b0 : lv L b=0
 lo : ∀ u,-1<=lv L u
 cnt : ∀ u,lv L u<J57 L
 z : ∀ v,lv L v=0->v=b
 d : ∀ v,0<lv L v->∃ u i e,at_ E u i=some e/\e.to=v/\0<e.room/\lv L v=lv L u+1/\0<=lv L u
 c : ∀ u j e,at_ E u j=some e->0<=lv L u->u ∉ q->(u=a->j<i)->0<e.room->0<=lv L e.to
 qq : ∀ u∈q,0<=lv L u
 ql : q.length<=J57 L
 a0 : 0<=lv L a
structure BF (E:Net) (b:Nat) (L:List Int) (q:List Nat):Prop where
 len : L.length=E.length
 b0 : lv L b=0
 lo : ∀ u,-1<=lv L u
 cnt : ∀ u,lv L u<J57 L
 z : ∀ v,lv L v=0->v=b
 d : ∀ v,0<lv L v->∃ u i e,at_ E u i=some e/\e.to=v/\0<e.room/\lv L v=lv L u+1/\0<=lv L u
 c : ∀ u j e,at_ E u j=some e->0<=lv L u->u ∉ q->0<e.room->0<=lv L e.to
 qq : ∀ u∈q,0<=lv L u
 ql : q.length<=J57 L
section
variable {E:Net} {b a i:Nat} {L:List Int} {q:List Nat}
theorem N4e (h:BF E b L (a :: q)):BFi E b a 0 L q :=
 ⟨h.len,h.b0,h.lo,h.cnt,h.z,h.d,fun u j e h1 h2 h3 h4 h5=>h.c u j e h1 h2 (fun hm=>by
  rcases List.mem_cons.1 hm with rfl|hm
  ·exact absurd (h4 rfl) (Nat.not_lt_zero _)
  ·exact h3 hm) h5,fun u hu=>h.qq u (List.mem_cons_of_mem _ hu),by have:=h.ql; simp at this; omega,h.qq a List.mem_cons_self⟩
theorem N4b (h:BFi E b a i L q) (hi:∀ j e,at_ E a j=some e->j<i):BF E b L q :=
 ⟨h.len,h.b0,h.lo,h.cnt,h.z,h.d,fun u j e h1 h2 h3 h5=>h.c u j e h1 h2 h3 (fun e=>by subst e; exact hi j _ h1) h5,h.qq,h.ql⟩
theorem N4f (h:BFi E b a i L q) {e:Arc} (he:at_ E a i=some e) (hn:0<e.room->0<=lv L e.to):BFi E b a (i+1) L q :=
 ⟨h.len,h.b0,h.lo,h.cnt,h.z,h.d,fun u j e' h1 h2 h3 h4 h5=>by
  by_cases hc:u=a/\j=i
  ·obtain ⟨rfl,rfl⟩:=hc
   rw [he] at h1; cases h1
   exact hn h5
  ·exact h.c u j e' h1 h2 h3 (fun e=>by have:=h4 e; have:j≠i:=fun e2=>hc ⟨e,e2⟩; omega) h5,h.qq,h.ql,h.a0⟩
theorem N4d (h:BFi E b a i L q) {e:Arc} (he:at_ E a i=some e) (hr:0<e.room) (hl:lv L e.to<0) (ht:e.to<E.length):BFi E b a (i+1) (L.set e.to (lv L a+1)) (q++[e.to]):=by
 have ht':e.to<L.length:=by rw [h.len]; exact ht
 have hs:=N26 (x:=lv L a+1) ht'
 have ha:=h.a0
 have hc:=g9b (x:=lv L a+1) ht' hl (by omega)
 have hna:a≠e.to:=fun e'=>by rw [e'] at ha; omega
 have keep:∀ u,0<=lv L u->lv (L.set e.to (lv L a+1)) u=lv L u:=fun u hu=>by
  rw [hs,if_neg]; intro e'; subst e'; omega
 have up:∀ u,0<=lv L u->0<=lv (L.set e.to (lv L a+1)) u:=fun u hu=>by rw [keep u hu]; exact hu
 refine ⟨by rw [List.length_set]; exact h.len,by rw [keep b (by rw [h.b0]; omega)]; exact h.b0,fun u=>?_,fun u=>?_,fun v hv=>?_,fun v hv=>?_,fun u j e' h1 h2 h3 h4 h5=>?_,fun u hu=>?_,?_,up a ha⟩
 ·rw [hs]; split
  ·omega
  ·exact h.lo u
 ·rw [hs,hc]; split
  ·have := h.cnt a; omega
  ·have := h.cnt u; omega
 ·rw [hs] at hv
  split at hv
  ·omega
  ·exact h.z v hv
 ·by_cases hv2:v=e.to
  ·refine ⟨a,i,e,he,hv2.symm,hr,?_,up a ha⟩
   rw [keep a ha,hs,if_pos hv2]
  ·rw [hs,if_neg hv2] at hv ⊢
   obtain ⟨u,j,e',g1,g2,g3,g4,g5⟩:=h.d v hv
   exact ⟨u,j,e',g1,g2,g3,by rw [keep u g5]; exact g4,up u g5⟩
 ·have hne:u≠e.to:=fun e2=>h3 (by rw [e2]; simp)
  rw [hs,if_neg hne] at h2
  by_cases hc:u=a/\j=i
  ·obtain ⟨rfl,rfl⟩:=hc
   rw [he] at h1; cases h1
   rw [hs,if_pos rfl]; omega
  ·exact up _ (h.c u j e' h1 h2 (fun hm=>h3 (List.mem_append_left _ hm)) (fun e=>by have:=h4 e; have:j≠i:=fun e2=>hc ⟨e,e2⟩; omega) h5)
 ·rcases List.mem_append.1 hu with hu|hu
  ·exact up u (h.qq u hu)
  ·rw [List.mem_singleton.1 hu,hs,if_pos rfl]; omega
 ·rw [hc,List.length_append,List.length_singleton]; have:=h.ql; omega
theorem N4c (h:BF E b L []):Lev E b L :=
 ⟨h.len,h.b0,h.lo,fun u=>by have:=h.cnt u; have:=C00 L; rw [h.len] at this; omega,fun u i e h1 h2 h3=>h.c u i e h1 h2 List.not_mem_nil h3,h.d,h.z⟩
theorem N4g (hb:b<E.length):BF E b ((List.replicate E.length (-1)).set b 0) [b]:=by
 have hn:∀ u,lv (List.replicate E.length (-1)) u = -1:=fun u=>by
  unfold lv
  rw [List.getD_eq_getElem?_getD,List.getElem?_replicate]
  split <;> rfl
 have hs:=fun u=>N26 (L:=List.replicate E.length (-1)) (v:=b) (x:=0) (by simpa using hb) u
 have hc:=g9b (L:=List.replicate E.length (-1)) (v:=b) (x:=0) (by simpa using hb) (by rw [hn]; omega) (Int.le_refl _)
 refine ⟨by simp,by rw [hs,if_pos rfl],fun u=>?_,fun u=>?_,fun v hv=>?_,fun v hv=>?_,fun u j e h1 h2 h3 h5=>?_,fun u hu=>?_,by rw [hc]; simp⟩
 ·rw [hs]; split
  ·omega
  ·rw [hn]; omega
 ·rw [hs,hc]; split
  ·omega
  ·rw [hn]; omega
 ·rw [hs] at hv
  split at hv
  ·assumption
  ·rw [hn] at hv; omega
 ·rw [hs] at hv
  split at hv
  ·omega
  ·rw [hn] at hv; omega
 ·have hne:u≠b:=fun e2=>h3 (by rw [e2]; simp)
  rw [hs,if_neg hne,hn] at h2; omega
 ·rw [List.mem_singleton.1 hu,hs,if_pos rfl]; omega
end
end Go.Nw.Fl
namespace Go.Nw.Fl
theorem N2q {α:Type}:∀ {l:List α} {i:Nat} {x:α},l[i]?=some x->l.set i x=l
 | [],i,x,h=>by simp at h
 | a :: l,0,x,h=>by simp at h; simp [h]
 | a :: l,i+1,x,h=>by
  simp only [List.getElem?_cons_succ] at h
  simp only [List.set_cons_succ,N2q h]
theorem N3o {E:Net} {u i:Nat} {e:Arc} (h:at_ E u i=some e):y12 E u i e.room=E:=by
 obtain ⟨r,h1,h2⟩:=N0e h
 rw [N1o h1 h2]
 have : ({ e with room:=e.room }:Arc)=e:=rfl
 rw [this,N2q h2,N2q h1]
theorem N38 {E:Net} (G:Good E) {u i:Nat} {e:Arc} (h:at_ E u i=some e):o19 E u i 0=E:=by
 obtain ⟨e',h1,h2,h3,h4,h5,h6,h7⟩:=N0d G h (m:=0)
 rw [h6]
 have e1:y12 E u i (e.room - 0)=E:=by rw [Int.sub_zero]; exact N3o h
 rw [e1] at h7 ⊢
 rw [Int.add_zero]
 exact N3o h7
def P1i (L:List Int) (E' E:Net):Prop:=∀ u i e',at_ E' u i=some e'->adm L u e'->∃ e,at_ E u i=some e/\e.to=e'.to/\adm L u e
theorem P1i.refl (L:List Int) (E:Net):P1i L E E:=fun _ _ e h ha=>⟨e,h,rfl,ha⟩
theorem P1i.trans {L:List Int} {E E1 E2:Net} (a:P1i L E2 E1) (b:P1i L E1 E):P1i L E2 E:=fun u i e h ha=>by
 obtain ⟨e1,h1,h2,h3⟩:=a u i e h ha
 obtain ⟨e0,g1,g2,g3⟩:=b u i e1 h1 h3
 exact ⟨e0,g1,g2.trans h2,g3⟩
theorem P1i.alive {L:List Int} {E' E:Net} (a:P1i L E' E) {o u:Nat} (h:Alive E' L o u):Alive E L o u:=by
 induction h with
 | here=>exact .here
 | step h ha _ ih =>
  obtain ⟨e,h1,h2,h3⟩:=a _ _ _ h ha
  exact .step h1 h3 (by rw [h2]; exact ih)
theorem P1i.dead {L:List Int} {E' E:Net} (a:P1i L E' E) {o:Nat} {N:List Int} (h:b54 E L o N):b54 E' L o N:=fun u i e hat hi ha hal=>by
 obtain ⟨e0,h1,h2,h3⟩:=a u i e hat ha
 exact h u i e0 h1 hi h3 (by rw [h2]; exact a.alive hal)
def K56 (E' E:Net):Prop:=E'.length=E.length/\∀ u,(E'.getD u []).length=(E.getD u []).length
theorem K56.refl (E:Net):K56 E E:=⟨rfl,fun _=>rfl⟩
theorem K56.trans {E E1 E2:Net} (a:K56 E2 E1) (b:K56 E1 E):K56 E2 E:=⟨a.1.trans b.1,fun u=>(a.2 u).trans (b.2 u)⟩
theorem N2r (E:Net) (u i:Nat) (x:Int):K56 (y12 E u i x) E:=by
 refine ⟨N0n,fun v=>?_⟩
 unfold y12
 split
 ·rename_i r hr
  split
  ·rw [List.getD_eq_getElem?_getD,List.getD_eq_getElem?_getD,List.getElem?_set]
   split
   ·rename_i e; subst e
    have := (gS9.1 hr).1
    rw [if_pos this,hr]; simp
   ·rfl
  ·rfl
 ·rfl
theorem N7n {E:Net} (u i:Nat) (m:Int):K56 (o19 E u i m) E:=by
 unfold o19
 split
 ·split
  ·exact (N2r _ _ _ _).trans (N2r _ _ _ _)
  ·exact .refl E
 ·exact .refl E
structure Pushed (E:Net) (N L:List Int) (o a:Nat) (most m:Int) (E':Net) (N':List Int):Prop where
 m0 : 0<=m
 mm : m<=most
 good : Good E'
 shape : K56 E' E
 nlen : N'.length=N.length
 out : ∀ S,out S E'=out S E - m * (bi (S a) - bi (S o))
 rows : ∀ u,lv L u<lv L a->E'[u]?=E[u]?
 adm : P1i L E' E
 nrow : ∀ u,lv L u<lv L a->N'.getD u 0=N.getD u 0
 nn : ∀ u,0<=N'.getD u 0
 nr : ∀ u,N'.getD u 0<=((E.getD u []).length:Int)
 dead : b54 E' L o N'
 stop : m<most->¬ Alive E' L o a
 same : m=0->E'=E
structure PLoop (E:Net) (N L:List Int) (o a:Nat) (most s:Int) (E':Net) (N':List Int):Prop where
 m0 : 0<=s
 mm : s<most
 good : Good E'
 shape : K56 E' E
 nlen : N'.length=N.length
 out : ∀ S,out S E'=out S E - s * (bi (S a) - bi (S o))
 rows : ∀ u,lv L u<lv L a->E'[u]?=E[u]?
 adm : P1i L E' E
 nrow : ∀ u,lv L u<lv L a->N'.getD u 0=N.getD u 0
 nn : ∀ u,0<=N'.getD u 0
 nr : ∀ u,N'.getD u 0<=((E.getD u []).length:Int)
 dead : b54 E' L o N'
 same : s=0->E'=E
section
variable {E:Net} {N L:List Int} {o a:Nat} {most s m:Int} {E1 E2:Net} {N1 N2:List Int}
theorem N7e (G:Good E) (h0:0<=most) (hn:∀ u,0<=N.getD u 0) (hr:∀ u,N.getD u 0<=((E.getD u []).length:Int)) (hd:b54 E L o N):Pushed E N L o o most most E N :=
 ⟨h0,Int.le_refl _,G,.refl E,rfl,fun S=>by rw [Int.sub_self,Int.mul_zero,Int.sub_zero],fun _ _=>rfl,.refl L E,fun _ _=>rfl,hn,hr,hd,fun h=>absurd h (Int.lt_irrefl _),fun _=>rfl⟩
theorem N7d (G:Good E) (h0:0<most) (hn:∀ u,0<=N.getD u 0) (hr:∀ u,N.getD u 0<=((E.getD u []).length:Int)) (hd:b54 E L o N):PLoop E N L o a most 0 E N :=
 ⟨Int.le_refl _,h0,G,.refl E,rfl,fun S=>by rw [Int.zero_mul,Int.sub_zero],fun _ _=>rfl,.refl L E,fun _ _=>rfl,hn,hr,hd,fun _=>rfl⟩
theorem N7a (h:PLoop E N L o a most s E1 N1) (ha:a≠o) (hend:((E1.getD a []).length:Int)<=N1.getD a 0):Pushed E N L o a most s E1 N1 :=
 ⟨h.m0,Int.le_of_lt h.mm,h.good,h.shape,h.nlen,h.out,h.rows,h.adm,h.nrow,h.nn,h.nr,h.dead,fun _=>N46 h.dead ha fun i e he=>by
  obtain ⟨r,h1,h2⟩:=N0e he
  have : E1.getD a []=r:=by rw [List.getD_eq_getElem?_getD,h1]; rfl
  rw [this] at hend
  have := (gS9.1 h2).1
  omega,h.same⟩
theorem N1x {N:List Int} {a:Nat} {x:Int} (ha:a<N.length) (u:Nat):(N.set a x).getD u 0=if u=a then x else N.getD u 0:=by
 rw [List.getD_eq_getElem?_getD,List.getD_eq_getElem?_getD,List.getElem?_set]
 by_cases e:u=a
 ·subst e; rw [if_pos rfl,if_pos ha,if_pos rfl]; rfl
 ·rw [if_neg (fun h=>e h.symm),if_neg e]
theorem N7k {E:Net} {a i:Nat} {e:Arc} (h:at_ E a i=some e):i<(E.getD a []).length:=by
 obtain ⟨r,h1,h2⟩:=N0e h
 rw [List.getD_eq_getElem?_getD,h1]
 exact (gS9.1 h2).1
theorem N3i (h:PLoop E N L o a most s E1 N1) {i:Nat} {e:Arc} (hi:N1.getD a 0=i) (he:at_ E1 a i=some e) (ha:a<N1.length) (hd:adm L a e->¬ Alive E1 L o e.to):PLoop E N L o a most s E1 (N1.set a ((i+1:Nat):Int)):=by
 have hs:=N1x (x:=((i+1:Nat):Int)) ha
 refine ⟨h.m0,h.mm,h.good,h.shape,by rw [List.length_set]; exact h.nlen,h.out,h.rows,h.adm,fun u hu=>?_,fun u=>?_,fun u=>?_,fun u j e' h1 h2 h3=>?_,h.same⟩
 ·rw [hs,if_neg (fun e=>by subst e; omega)]; exact h.nrow u hu
 ·rw [hs]; split
  ·omega
  ·exact h.nn u
 ·rw [hs]; split
  ·rename_i e; subst e
   have := N7k he
   rw [<- h.shape.2]; omega
  ·exact h.nr u
 ·rw [hs] at h2
  by_cases hu:u=a
  ·subst hu
   rw [if_pos rfl] at h2
   by_cases hj:j=i
   ·subst hj
    rw [he] at h1; cases h1
    exact hd h3
   ·exact h.dead u j e' h1 (by rw [hi]; omega) h3
  ·rw [if_neg hu] at h2
   exact h.dead u j e' h1 h2 h3
theorem N2o (h:PLoop E N L o a most s E1 N1) {i:Nat} {e:Arc} (he:at_ E1 a i=some e) (hadm:adm L a e) {q:Int} (hq:q<=e.room) (hq2:q<=most - s) (p:Pushed E1 N1 L o e.to q m E2 N2) :
  at_ E2 a i=some e/\Good E2/\m<=e.room/\0<=s+m/\s+m<=most/\Good (o19 E2 a i m)/\K56 (o19 E2 a i m) E/\(∀ S,out S (o19 E2 a i m)=out S E - (s+m) * (bi (S a) - bi (S o))) /\
   (∀ u,lv L u<lv L a->(o19 E2 a i m)[u]?=E[u]?)/\P1i L (o19 E2 a i m) E2/\P1i L E2 E/\(s+m=0->o19 E2 a i m=E)/\N2.getD a 0=N1.getD a 0:=by
 have hlv:=hadm.2
 have hrow:E2[a]?=E1[a]?:=p.rows a (by omega)
 have he2:at_ E2 a i=some e:=by
  unfold at_ at he ⊢
  rw [hrow]; exact he
 have hme:m<=e.room:=Int.le_trans p.mm hq
 have hmm:=p.mm
 have hs0:=h.m0
 have hm0:=p.m0
 have hto:=(h.good.p a i e he).2.1
 have hale:P1i L (o19 E2 a i m) E2:=fun u j x hx hax=>by
  obtain ⟨e',h1,h2⟩:=N0h p.good he2 (m:=m) u j
  rw [h2] at hx
  by_cases c1:u=a/\j=i
  ·rw [if_pos c1] at hx
   obtain ⟨rfl,rfl⟩:=c1
   cases hx
   exact ⟨e,he2,rfl,hadm⟩
  ·rw [if_neg c1] at hx
   by_cases c2:u=e.to/\j=e.back
   ·rw [if_pos c2] at hx
    obtain ⟨rfl,rfl⟩:=c2
    cases hx
    obtain ⟨_,_,_,e3,g1,g2,_⟩:=p.good.p _ _ _ he2
    rw [h1] at g1
    cases g1
    have := hax.2
    simp only [g2] at this
    omega
   ·rw [if_neg c2] at hx
    exact ⟨x,hx,rfl,hax⟩
 refine ⟨he2,p.good,hme,by omega,by omega,N5h p.good he2 hm0 hme,(N7n a i m).trans (p.shape.trans h.shape),fun S=>?_,fun u hu=>?_,hale,p.adm.trans h.adm,fun hz=>?_,p.nrow a (by omega)⟩
 ·rw [N64 p.good he2 S,p.out S,h.out S]
  have e1:(s+m) * (bi (S a) - bi (S o))=s * (bi (S a) - bi (S o))+m * (bi (S a) - bi (S o)):=Int.add_mul _ _ _
  have e2:m * (bi (S a) - bi (S o))=m * bi (S a) - m * bi (S o):=Int.mul_sub _ _ _
  have e3:m * (bi (S e.to) - bi (S o))=m * bi (S e.to) - m * bi (S o):=Int.mul_sub _ _ _
  have e4:m * (bi (S a) - bi (S e.to))=m * bi (S a) - m * bi (S e.to):=Int.mul_sub _ _ _
  omega
 ·rw [N37 p.good he2 (fun e=>by subst e; omega) (fun e=>by subst e; omega),p.rows u (by omega)]
  exact h.rows u hu
 ·have z1:s=0:=by omega
  have z2:m=0:=by omega
  rw [z2,N38 p.good he2,p.same z2,h.same z1]
theorem N7b (h:PLoop E N L o a most s E1 N1) {i:Nat} {e:Arc} (he:at_ E1 a i=some e) (hadm:adm L a e) {q:Int} (hq:q<=e.room) (hq2:q<=most - s) (p:Pushed E1 N1 L o e.to q m E2 N2) (hf:s+m=most):Pushed E N L o a most (s+m) (o19 E2 a i m) N2:=by
 obtain ⟨h1,h2,h3,h4,h5,h6,h7,h8,h9,h10,h11,h12,h13⟩:=N2o h he hadm hq hq2 p
 have hlv:=hadm.2
 exact ⟨h4,h5,h6,h7,p.nlen.trans h.nlen,h8,h9,h10.trans h11,fun u hu=>(p.nrow u (by omega)).trans (h.nrow u hu),p.nn,fun u=>by rw [<- h.shape.2]; exact p.nr u,h10.dead p.dead,fun hc=>by omega,h12⟩
theorem N7c (h:PLoop E N L o a most s E1 N1) {i:Nat} {e:Arc} (hi:N1.getD a 0=i) (he:at_ E1 a i=some e) (ha:a<N1.length) (hadm:adm L a e) {q:Int} (hq:q=min (most - s) e.room) (p:Pushed E1 N1 L o e.to q m E2 N2) (hf:s+m≠most) :
  PLoop E N L o a most (s+m) (o19 E2 a i m) (N2.set a ((i+1:Nat):Int)):=by
 have hq1:q<=e.room:=by omega
 have hq2:q<=most - s:=by omega
 obtain ⟨h1,h2,h3,h4,h5,h6,h7,h8,h9,h10,h11,h12,h13⟩:=N2o h he hadm hq1 hq2 p
 have hlv:=hadm.2
 have base:PLoop E N L o a most (s+m) (o19 E2 a i m) N2 :=
  ⟨h4,by omega,h6,h7,p.nlen.trans h.nlen,h8,h9,h10.trans h11,fun u hu=>(p.nrow u (by omega)).trans (h.nrow u hu),p.nn,fun u=>by rw [<- h.shape.2]; exact p.nr u,h10.dead p.dead,h12⟩
 obtain ⟨e',g1,g2⟩:=N0h p.good h1 (m:=m) a i
 rw [if_pos ⟨rfl,rfl⟩] at g2
 refine N3i base (h13.trans hi) g2 (by rw [p.nlen]; exact ha) fun hadm3 hal=>?_
 have hr3:0<e.room - m:=hadm3.1
 exact p.stop (by omega) (h10.alive hal)
end
end Go.Nw.Fl
