/- Breadth first search finds the first of the shortest runs. -/
import Derived.Test.YtinmifhfkkjccaaDoorNwPlain
set_option linter.all false
namespace Go.Nw
def lx:List Nat->List Nat->Prop
 | a :: l,b :: r=>a<b\/(a=b/\lx l r)
 | _,_=>False
def sl (a b:List Nat):Prop:=a.length<b.length\/(a.length=b.length/\lx a b)
def sle (a b:List Nat):Prop:=a=b\/sl a b
theorem J1u:∀ {a:List Nat},¬ lx a a
 | [],h=>h
 | a :: l,h=>by rcases h with h|⟨_,h⟩
                ·omega
                ·exact J1u h
theorem J1w:∀ {a b c:List Nat},lx a b->lx b c->lx a c
 | a :: l,b :: r,c :: t,h1,h2=>by
  rcases h1 with h1|⟨e1,h1⟩ <;> rcases h2 with h2|⟨e2,h2⟩
  ·exact .inl (by omega)
  ·exact .inl (by omega)
  ·exact .inl (by omega)
  ·exact .inr ⟨by omega,J1w h1 h2⟩
 | [],_,_,h,_=>h.elim
 | _ :: _,[],_,h,_=>h.elim
 | _ :: _,_ :: _,[],_,h=>h.elim
theorem J1t:∀ {a b:List Nat} (c d:List Nat),lx a b->lx (a++c) (b++d)
 | a :: l,b :: r,c,d,h=>by
  rcases h with h|⟨e,h⟩
  ·exact .inl h
  ·exact .inr ⟨e,J1t c d h⟩
 | [],_,_,_,h=>h.elim
 | _ :: _,[],_,_,h=>h.elim
theorem J1v:∀ (a:List Nat) {c d:List Nat},lx c d->lx (a++c) (a++d)
 | [],_,_,h=>h
 | _ :: a,_,_,h=>.inr ⟨rfl,J1v a h⟩
theorem J4l {a:List Nat}:¬ sl a a:=fun h=>h.elim (fun h=>by omega) fun h=>J1u h.2
theorem J14 {a b c:List Nat} (h1:sl a b) (h2:sl b c):sl a c:=by
 rcases h1 with h1|⟨e1,h1⟩ <;> rcases h2 with h2|⟨e2,h2⟩
 ·exact .inl (by omega)
 ·exact .inl (by omega)
 ·exact .inl (by omega)
 ·exact .inr ⟨by omega,J1w h1 h2⟩
theorem J1a (a:List Nat):sle a a:=.inl rfl
theorem J4q {a b c:List Nat} (h1:sle a b) (h2:sle b c):sle a c:=by
 rcases h1 with rfl|h1
 ·exact h2
 ·rcases h2 with rfl|h2
  ·exact .inr h1
  ·exact .inr (J14 h1 h2)
theorem J4o {a b:List Nat} (h1:sle a b) (h2:sle b a):a=b:=by
 rcases h1 with rfl|h1
 ·rfl
 ·rcases h2 with rfl|h2
  ·rfl
  ·exact absurd (J14 h1 h2) J4l
theorem J09 {a b:List Nat} (h:sle a b):a.length<=b.length:=by
 rcases h with rfl|h|h
 ·exact Nat.le_refl _
 ·omega
 ·omega
theorem L88 {a b:List Nat} (h:sl a b) (x y:Nat):sl (a++[x]) (b++[y]):=by
 rcases h with h|⟨e,h⟩
 ·exact .inl (by simp; omega)
 ·exact .inr ⟨by simp [e],J1t _ _ h⟩
theorem J4m (a:List Nat) {x y:Nat} (h:x<y):sl (a++[x]) (a++[y]):=.inr ⟨by simp,J1v a (.inl h)⟩
theorem J4p {a b:List Nat} (h:sle a b) (x:Nat):sle (a++[x]) (b++[x]):=by
 rcases h with rfl|h
 ·exact .inl rfl
 ·exact .inr (L88 h x x)
theorem J4n {a:List Nat} (x:Nat):sl [] (a++[x]):=.inl (by simp)
section
variable {α:Type} [DecidableEq α] (st:α->Nat->Option α)
def gos:α->List Nat->Option α
 | p,[]=>some p
 | p,x :: l=>(st p x).bind fun q=>gos q l
theorem J3i {p:α} {l r:List Nat}:gos st p (l++r)=(gos st p l).bind fun q=>gos st q r:=by
 induction l generalizing p with
 | nil=>rfl
 | cons x l ih =>
  simp only [List.cons_append,gos]
  cases st p x with
  | none=>rfl
  | some q=>exact ih
theorem J1n {p:α} {l:List Nat} {x:Nat}:gos st p (l++[x])=(gos st p l).bind fun q=>st q x:=by
 rw [J3i]
 congr 1
 funext q
 simp only [gos]
 cases st q x <;> rfl
def H85 (z q:α) (l:List Nat):Prop:=gos st z l=some q/\∀ r,gos st z r=some q->sle l r
theorem M13 {z q:α} {l r:List Nat} (h1:H85 st z q l) (h2:H85 st z q r):l=r:=J4o (h1.2 r h2.1) (h2.2 l h1.1)
structure Found (z:α) (i x:Nat) (s:List (α × List Nat)):Prop where
 z0 : s[0]?=some (z,[])
 g : ∀ e∈s,gos st z e.2=some e.1
 s0 : ∀ (j k:Nat) a b,j<k->s[j]?=some a->s[k]?=some b->sl a.2 b.2
 n : ∀ (j k:Nat) a b,s[j]?=some a->s[k]?=some b->a.1=b.1->j=k
 c : ∀ (j y:Nat) a q,(j<i\/(j=i/\y<x))->s[j]?=some a->st a.1 y=some q->∃ b∈s,b.1=q/\sle b.2 (a.2++[y])
 l : ∀ (a:α × List Nat),s[i]?=some a->∀ b∈s,b.2=[]\/∃ (j y:Nat) (d:α × List Nat),(j<i\/(j=i/\y<x))/\s[j]?=some d/\b.2=d.2++[y]
def look (s:List (α × List Nat)) (a:α × List Nat) (x:Nat):List (α × List Nat) :=
 match st a.1 x with
 | none=>s
 | some q=>if s.any (fun e=>decide (e.1=q)) then s else s++[(q,a.2++[x])]
variable {st}
theorem J3e (z:α):Found st z 0 0 [(z,[])] where
 z0 := rfl
 g := fun e he=>by rw [List.mem_singleton.1 he]; rfl
 s0 := fun j k a b hjk ha hb=>by have:=(gS9.1 hb).1; simp at this; omega
 n := fun j k a b ha hb _=>by
  have h1:=(gS9.1 ha).1; have h2:=(gS9.1 hb).1
  simp at h1 h2; omega
 c := fun j y a q h=>by omega
 l := fun a _ b hb=>by rw [List.mem_singleton.1 hb]; exact .inl rfl
theorem J1k {z:α} {i x:Nat} {s:List (α × List Nat)} (h:Found st z i x s) {a:α × List Nat} (ha:s[i]?=some a) {b:α × List Nat} (hb:b∈s):sl b.2 (a.2++[x]):=by
 rcases h.l a ha b hb with e|⟨j,y,d,h1,h2,e⟩
 ·rw [e]; exact J4n x
 ·rw [e]
  rcases h1 with h1|⟨rfl,h1⟩
  ·exact L88 (h.s0 j i d a h1 h2 ha) y x
  ·rw [ha] at h2; cases h2
   exact J4m _ h1
theorem J3c {z:α} {i x:Nat} {s:List (α × List Nat)} (h:Found st z i x s) {a:α × List Nat} (ha:s[i]?=some a):Found st z i (x+1) (look st s a x)/\s <+: look st s a x:=by
 have hsame:(∀ q,st a.1 x=some q->∃ b∈s,b.1=q)->Found st z i (x+1) s:=fun hq=>by
  refine ⟨h.z0,h.g,h.s0,h.n,fun j y a' q hjy ha' hst=>?_,fun a' ha' b hb=>?_⟩
  ·by_cases e:j=i/\y=x
   ·obtain ⟨rfl,rfl⟩:=e
    rw [ha] at ha'; cases ha'
    obtain ⟨b,hb,e⟩:=hq q hst
    exact ⟨b,hb,e,.inr (J1k h ha hb)⟩
   ·exact h.c j y a' q (by omega) ha' hst
  ·rcases h.l a' ha' b hb with e|⟨j,y,d,h1,h2,e⟩
   ·exact .inl e
   ·exact .inr ⟨j,y,d,by omega,h2,e⟩
 unfold look
 cases hst:st a.1 x with
 | none=>exact ⟨hsame (fun q hq=>by rw [hst] at hq; cases hq),List.prefix_refl _⟩
 | some q =>
  simp only
  by_cases hk:s.any (fun e=>decide (e.1=q))=true
  ·rw [if_pos hk]
   refine ⟨hsame fun q' hq=>?_,List.prefix_refl _⟩
   rw [hst] at hq; cases hq
   obtain ⟨b,hb,e⟩:=List.any_eq_true.1 hk
   exact ⟨b,hb,by simpa using e⟩
  ·rw [if_neg hk]
   refine ⟨?_,List.prefix_append _ _⟩
   have hnew:∀ b∈s,b.1≠q:=fun b hb e=>hk (List.any_eq_true.2 ⟨b,hb,by simpa using e⟩)
   have hcase:∀ {k:Nat} {b:α × List Nat},(s++[(q,a.2++[x])])[k]?=some b->s[k]?=some b\/(k=s.length/\b=(q,a.2++[x])):=fun {k b} hb=>by
    by_cases e:k<s.length
    ·rw [List.getElem?_append_left e] at hb; exact .inl hb
    ·rw [List.getElem?_append_right (by omega)] at hb
     have := (gS9.1 hb).1
     simp at this
     have e:k=s.length:=by omega
     subst e
     simp at hb
     exact .inr ⟨rfl,hb.symm⟩
   have hold:∀ {k:Nat} {b:α × List Nat},s[k]?=some b->(s++[(q,a.2++[x])])[k]?=some b:=fun {k b} hb=>by
    rw [List.getElem?_append_left (gS9.1 hb).1]; exact hb
   have hil:i<s.length:=(gS9.1 ha).1
   refine ⟨hold h.z0,fun e he=>?_,fun j k b d hjk hb hd=>?_,fun j k b d hb hd e=>?_,fun j y a' q' hjy ha' hst'=>?_,fun a' ha' b hb=>?_⟩
   ·rcases List.mem_append.1 he with he|he
    ·exact h.g e he
    ·rw [List.mem_singleton.1 he,J1n,h.g a (mG9 ha)]; exact hst
   ·rcases hcase hb with hb|⟨rfl,rfl⟩ <;> rcases hcase hd with hd|⟨rfl,rfl⟩
    ·exact h.s0 j k b d hjk hb hd
    ·exact J1k h ha (mG9 hb)
    ·have := (gS9.1 hd).1; omega
    ·omega
   ·rcases hcase hb with hb|⟨rfl,rfl⟩ <;> rcases hcase hd with hd|⟨rfl,rfl⟩
    ·exact h.n j k b d hb hd e
    ·exact absurd e (hnew b (mG9 hb))
    ·exact absurd e.symm (hnew d (mG9 hd))
    ·rfl
   ·have ha2:s[j]?=some a':=by
     rcases hcase ha' with h1|⟨rfl,_⟩
     ·exact h1
     ·omega
    by_cases e:j=i/\y=x
    ·obtain ⟨rfl,rfl⟩:=e
     rw [ha] at ha2; cases ha2
     rw [hst] at hst'; cases hst'
     exact ⟨_,List.mem_append_right _ (List.mem_singleton.2 rfl),rfl,J1a _⟩
    ·obtain ⟨b,h1,h2,h3⟩:=h.c j y a' q' (by omega) ha2 hst'
     exact ⟨b,List.mem_append_left _ h1,h2,h3⟩
   ·rcases List.mem_append.1 hb with hb|hb
    ·rcases h.l a ha b hb with e|⟨j,y,d,h1,h2,e⟩
     ·exact .inl e
     ·exact .inr ⟨j,y,d,by omega,hold h2,e⟩
    ·rw [List.mem_singleton.1 hb]
     exact .inr ⟨i,x,a,by omega,hold ha,rfl⟩
theorem J3d {z:α} {i x:Nat} {s:List (α × List Nat)} (h:Found st z i x s) (hx:∀ p y,x<=y->st p y=none):Found st z (i+1) 0 s:=by
 refine ⟨h.z0,h.g,h.s0,h.n,fun j y a q hjy ha hst=>?_,fun a ha b hb=>?_⟩
 ·by_cases e:j<i\/(j=i/\y<x)
  ·exact h.c j y a q e ha hst
  ·rw [hx _ _ (by omega)] at hst; cases hst
 ·have hi:i<s.length:=by have:=(gS9.1 ha).1; omega
  rcases h.l _ (gG9 hi) b hb with e|⟨j,y,d,h1,h2,e⟩
  ·exact .inl e
  ·exact .inr ⟨j,y,d,by omega,h2,e⟩
theorem J1j {z:α} {i:Nat} {s:List (α × List Nat)} (h:Found st z i 0 s) (hi:s.length<=i):∀ (l:List Nat) (q:α),gos st z l=some q->∃ b∈s,b.1=q/\sle b.2 l:=by
 have key:∀ (n:Nat) (l:List Nat) (q:α),l.length=n->gos st z l=some q->∃ b∈s,b.1=q/\sle b.2 l:=by
  intro n
  induction n with
  | zero =>
   intro l q hl hg
   have : l=[]:=List.eq_nil_of_length_eq_zero hl
   subst this
   cases hg
   exact ⟨(z,[]),mG9 h.z0,rfl,J1a _⟩
  | succ n ih =>
   intro l q hl hg
   obtain ⟨l',x,rfl⟩:∃ l' x,l=l'++[x]:=by
    have hne:l≠[]:=fun e=>by subst e; simp at hl
    exact ⟨l.dropLast,l.getLast hne,(List.dropLast_concat_getLast hne).symm⟩
   rw [J1n] at hg
   obtain ⟨p,h1,h2⟩:=bE9.1 hg
   obtain ⟨a,ha,rfl,hle⟩:=ih l' p (by simpa using hl) h1
   obtain ⟨j,hj,rfl⟩:=List.getElem_of_mem ha
   obtain ⟨b,hb,e,hle2⟩:=h.c j x _ q (.inl (by omega)) (gG9 hj) h2
   exact ⟨b,hb,e,J4q hle2 (J4p hle x)⟩
 exact fun l q hg=>key l.length l q rfl hg
theorem J3b {z:α} {i:Nat} {s:List (α × List Nat)} (h:Found st z i 0 s) (hi:s.length<=i) {e:α × List Nat} (he:e∈s):H85 st z e.1 e.2:=by
 refine ⟨h.g e he,fun r hr=>?_⟩
 obtain ⟨b,hb,e1,hle⟩:=J1j h hi r e.1 hr
 obtain ⟨j,hj,rfl⟩:=List.getElem_of_mem hb
 obtain ⟨k,hk,rfl⟩:=List.getElem_of_mem he
 have : j=k:=h.n j k _ _ (gG9 hj) (gG9 hk) e1
 subst this; exact hle
end
theorem J1d {α β:Type} {s1:α->Nat->Option α} {s2:β->Nat->Option β} (f:α->β) (h1:∀ p x q,s1 p x=some q->s2 (f p) x=some (f q)):∀ {l:List Nat} {p q:α},gos s1 p l=some q->gos s2 (f p) l=some (f q):=by
 intro l
 induction l with
 | nil=>intro p q h; cases h; rfl
 | cons x l ih =>
  intro p q h
  simp only [gos] at h ⊢
  obtain ⟨p',h3,h4⟩:=bE9.1 h
  rw [h1 _ _ _ h3]; exact ih h4
theorem J1c {α β:Type} {s1:α->Nat->Option α} {s2:β->Nat->Option β} (f:α->β) (h2:∀ p x r,s2 (f p) x=some r->r=f p\/∃ q,r=f q/\s1 p x=some q):∀ {l:List Nat} {p:α} {r:β},gos s2 (f p) l=some r->∃ q l',r=f q/\gos s1 p l'=some q/\(l'=l\/l'.length<l.length):=by
 intro l
 induction l with
 | nil=>intro p r h; simp only [gos,iE9] at h; exact ⟨p,[],h.symm,rfl,.inl rfl⟩
 | cons x l ih =>
  intro p r h
  simp only [gos] at h
  obtain ⟨p',h3,h4⟩:=bE9.1 h
  rcases h2 _ _ _ h3 with rfl|⟨q',rfl,h5⟩
  ·obtain ⟨q,l',h6,h7,h8⟩:=ih h4
   refine ⟨q,l',h6,h7,.inr ?_⟩
   rcases h8 with rfl|h8 <;> simp <;> omega
  ·obtain ⟨q,l',h6,h7,h8⟩:=ih h4
   refine ⟨q,x :: l',h6,by simp only [gos,h5]; exact h7,?_⟩
   rcases h8 with rfl|h8
   ·exact .inl rfl
   ·exact .inr (by simp; omega)
theorem J36 {α β:Type} {s1:α->Nat->Option α} {s2:β->Nat->Option β} (f:α->β) (hf:∀ p q,f p=f q->p=q) (h1:∀ p x q,s1 p x=some q->s2 (f p) x=some (f q)) (h2:∀ p x r,s2 (f p) x=some r->r=f p\/∃ q,r=f q/\s1 p x=some q)
  {z q:α} {l r:List Nat} (hl:H85 s1 z q l) (hr:H85 s2 (f z) (f q) r):l=r:=by
 obtain ⟨q',r',e,h3,h4⟩:=J1c f h2 hr.1
 have e:=hf _ _ e
 subst e
 have h5:=hr.2 l (J1d f h1 hl.1)
 have h6:=hl.2 r' h3
 rcases h4 with rfl|h4
 ·exact J4o h6 h5
 ·have h7:=J09 h5
  have h8:=J09 h6
  have h9:=hr.2 r' (J1d f h1 h3)
  have := J09 h9
  omega
inductive Greedy {α:Type} (st:α->Nat->Option α) (d:α->Option Nat) (to:α):α->List Nat->Prop
 | nil:Greedy st d to to []
 | cons {p q:α} {x n:Nat} {l:List Nat} (h1:st p x=some q) (h2:d q=some n) (h3:d p=some (n+1)) (h4:∀ y q',y<x->st p y=some q'->d q'≠some n) (h5:Greedy st d to q l):Greedy st d to p (x :: l)
end Go.Nw
