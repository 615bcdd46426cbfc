/- A code's run, told whole: the state that it ends in. -/
import Derived.Test.YtojneiildpnpiaaNwVcg
set_option linter.all false
namespace Go.Nw
theorem g3x {O:Orac}:∀ (c:XCode) {Q:XPost} {s:St},wp O c Q s->∃ e s',Q e s'/\Fr (fun _=>True) s.h s'.h/\wp O c (fun e2 s2=>e2=e/\s2=s') s:=by
 have frT:∀ {T:Nat->Prop} {h h':Heap},Fr T h h'->Fr (fun _=>True) h h':=fun f=>⟨f.nx,f.us,fun id h=>absurd trivial h,f.no⟩
 intro c
 induction c with
 | skip=>intro Q s h; exact ⟨_,s,h,.refl _ _,rfl,rfl⟩
 | reg ops =>
  intro Q s h
  have key:∀ (l:List XO) (K:St->Prop) (s:St),b3i O l K s->∃ s',K s'/\Fr (fun _=>True) s.h s'.h/\b3i O l (·=s') s:=by
   intro l
   induction l with
   | nil=>intro K s h; exact ⟨s,h,.refl _ _,rfl⟩
   | cons o l ih =>
    intro K s h
    obtain ⟨s1,h1,h2⟩:=c5b h
    obtain ⟨s',h3,h4,h5⟩:=ih K s1 h2
    exact ⟨s',h3,(frT (b7v h1).2).trans h4,c9r h1 h5⟩
  obtain ⟨s',h1,h2,h3⟩:=key ops _ s h
  refine ⟨.normal,s',h1,h2,?_⟩
  have e:(fun s2=>(XExit.normal=XExit.normal/\s2=s'))=(·=s'):=by funext s2; simp
  show b3i O ops (fun s2=>XExit.normal=XExit.normal/\s2=s') s
  rw [e]; exact h3
 | regW ops prs =>
  intro Q s h
  obtain ⟨S,h1,h2,h3,h4⟩:=h
  refine ⟨.normal,S ops.length,h4,?_,S,h1,h2,h3,rfl,rfl⟩
  have key:∀ m,m<=ops.length->Fr (fun _=>True) (S 0).h (S m).h:=by
   intro m
   induction m with
   | zero=>intro _; exact .refl _ _
   | succ m ih =>
    intro hm
    exact (ih (by omega)).trans (frT (b7v (h2 m _ (gG9 (by omega)))).2)
  rw [<- h1]; exact key _ (Nat.le_refl _)
 | seq a b iha ihb =>
  intro Q s h
  obtain ⟨e1,s1,q1,f1,w1⟩:=iha h
  cases e1 with
  | normal =>
   obtain ⟨e,s',q,f,w⟩:=ihb q1
   refine ⟨e,s',q,f1.trans f,?_⟩
   show wp O a _ s
   refine s8m a ?_ w1
   rintro e2 s2 ⟨rfl,rfl⟩
   exact w
  | exit id =>
   refine ⟨.exit id,s1,q1,f1,?_⟩
   show wp O a _ s
   refine s8m a ?_ w1
   rintro e2 s2 ⟨rfl,rfl⟩
   exact ⟨rfl,rfl⟩
  | ret =>
   refine ⟨.ret,s1,q1,f1,?_⟩
   show wp O a _ s
   refine s8m a ?_ w1
   rintro e2 s2 ⟨rfl,rfl⟩
   exact ⟨rfl,rfl⟩
 | cond c a b iha ihb =>
  intro Q s h
  obtain ⟨t,ht,h1,h2⟩:=h
  cases t with
  | true =>
   obtain ⟨e,s',q,f,w⟩:=iha (h1 rfl)
   exact ⟨e,s',q,f,true,ht,fun _=>w,fun h=>by cases h⟩
  | false =>
   obtain ⟨e,s',q,f,w⟩:=ihb (h2 rfl)
   exact ⟨e,s',q,f,false,ht,(fun h=>by cases h),fun _=>w⟩
 | block id a ih =>
  intro Q s h
  obtain ⟨e1,s1,q1,f1,w1⟩:=ih h
  have go:∀ e,(∀ e2 s2,e2=e1/\s2=s1->XPost.block id (fun e2 s2=>e2=e/\s2=s1) e2 s2)->wp O (.block id a) (fun e2 s2=>e2=e/\s2=s1) s:=fun e he=>by
   show wp O a _ s
   exact s8m a he w1
  cases e1 with
  | normal=>exact ⟨.normal,s1,q1,f1,go _ (by rintro _ _ ⟨rfl,rfl⟩; exact ⟨rfl,rfl⟩)⟩
  | exit i =>
   by_cases hi:i=id
   ·simp only [XPost.block,hi,if_true] at q1
    exact ⟨.normal,s1,q1,f1,go _ (by rintro _ _ ⟨rfl,rfl⟩; simp only [XPost.block,hi,if_true]; exact ⟨trivial,trivial⟩)⟩
   ·simp only [XPost.block,hi,if_false] at q1
    exact ⟨.exit i,s1,q1,f1,go _ (by rintro _ _ ⟨rfl,rfl⟩; simp only [XPost.block,hi,if_false]; exact ⟨trivial,trivial⟩)⟩
  | ret=>exact ⟨.ret,s1,q1,f1,go _ (by rintro _ _ ⟨rfl,rfl⟩; exact ⟨rfl,rfl⟩)⟩
 | loop a ih =>
  intro Q s h
  obtain ⟨I,m,hI,hstep⟩:=h
  have key:∀ (k:Nat) (s:St),m s=k->I s->∃ e s',Q e s'/\Fr (fun _=>True) s.h s'.h/\∃ I':St->Prop,I' s/\(∀ x,I' x->m x<=m s)/\∀ x,I' x->wp O a (XPost.seq (fun s2=>I' s2/\m s2<m x) (fun e2 s2=>e2=e/\s2=s')) x:=by
   intro k
   induction k using Nat.strongRecOn with
   | _ k ihk =>
    intro s hk hs
    obtain ⟨e1,s1,q1,f1,w1⟩:=ih (hstep s hs)
    cases e1 with
    | normal =>
     obtain ⟨hI1,hlt⟩:=q1
     obtain ⟨e,s',q,f,I',h1,h2,h3⟩:=ihk (m s1) (by omega) s1 rfl hI1
     refine ⟨e,s',q,f1.trans f,fun x=>x=s\/I' x,.inl rfl,fun x hx=>?_,fun x hx=>?_⟩
     ·rcases hx with rfl|hx
      ·exact Nat.le_refl _
      ·have := h2 x hx; omega
     ·rcases hx with rfl|hx
      ·refine s8m a ?_ w1
       rintro _ _ ⟨rfl,rfl⟩
       exact ⟨.inr h1,hlt⟩
      ·refine s8m a ?_ (h3 x hx)
       rintro e2 s2 hq
       cases e2 with
       | normal=>exact ⟨.inr hq.1,hq.2⟩
       | exit i=>exact hq
       | ret=>exact hq
    | exit i =>
     refine ⟨.exit i,s1,q1,f1,fun x=>x=s,rfl,fun x hx=>by rw [hx]; exact Nat.le_refl _,fun x hx=>?_⟩
     subst hx
     refine s8m a ?_ w1
     rintro _ _ ⟨rfl,rfl⟩
     exact ⟨rfl,rfl⟩
    | ret =>
     refine ⟨.ret,s1,q1,f1,fun x=>x=s,rfl,fun x hx=>by rw [hx]; exact Nat.le_refl _,fun x hx=>?_⟩
     subst hx
     refine s8m a ?_ w1
     rintro _ _ ⟨rfl,rfl⟩
     exact ⟨rfl,rfl⟩
  obtain ⟨e,s',q,f,I',h1,_,h3⟩:=key (m s) s rfl hI
  exact ⟨e,s',q,f,I',m,h1,h3⟩
 | exit id=>intro Q s h; exact ⟨_,s,h,.refl _ _,rfl,rfl⟩
 | ret=>intro Q s h; exact ⟨_,s,h,.refl _ _,rfl,rfl⟩
 | ghost =>
  intro Q s h
  obtain ⟨s',hg,hq⟩:=h
  obtain ⟨F,hus,hnx,hgo,_⟩:=id hg
  refine ⟨.normal,s',hq,⟨by rw [hnx]; exact Nat.le_refl _,fun id=>?_,fun id h=>absurd trivial h,fun id _ h0=>?_⟩,s',hg,rfl,rfl⟩
  ·rw [hus,hnx]
   exact ⟨.inl,fun hh=>hh.elim (fun h=>h) fun hh=>by omega⟩
  ·cases e:s'.h.ob id with
   | none=>rfl
   | some o =>
    obtain ⟨_,es,h1,_⟩:=hgo id o.1 o.2 e
    rw [h0] at h1; cases h1
end Go.Nw
