/- The abstract machine is sound for a function's whole text. -/
import Derived.Test.YtojneiildpnpiaaNwSound
import Derived.Test.YtojneiildpnpiaaNwDraw
import Derived.Orders
set_option linter.all false
namespace Go.Nw
variable [Cfg]
open Go.RowKit
section
variable {P:Program} {O:Orac} {G:Beg}
theorem g5n {B:Nat} {S:Nat->Prop} {loc:Loc} {g h:Heap} {w:World} (H:HSim P B S loc g w) (hE:∀ id,g.us id->∀ o,h.ob id=some o->g.ob id=some o) {x y:AV} (hz:Fz h x y):∀ {v:Value},SimV P w S g loc x v->Fz g x y:=by
 induction hz with
 | refl x hx=>intro v _; exact .refl x hx
 | nil sz=>intro v _; exact .nil sz
 | dead x=>intro v _; exact .dead x
 | agg cs ds hl hc ih =>
  intro v hv
  cases hv with
  | agg _ vs hl' h1 hcc=>exact .agg cs ds hl fun i c d h1 h2=>ih i c d h1 h2 (hcc i c h1)
 | tup cs ds hl hc ih =>
  intro v hv
  cases hv with
  | tup _ vs hl' hcc=>exact .tup cs ds hl fun i c d h1 h2=>ih i c d h1 h2 (hcc i c h1)
 | fn f as bs cs ds hl hc hl2 hc2 ih ih2 =>
  intro v hv
  cases hv with
  | fn _ _ _ id fn0 vs us hf hn hb hg hv1 hv2 hu1 hu2=>exact .fn f as bs cs ds hl (fun i c d h1 h2=>ih i c d h1 h2 (hv2 i c h1)) hl2 (fun i c d h1 h2=>ih2 i c d h1 h2 (hu2 i c h1))
 | rs id lo len sz es ds ho hb hl hz hc ih =>
  intro v hv
  cases hv with
  | rs _ _ _ _ hid hs hx =>
   have ho':=hE id hid _ ho
   obtain ⟨_,_,val,hvv⟩:=H.objs id sz es ho' (hx sz es ho').1
   exact .rs id lo len sz es ds ho' hb hl hz fun i j c d h1 h2=>ih i j c d h1 h2 (hvv _ _ _ h1).2.2
 | rp id i off sz es cs ds ho hi hl hc ih =>
  intro v hv
  cases hv with
  | rp _ _ _ _ hid hs hx =>
   have ho':=hE id hid _ ho
   obtain ⟨_,_,val,hvv⟩:=H.objs id sz es ho' (hx sz es ho').1
   exact .rp id i off sz es cs ds ho' hi hl fun j c d h1 h2=>ih j c d h1 h2 (hvv i j c (by simp [at2,hi,h1])).2.2
theorem SimB.nx {n:Nat} {t:Nat->AV} {h h':Heap} {a:Act} {w:World} (ho:∀ id,h'.ob id=h.ob id) (hu:∀ id,h'.us id ↔ h.us id) (hA:SimB P G n { t:=t,h:=h } a w):SimB P G n { t:=t,h:=h' } a w:=by
 obtain ⟨S,loc,u0,hs⟩:=hA.ex
 have hH:=u0.hs
 have hc:∀ x v,SimV P w S h loc x v->SimV P w S h' loc x v:=fun x v hx =>
  SimV.carry (fun _ _=>rfl) (fun _ h=>h) (fun id hi=>(hu id).2 hi) (fun id sz es _ he=>⟨es,by rw [<- ho]; exact he,rfl,rfl⟩) hx
 have hs':HSim P G.B S loc h' w:=by
  refine ⟨fun id sz es hh=>?_,fun i i' hne hi hi'=>hH.inj i i' hne (by rw [<- ho]; exact hi) (by rw [<- ho]; exact hi'),fun id hi=>hH.notS id (by rw [<- ho]; exact hi),fun id hi=>hH.own id (by rw [<- ho]; exact hi),fun id hi=>by rw [ho]; exact hH.fresh id (fun hh=>hi ((hu id).2 hh)),hH.lt⟩
  exact (hH.obs id sz es (by rw [<- ho]; exact hh)).later rfl rfl hc
 exact ⟨⟨S,loc,u0.trans ⟨hc,hs',fun _ h=>h,fun _ h=>.inl h,.refl _ _,fun k hk hn=>⟨rfl,fun i hi=>hn i (by rw [<- ho]; exact hi)⟩⟩,fun t=>hc _ _ (hs t)⟩,hA.glob,hA.le,hA.defers,hA.size⟩
theorem SimB.drew {n:Nat} {s:St} {a:Act} {w:World} (hA:SimB P G n s a w):SimB P G n s a w.drew:=by
 obtain ⟨S,loc,u0,hs⟩:=hA.ex
 have u:=Upd.drew u0.hs
 exact ⟨⟨S,loc,u0.trans u,fun t=>u.carry _ _ (hs t)⟩,hA.glob,hA.le,hA.defers,hA.size⟩
structure SimA (P:Program) (G:Beg) (n:Nat) (s:St) (a:Act) (w:World):Prop where
 b : SimB P G n s a w
 top : ∀ k,s.h.nx<=k->¬ s.h.us k
theorem SimB.fresh {n:Nat} {s:St} {a:Act} {w:World} (hA:SimB P G n s a w) {k:Nat} (hk:¬ s.h.us k):s.h.ob k=none:=by
 obtain ⟨S,loc,u0,_⟩:=hA.ex
 exact u0.hs.fresh k hk
theorem Fr.top {T:Nat->Prop} {h h':Heap} (hf:Fr T h h') (ht:∀ k,h.nx<=k->¬ h.us k):∀ k,h'.nx<=k->¬ h'.us k:=fun k hk hus=>by
 have := hf.nx
 rcases (hf.us k).1 hus with h|h
 ·exact ht k (by omega) h
 ·omega
theorem g1m {α β:Type} {f:α->Option β}:∀ {l:List α} {r:List β},l.mapM f=some r->l.length=r.length/\∀ (i:Nat) x,l[i]?=some x->∃ y,r[i]?=some y/\f x=some y
 | [],r,h=>by simp at h; subst h; exact ⟨rfl,fun i x hx=>by simp at hx⟩
 | a :: l,r,h=>by
  simp only [List.mapM_cons,Option.bind_eq_bind,bE9,Option.pure_def,iE9] at h
  obtain ⟨b,hb,r',hr',rfl⟩:=h
  obtain ⟨h1,h2⟩:=g1m hr'
  refine ⟨by simp [h1],fun i x hx=>?_⟩
  cases i with
  | zero=>simp at hx; subst hx; exact ⟨b,by simp,hb⟩
  | succ i=>simpa using h2 i x (by simpa using hx)
theorem Pre.lt {ops:Array Oper} {xs:List XO} (hD:DrawOk ops xs) {i j:Nat} (h:Pre ops i j):i<j:=by
 induction h with
 | edge ho he hb=>exact hD.back _ _ ho _ he hb
 | trans a b ih1 ih2=>omega
theorem Pre.closed {ops:Array Oper} {D:Nat->Prop} (hD:∀ (j:Nat) o,D j->ops[j]?=some o->∀ e∈o.after,Region.binds .any e=true->D e.on) {i j:Nat} (h:Pre ops i j):D j->D i:=by
 induction h with
 | edge ho he hb=>exact fun hj=>hD _ _ hj ho _ he hb
 | trans a b ih1 ih2=>exact fun hj=>ih1 (ih2 hj)
section
variable (hO:∀ f as r frag,O f as r frag->b0n P f as r frag) (hW:∀ f as h r h',O.w f as h r h'->(b0n P).w f as h r h')
include hO hW
theorem g08 {bf:List Nat} {n:Nat} {ops:Array Oper} {Q:Exit->Act->World->Prop}:∀ {os:List Oper} {xs:List XO},os.mapM (b9r P bf n ops)=some xs->∀ {s:St} {a:Act} {w:World} {K:St->Prop},SimA P G n s a w->b3i O xs K s ->
  (∀ s' a' w',SimA P G n s' a' w'->K s'->Q .normal a' w')->wpList P ops Q os a w
 | [],xs,h,s,a,w,K,hA,hk,hq=>by simp at h; subst h; exact hq s a w hA hk
 | o :: os,xs,h,s,a,w,K,hA,hk,hq=>by
  simp only [List.mapM_cons,Option.bind_eq_bind,bE9,Option.pure_def,iE9] at h
  obtain ⟨x,hx,xs',hxs',rfl⟩:=h
  obtain ⟨s',h1,h2⟩:=c5b hk
  have hf:=(b7v h1).2
  have := g19 hO hW hx hA.b h1 (fun k hk _=>hA.top k hk) (fun _ _ _=>hA.top) (K':=wpList P ops Q os) (Q:=Q) fun a' w' hB=>g08 hxs' ⟨hB,hf.top hA.top⟩ h2 hq
  unfold wpList
  split
  ·rename_i hw; rw [if_pos hw] at this; exact .inl this
  ·rename_i hw; rw [if_neg hw] at this; exact this
theorem g52 {bf:List Nat} {n:Nat} {ops:Array Oper} {xs:List XO} (hm:ops.toList.mapM (b9r P bf n ops)=some xs) (hD:DrawOk ops xs) {S:Nat->St} (hS:c1p O xs S) (hY:c1q ops xs S)
  (htop : ∀ k,(S 0).h.nx<=k->¬ (S 0).h.us k) (hfr:∀ k,¬ (S 0).h.us k->(S 0).h.ob k=none) {Q:Exit->Act->World->Prop} (hq:∀ a w,SimA P G n (S xs.length) a w->Q .normal a w) :
  ∀ (fuel:Nat) (listed:Array Bool) (σ:St) (a:Act) (w:World),listed.size=ops.size->(∃ L:List Nat,L.length=fuel/\∀ j,listed.getD j true=false->j∈L) ->
   ED xs S (fun j=>listed.getD j false=true) σ->SimB P G n σ a w->(∀ (j:Nat) o,listed.getD j false=true->ops[j]?=some o->∀ e∈o.after,Region.binds .any e=true->listed.getD e.on false=true) ->
   wpAny P .any ops Q fuel listed a w:=by
 have hsz:ops.size=xs.length:=hD.size
 obtain ⟨_,hget⟩:=g1m hm
 have hlt:∀ {listed:Array Bool} {j:Nat},listed.size=ops.size->listed.getD j false=true->j<xs.length:=fun {listed j} hl hj=>by
  rw [<- hsz,<- hl]
  simp only [Array.getD_eq_getD_getElem?] at hj
  rcases Nat.lt_or_ge j listed.size with h|h
  ·exact h
  ·rw [Array.getElem?_eq_none h] at hj; cases hj
 have hun:∀ {listed:Array Bool} {j:Nat},listed.size=ops.size->j<xs.length->(listed.getD j false=true\/listed.getD j true=false):=fun {listed j} hl hj=>by
  have : j<listed.size:=by rw [hl,hsz]; exact hj
  simp only [Array.getD_eq_getD_getElem?,Array.getElem?_eq_getElem this,Option.getD_some]
  cases listed[j] <;> simp
 -- nothing ready: all is done
 have hend:∀ (listed:Array Bool) (σ:St) (a:Act) (w:World),listed.size=ops.size->ED xs S (fun j=>listed.getD j false=true) σ->SimB P G n σ a w->Region.ready .any ops listed=[]->Q .normal a w:=fun listed σ a w hl hE hB hr=>by
  have hall:∀ j,j<xs.length->listed.getD j false=true:=by
   intro j
   induction j using Nat.strongRecOn with
   | _ j ih =>
    intro hj
    rcases hun hl hj with h|h
    ·exact h
    ·exfalso
     obtain ⟨o,ho⟩:∃ o,ops[j]?=some o:=⟨_,Array.getElem?_eq_getElem (by omega)⟩
     have : j∈Region.ready .any ops listed:=mem_ready.2 ⟨h,o,ho,fun e he hb=>ih _ (hD.back j o ho e he hb) (by have:=hD.back j o ho e he hb; omega)⟩
     rw [hr] at this; cases this
  obtain ⟨d1,d2,d3⟩:=ED.done hS hD htop hfr hE hall (fun j hj=>hlt hl hj) (fun k hk=>hB.fresh hk)
  have hB':SimB P G n (S xs.length) a w:=by
   have := SimB.nx (h':=(S xs.length).h) (t:=σ.t) (h:=σ.h) (fun id=>(d2 id).symm) (fun id=>(d3 id).symm) hB
   rw [d1] at this; exact this
  exact hq a w ⟨hB',fun k hk hus=>by
   have := b8b hS htop (Nat.le_refl xs.length) hus
   omega⟩
 intro fuel
 induction fuel with
 | zero =>
  intro listed σ a w hl ⟨L,hL,hLu⟩ hE hB hcl
  have hnone:Region.ready .any ops listed=[]:=by
   cases hr:Region.ready .any ops listed with
   | nil=>rfl
   | cons i r =>
    have h1:=(mem_ready.1 (show i∈Region.ready .any ops listed by rw [hr]; exact List.mem_cons_self)).1
    have := hLu i h1
    rw [List.eq_nil_of_length_eq_zero hL] at this; cases this
  exact ⟨hnone,hend listed σ a w hl hE hB hnone⟩
 | succ fuel ih =>
  intro listed σ a w hl ⟨L,hL,hLu⟩ hE hB hcl
  refine ⟨hend listed σ a w hl hE hB,fun i hi=>?_⟩
  obtain ⟨hnot,o,ho,hedge⟩:=mem_ready.1 hi
  obtain ⟨x,hx,hcx⟩:=hget i o (by rw [Array.getElem?_toList]; exact ho)
  have hni:¬ listed.getD i false=true:=fun h=>by
   have hlt':i<listed.size:=by rw [hl,hsz]; exact (gS9.1 hx).1
   simp only [Array.getD_eq_getD_getElem?,Array.getElem?_eq_getElem hlt',Option.getD_some] at hnot h
   rw [hnot] at h; cases h
  have hdown:∀ j k,listed.getD j false=true->Pre ops k j->listed.getD k false=true:=fun j k hj hp=>Pre.closed (D:=fun j=>listed.getD j false=true) hcl hp hj
  have hpre:∀ k,Pre ops k i->listed.getD k false=true:=fun k hp=>by
   have := Pre.closed (D:=fun j=>listed.getD j false=true\/j=i) (fun j o' hj ho' e he hb=>by
    rcases hj with hj|rfl
    ·exact .inl (hcl j o' hj ho' e he hb)
    ·rw [ho] at ho'; cases ho'; exact .inl (hedge e he hb)) hp (.inr rfl)
   exact this.resolve_right (fun e=>by have:=Pre.lt hD hp; omega)
  obtain ⟨S1,loc,u0,hs⟩:=hB.ex
  have hH:=u0.hs
  obtain ⟨σ',h1,h2,h3,h4W⟩:=ED.step hS hD hY htop hfr hE (fun j hj=>hlt hl hj) hx hni hpre hdown (fun k hk=>hB.fresh hk) (U:=fun y=>(∃ v,SimV P w S1 σ.h loc y v)\/(∃ f,y = .fn f [] [])\/∃ cs:List GC,y = .fp (cs.map GC.av) 0)
   (fun t=>.inl ⟨_,hs t⟩) (fun v=>.inl ⟨v,.v v⟩) (.inl ⟨undef,.dead undef⟩) (fun f=>.inr (.inl ⟨f,rfl⟩)) (fun cs=>.inr (.inr ⟨cs,rfl⟩)) (fun f as bs hu=>by
    rcases hu with ⟨v,hu⟩|⟨f',hu⟩|⟨cs,hu⟩
    ·cases hu with
     | fn _ _ _ id fn0 vs us hf hn hb hg hl1 hc1 hl2 hc2 =>
      refine ⟨fun c hc=>?_,fun c hc=>?_⟩
      ·obtain ⟨k,hk,rfl⟩:=List.getElem_of_mem hc; exact .inl ⟨_,hc1 k _ (gG9 hk)⟩
      ·obtain ⟨k,hk,rfl⟩:=List.getElem_of_mem hc; exact .inl ⟨_,hc2 k _ (gG9 hk)⟩
    ·cases hu; simp
    ·cases hu)
   (fun y hu id hid=>by
    rcases hu with ⟨v,hu⟩|⟨f',rfl⟩|⟨cs,rfl⟩
    ·cases hu <;> simp [E65] at hid <;> (subst hid; assumption)
    ·cases hid
    ·cases hid)
   (fun h hE' y hu z hz=>by
    rcases hu with ⟨v,hu⟩|⟨f',rfl⟩|⟨cs,rfl⟩
    ·exact g5n hH hE' hz hu
    ·cases hz with
     | refl _ hx=>exact .refl _ hx
     | dead x=>exact .dead _
     | fn _ _ bs _ ds hl hc hl2 hc2=>exact .fn _ _ _ _ _ hl (fun i c d h1=>by simp at h1) hl2 (fun i c d h1=>by simp at h1)
    ·cases hz with
     | dead x=>exact .dead _
     | refl _ hx=>exact .refl _ hx)
  have hB':=SimB.nx (t:=σ.t) (h:=σ.h) (h':={ σ.h with nx:=(S i).h.nx }) (fun _=>rfl) (fun _=>.rfl) hB
  have := g19 hO hW hcx hB' h1 (fun k hk1 hk2=>h3 k hk1 hk2) (fun f l hop=>h4W (by rw [hop]; rfl)) (K':=wpAny P .any ops Q fuel (listed.setIfInBounds i true)) (Q:=Q) fun a' w' hB2=>by
   have hil:i<listed.size:=by rw [hl,hsz]; exact (gS9.1 hx).1
   have hgd:∀ j,(listed.setIfInBounds i true).getD j false=true ↔ listed.getD j false=true\/j=i:=fun j=>by
    by_cases e:j=i
    ·subst e; simp [Array.getD,hil]
    ·have := getD_set_ne (listed:=listed) (i:=i) (j:=j) false (fun h=>e h.symm)
     rw [this]; simp [e]
   refine ih (listed.setIfInBounds i true) σ' a' w' (by simpa using hl) ⟨L.erase i,?_,fun j hj=>?_⟩ ?_ hB2 ?_
   ·rw [List.length_erase_of_mem (hLu i hnot),hL]; rfl
   ·by_cases e:j=i
    ·subst e; simp [Array.getD,hil] at hj
    ·rw [getD_set_ne true (fun h=>e h.symm)] at hj
     exact (List.mem_erase_of_ne e).2 (hLu j hj)
   ·have e:(fun j=>(listed.setIfInBounds i true).getD j false=true)=fun j=>listed.getD j false=true\/j=i:=funext fun j=>propext (hgd j)
    rw [e]; exact h2
   ·intro j o' hj ho' e he hb
    rw [hgd]
    rcases (hgd j).1 hj with hj|rfl
    ·exact .inl (hcl j o' hj ho' e he hb)
    ·rw [ho] at ho'; cases ho'; exact .inl (hedge e he hb)
  unfold Go.wpOp
  simp only [ho]
  split
  ·rename_i hw; rw [if_pos hw] at this; exact .inl this
  ·rename_i hw; rw [if_neg hw] at this; exact this
omit hO hW in
theorem d8b {n:Nat} {s s':St} {a:Act} {w:World} (hk:b6u s s') (hA:SimA P G n s a w):SimA P G n s' a w:=by
 obtain ⟨S,loc,u0,hs⟩:=hA.b.ex
 have hH:=u0.hs
 obtain ⟨F,hus,hnx,hob,ht⟩:=hk
 have honly:∀ i o,(s.h.only F).ob i=some o->s.h.ob i=some o/\F i=true:=fun i o ho=>by
  simp only [Heap.only] at ho
  split at ho
  ·rename_i hf; exact ⟨ho,hf⟩
  ·cases ho
 have hsome:∀ {i},(s'.h.ob i).isSome->(s.h.ob i).isSome/\F i=false:=fun {i} hi=>by
  obtain ⟨⟨sz,es'⟩,ho⟩:=Option.isSome_iff_exists.1 hi
  obtain ⟨hf,es,h1,_⟩:=hob i sz es' ho
  rw [h1]; exact ⟨rfl,hf⟩
 have hsome2:∀ {i},((s.h.only F).ob i).isSome->(s.h.ob i).isSome/\F i=true:=fun {i} hi=>by
  obtain ⟨o,ho⟩:=Option.isSome_iff_exists.1 hi; rw [(honly i o ho).1]; exact ⟨rfl,(honly i o ho).2⟩
 have hc:∀ x v,SimV P w S s.h loc x v->SimV P w (fun b=>S b\/b7d loc (s.h.only F) b) s'.h loc x v:=fun x v hx =>
  SimV.carry (h:=s.h) (h':=s'.h) (fun _ _=>rfl) (fun _ h=>.inl h) (fun _ h=>by rw [hus]; exact h) (fun i sz es _ he=>by
   obtain ⟨_,es0,h1,_⟩:=hob i sz es he
   exact ⟨es0,h1,rfl,rfl⟩) hx
 have hc2:∀ x v,SimV P w S s.h loc x v->SimV P w S (s.h.only F) loc x v:=fun x v hx =>
  SimV.carry (h:=s.h) (h':=s.h.only F) (fun _ _=>rfl) (fun _ h=>h) (fun _ h=>h) (fun i sz es _ he=>⟨es,(honly i _ he).1,rfl,rfl⟩) hx
 have HO:∀ {B:Nat},HSim P B S loc s.h w->HSim P B S loc (s.h.only F) w:=fun {B} H =>
  ⟨fun i sz es ho=>by
   exact (H.obs i sz es (honly i _ ho).1).later rfl rfl hc2,
   fun i i' hne hi hi'=>H.inj i i' hne (hsome2 hi).1 (hsome2 hi').1,fun i hi=>H.notS i (hsome2 hi).1,fun i hi=>H.own i (hsome2 hi).1,
   fun i hi=>(by have:=H.fresh i hi; simp only [Heap.only]; split <;> simp [this]),H.lt⟩
 have hcool:∀ {B:Nat},HSim P B S loc s.h w->∀ c d v,b7x (s.h.only F) c d->SimV P w S s.h loc c v->SimV P w (fun b=>S b\/b7d loc (s.h.only F) b) s'.h loc d v:=fun {B} H c d v hcd hv=>by
  rcases hcd with rfl|⟨hz,hf⟩
  ·exact hc _ _ hv
  ·exact SimV.frz (fun _ _=>rfl) (fun _ h=>h) (c5v (HO H) hz (hc2 _ _ hv)) hf
 have HB:∀ {B:Nat},HSim P B S loc s.h w->HSim P B (fun b=>S b\/b7d loc (s.h.only F) b) loc s'.h w:=fun {B} H =>
  ⟨fun i sz es' ho=>by
   obtain ⟨hf,es,h1,hsh,hrow⟩:=hob i sz es' ho
   have hat:=H.obs i sz es h1
   refine ⟨fun hnz=>?_,fun hz hne=>?_,hat.b⟩
   rotate_left
   ·rcases hsh with rfl|h2
    ·exact hat.m hz hne
    ·cases es' with
     | nil =>
      have : es=[]:=List.eq_nil_of_length_eq_zero h2.1.symm
      subst this
      exact hat.m hz (by simp)
     | cons d ds =>
      have := h2.2 d (by simp)
      rw [hz] at this
      rw [List.length_eq_zero_iff.1 this] at hne
      exact absurd rfl hne
   obtain ⟨hb,hl,val,hv⟩:=hat.o hnz
   have hlen:es'.length=es.length:=by rcases hsh with rfl|h2 <;> first|rfl|exact h2.1
   have hsz:∀ e∈es',e.length=sz:=by rcases hsh with rfl|h2 <;> first|exact hl|exact h2.2
   refine ⟨?_,hsz,val,fun k j d hh=>?_⟩
   ·obtain ⟨arr,ty,h2,h3⟩:=hb
    exact ⟨arr,ty,h2,by rw [hlen]; exact h3⟩
   ·obtain ⟨c,h2,h3⟩:=hrow k j d hh
    obtain ⟨h4,h5,h6⟩:=hv k j c h2
    exact ⟨h4,h5,hcool H c d _ h3 h6⟩,
   fun i i' hne hi hi'=>H.inj i i' hne (hsome hi).1 (hsome hi').1,
   fun i hi hb=>(by
    rcases hb with hb|⟨j,o,ho,hb⟩
    ·exact H.notS i (hsome hi).1 hb
    ·have hj:=honly j o ho
     refine H.inj i j (fun e=>?_) (hsome hi).1 (by rw [hj.1]; rfl) hb
     subst e; have:=(hsome hi).2; rw [hj.2] at this; cases this),
   fun i hi=>H.own i (hsome hi).1,
   fun i hi=>(by
    have := H.fresh i (by rw [hus] at hi; exact hi)
    cases hx:s'.h.ob i with
    | none=>rfl
    | some o =>
     have := (hsome (i:=i) (by rw [hx]; rfl)).1
     simp_all),
   fun b hb=>by
    rcases hb with hb|⟨j,o,ho,rfl⟩
    ·exact H.lt b hb
    ·exact H.blk_lt (honly j o ho).1⟩
 have u:Upd P G.B S loc s.h w (fun b=>S b\/b7d loc (s.h.only F) b) loc s'.h w:=by
  refine ⟨hc,HB hH,fun b hb=>.inl hb,fun b hb=>?_,.refl _ _,fun k hk hn=>⟨rfl,fun i hi=>hn i (hsome hi).1⟩⟩
  rcases hb with hb|⟨j,o,ho,rfl⟩
  ·exact .inl hb
  ·exact .inr (hH.own j (by rw [(honly j o ho).1]; rfl))
 exact ⟨⟨⟨_,loc,u0.trans u,fun k=>hcool hH _ _ _ (ht k) (hs k)⟩,hA.b.glob,hA.b.le,hA.b.defers,hA.b.size⟩,by rw [hnx,hus]; exact hA.top⟩
omit hO hW in
theorem g3w {K K':St->Prop} (hk:∀ s,K s->K' s):∀ {l:List XO} {s:St},b3i O l K s->b3i O l K' s
 | [],_,h=>hk _ h
 | _ :: _,_,h=>by
  obtain ⟨s',h1,h2⟩:=c5b h
  exact c9r h1 (g3w hk h2)
omit hO hW in
theorem c9t:∀ (c:XCode) {Q Q':XPost} (_:∀ e s,Q e s->Q' e s) {s:St},wp O c Q s->wp O c Q' s:=by
 intro c
 induction c with
 | skip=>intro Q Q' hq s h; exact hq _ _ h
 | reg ops=>intro Q Q' hq s h; exact g3w (hq .normal) h
 | regW ops prs=>intro Q Q' hq s h; obtain ⟨S,h1,h2,h3,h4⟩:=h; exact ⟨S,h1,h2,h3,hq _ _ h4⟩
 | seq a b iha ihb =>
  intro Q Q' hq s h
  refine iha ?_ h
  intro e s h
  cases e with
  | normal=>exact ihb hq h
  | exit id=>exact hq _ _ h
  | ret=>exact hq _ _ h
 | cond c a b iha ihb =>
  intro Q Q' hq s h
  obtain ⟨t,h1,h2,h3⟩:=h
  exact ⟨t,h1,fun e=>iha hq (h2 e),fun e=>ihb hq (h3 e)⟩
 | block id a ih =>
  intro Q Q' hq s h
  refine ih ?_ h
  intro e s h
  cases e with
  | normal=>exact hq _ _ h
  | exit i=>simp only [XPost.block] at h ⊢; split <;> rename_i hi <;> simp only [hi,if_true,if_false] at h <;> exact hq _ _ h
  | ret=>exact hq _ _ h
 | loop a ih =>
  intro Q Q' hq s h
  obtain ⟨I,m,h1,h2⟩:=h
  refine ⟨I,m,h1,fun s' hs'=>ih ?_ (h2 s' hs')⟩
  intro e s h
  cases e with
  | normal=>exact h
  | exit id=>exact hq _ _ h
  | ret=>exact hq _ _ h
 | exit id=>intro Q Q' hq s h; exact hq _ _ h
 | ret=>intro Q Q' hq s h; exact hq _ _ h
 | ghost =>
  intro Q Q' hq s h
  obtain ⟨s',h1,h2⟩:=h
  exact ⟨s',h1,hq _ _ h2⟩
def nq (K:St->Prop):XPost:=fun e s=>match e with | .normal=>K s|_=>False
def isR:XCode->Prop | .reg _=>True | .regW _ _=>True|_=>False
omit hO hW in
theorem l4e {C:XCode} (hC:isR C) {Q:XPost} {s:St} (h:wp O C Q s):wp O C (nq (Q .normal)) s:=by
 cases C <;> first|exact hC.elim|exact h
omit hO hW in
theorem g3v {C:XCode} (hC:isR C):∀ (m:Nat) {Q:XPost} {s:St},wp O (b86 m C) Q s->wp O (b86 m C) (nq (Q .normal)) s
 | 0,_,_,h=>l4e hC h
 | m+1,Q,s,h=>by
  have h1:=g3v hC m (Q:=XPost.seq (wp O .ghost Q) Q) h
  show wp O (b86 m C) _ s
  refine c9t (b86 m C) (fun e s h=>?_) h1
  cases e with
  | normal=>exact h
  | exit i=>exact h
  | ret=>exact h
inductive ExitM:XExit->Exit->Prop
 | normal:ExitM .normal .normal
 | exit (id:Nat):ExitM (.exit id) (.exit id)
 | ret:ExitM .ret .ret
theorem d6v {bf:List Nat} {fz:List (Nat × Nat)} {n:Nat}:∀ (c:Code) {xc:XCode},b4m P bf fz n c=some xc->∀ {Q:XPost} {s:St} {a:Act} {w:World},wp O xc Q s->SimA P G n s a w ->
  c.wp P (fun e a' w'=>∃ e' s',ExitM e' e/\Q e' s'/\SimA P G n s' a' w') a w:=by
 intro c
 induction c with
 | skip=>intro xc hc Q s a w hw hA; cases hc; exact wp_skip ⟨.normal,s,.normal,hw,hA⟩
 | region id ops draw =>
  intro xc hc Q s a w hw hA
  simp only [b4m,bE9] at hc
  obtain ⟨xs,hxs,hc⟩:=hc
  obtain ⟨C,hCe,rfl⟩:=mE9.1 hc
  have hcs:=l4f hCe
  have hC:isR C:=by
   rcases hcs with ⟨_,rfl⟩|⟨_,_,⟨rfl,_⟩|⟨_,rfl,_⟩⟩ <;> exact trivial
  clear hCe
  have hgh:∃ s1,SimA P G n s1 a w/\wp O C (nq fun s2=>∀ a' w',SimA P G n s2 a' w'->∃ s3,SimA P G n s3 a' w'/\Q .normal s3) s1:=by
   generalize (fz.filter fun p=>p.1 == 2 * id).length=m1 at hw
   generalize (fz.filter fun p=>p.1 == 2 * id+1).length=m2 at hw
   induction m1 generalizing s with
   | zero =>
    refine ⟨s,hA,?_⟩
    have key:∀ (m2:Nat) (Q':St->Prop) (s:St),wp O (b86 m2 C) (nq Q') s->wp O C (nq fun s2=>∀ a' w',SimA P G n s2 a' w'->∃ s3,SimA P G n s3 a' w'/\Q' s3) s:=by
     intro m2
     induction m2 with
     | zero =>
      intro Q' s hw
      refine c9t C (fun e s2 hq=>?_) hw
      cases e with
      | normal=>exact fun a' w' hs=>⟨s2,hs,hq⟩
      | exit i=>exact hq
      | ret=>exact hq
     | succ m2 ih =>
      intro Q' s hw
      have := ih (fun s2=>∃ s3,b6u s2 s3/\Q' s3) s (c9t (b86 m2 C) (fun e s2 h=>by
       cases e with
       | normal=>exact h
       | exit i=>exact h
       | ret=>exact h) hw)
      refine c9t C (fun e s2 hq=>?_) this
      cases e with
      | normal =>
       intro a' w' hs
       obtain ⟨s3,h1,s4,h2,h3⟩:=hq a' w' hs
       exact ⟨s4,d8b h2 h1,h3⟩
      | exit i=>exact hq
      | ret=>exact hq
    exact key m2 (Q .normal) s (g3v hC m2 hw)
   | succ m ih =>
    obtain ⟨s1,h1,h2⟩:=hw
    exact ih (d8b h1 hA) h2
  clear hw hA
  obtain ⟨s,hA,hw'⟩:=hgh
  have hq:∀ s' a' w',SimA P G n s' a' w'->(fun s2=>∀ a' w',SimA P G n s2 a' w'->∃ s3,SimA P G n s3 a' w'/\Q .normal s3) s'->(fun e a' w'=>∃ e' s',ExitM e' e/\Q e' s'/\SimA P G n s' a' w') Exit.normal a' w':=fun s' a' w' hA' hk=>by
   obtain ⟨s3,h1,h2⟩:=hk a' w' hA'
   exact ⟨.normal,s3,.normal,h2,h1⟩
  rcases hcs with ⟨rfl,rfl⟩|⟨rfl,hfl,hd⟩
  ·exact wp_region_list (g08 hO hW hxs hA hw' hq)
  ·refine wp_region_any hfl ?_
   obtain ⟨S,h0,hS,hY,hD,hK⟩:∃ S,S 0=s/\c1p O xs S/\c1q ops xs S/\DrawOk ops xs/\(∀ a' w',SimA P G n (S xs.length) a' w'->∃ s3,SimA P G n s3 a' w'/\Q .normal s3):=by
    rcases hd with ⟨rfl,hst⟩|⟨prs,rfl,hst⟩
    ·obtain ⟨S,h0,hS,hK⟩:=d6s (show b3i O xs _ s from hw')
     exact ⟨S,h0,hS,g9y hst,d69 hst,hK⟩
    ·obtain ⟨S,h0,hS,hY,hK⟩:=hw'
     exact ⟨S,h0,hS,d7b hst hY,d69 hst,hK⟩
   refine g52 hO hW hxs hD hS hY (by rw [h0]; exact hA.top) (fun k hk=>by rw [h0] at hk ⊢; exact hA.b.fresh hk) (fun a' w' hA'=>hq _ a' w' hA' hK) ops.size _ s a _ (by simp) ⟨List.range ops.size,by simp,fun j hj=>?_⟩ ?_ hA.b.drew ?_
   ·simp only [List.mem_range]
    rcases Nat.lt_or_ge j ops.size with h|h
    ·exact h
    ·simp [Array.getD,Nat.not_lt.2 h] at hj
   ·have e:(fun j=>(Array.replicate ops.size false).getD j false=true)=fun _=>False:=funext fun j=>by
     simp [Array.getD]
    rw [e,<- h0]; exact ED.start
   ·intro j o hj
    simp [Array.getD] at hj
 | seq x y ihx ihy =>
  intro xc hc Q s a w hw hA
  simp only [b4m,bE9,mE9] at hc
  obtain ⟨cx,hcx,cy,hcy,rfl⟩:=hc
  refine wp_seq (wp_mono (ihx hcx hw hA) ?_)
  rintro e a' w' ⟨e',s',hm,hq,hA'⟩
  cases hm with
  | normal=>exact ihy hcy hq hA'
  | exit id=>exact ⟨_,s',.exit id,hq,hA'⟩
  | ret=>exact ⟨_,s',.ret,hq,hA'⟩
 | cond c x y ihx ihy =>
  intro xc hc Q s a w hw hA
  simp only [b4m,bE9,mE9] at hc
  obtain ⟨z,hz,cx,hcx,cy,hcy,rfl⟩:=hc
  obtain ⟨t,ht,h1,h2⟩:=hw
  obtain ⟨S,loc,u0,hs⟩:=hA.b.ex
  have hev:=c2n (fun g cs hg=>u0.carry _ _ (hA.b.glob g cs hg)) hs c z hz
  rw [ht] at hev
  have hb:a.eval c = .bool t:=by generalize a.eval c=q at hev; cases hev; rfl
  exact wp_cond_split hb (fun e=>ihx hcx (h1 e) hA) (fun e=>ihy hcy (h2 e) hA)
 | block id x ih =>
  intro xc hc Q s a w hw hA
  simp only [b4m,mE9] at hc
  obtain ⟨cx,hcx,rfl⟩:=hc
  refine wp_block (wp_mono (ih hcx hw hA) ?_)
  rintro e a' w' ⟨e',s',hm,hq,hA'⟩
  cases hm with
  | normal=>exact ⟨_,s',.normal,hq,hA'⟩
  | exit i =>
   simp only [XPost.block] at hq
   simp only [Exit.inBlock]
   split
   ·rename_i h; rw [if_pos h] at hq; exact ⟨_,s',.normal,hq,hA'⟩
   ·rename_i h; rw [if_neg h] at hq; exact ⟨_,s',.exit i,hq,hA'⟩
  | ret=>exact ⟨_,s',.ret,hq,hA'⟩
 | loop x ih =>
  intro xc hc Q s a w hw hA
  simp only [b4m,mE9] at hc
  obtain ⟨cx,hcx,rfl⟩:=hc
  obtain ⟨I,m,hI,hround⟩:=hw
  refine wp_loop_ghost (fun k a' w'=>∃ s',I s'/\m s'=k/\SimA P G n s' a' w') (m s) ⟨s,hI,rfl,hA⟩ ?_
  rintro k a' w' ⟨s',hI',rfl,hA'⟩
  refine wp_mono (ih hcx (hround s' hI') hA') ?_
  rintro e a2 w2 ⟨e',s2,hm,hq,hA2⟩
  cases hm with
  | normal=>exact ⟨m s2,hq.2,s2,hq.1,rfl,hA2⟩
  | exit i=>exact ⟨_,s2,.exit i,hq,hA2⟩
  | ret=>exact ⟨_,s2,.ret,hq,hA2⟩
 | exit id=>intro xc hc Q s a w hw hA; cases hc; exact wp_exit ⟨_,s,.exit id,hw,hA⟩
 | ret=>intro xc hc Q s a w hw hA; cases hc; exact wp_ret ⟨_,s,.ret,hw,hA⟩
 | _=>intro xc hc; simp [b4m] at hc
end
end
end Go.Nw
