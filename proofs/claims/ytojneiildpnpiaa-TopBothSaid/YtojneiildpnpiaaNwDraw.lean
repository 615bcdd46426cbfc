/- The drawn orders of a region, the abstract part: an operation in a state that another order has reached. -/
import Derived.Test.YtojneiildpnpiaaNwChain
set_option linter.all false
namespace Go.Nw
variable [Cfg]
theorem g04:∀ (frag:b3z) (h g:Heap),g.nx=h.nx->(g.join frag).nx=(h.join frag).nx/\∀ id,h.nx<=id->id<(h.join frag).nx->(g.join frag).ob id=(h.join frag).ob id
 | [],h,g,hn=>⟨hn,fun id h1 h2=>absurd h2 (Nat.not_lt.2 h1)⟩
 | o :: frag,h,g,hn=>by
  have hn':(g.new o).nx=(h.new o).nx:=by simp [Heap.new,hn]
  obtain ⟨h1,h2⟩:=g04 frag (h.new o) (g.new o) hn'
  refine ⟨h1,fun id hid hlt=>?_⟩
  by_cases e:id=h.nx
  ·subst e
   have f1:=(Fr.join (fun _=>False) frag (h.new o)).ob h.nx (fun h=>h) (fun hh=>by simp [Heap.new] at hh; omega)
   have f2:=(Fr.join (fun _=>False) frag (g.new o)).ob h.nx (fun h=>h) (fun hh=>by simp [Heap.new,hn] at hh; omega)
   show ((g.new o).join frag).ob h.nx=((h.new o).join frag).ob h.nx
   rw [f1,f2]; simp [Heap.new,hn]
  ·exact h2 id (by simp only [Heap.new]; omega) hlt
theorem d6o {O:Orac} {f:String} {as:List AV} {h h' g:Heap} {r:AV} (hk:b9o O f as h r h') (hn:g.nx=h.nx) (hz:∀ as',FzL h as as'->FzL g as as') :
  ∃ g',b9o O f as g r g'/\g'.nx=h'.nx/\∀ id,h.nx<=id/\id<h'.nx->g'.ob id=h'.ob id:=by
 obtain ⟨as',r0,frag,frag',h1,h2,h3,h4,h5,h6,rfl⟩:=hk
 obtain ⟨j1,j2⟩:=g04 frag' h g hn
 exact ⟨g.join frag',⟨as',r0,frag,frag',hz _ h1,h2,h3,by rw [hn]; exact h4,h5,by rw [hn]; exact h6,rfl⟩,j1,fun id hid=>j2 id hid.1 hid.2⟩
theorem FzL.imp {h g:Heap} {as bs:List AV} (hz:FzL h as bs) (hh:∀ x∈as,∀ y,Fz h x y->Fz g x y):FzL g as bs:=by
 induction hz with
 | nil=>exact .nil
 | cons a b ih=>exact .cons (hh _ List.mem_cons_self _ a) (ih fun x hx=>hh x (List.mem_cons_of_mem _ hx))
theorem c7q {o:XO} {t:Nat} (h:X.t t∈o.op.xs\/X.tf t∈o.op.xs):t∈o.looks:=by
 unfold XO.looks
 rcases h with h|h
 ·exact List.mem_append_left _ (List.mem_filterMap.2 ⟨.t t,h,rfl⟩)
 ·exact List.mem_append_left _ (List.mem_filterMap.2 ⟨.tf t,h,rfl⟩)
theorem g1h {o:XO} {g:Nat} {b:Bool} (h:o.guard=some (g,b)):g∈o.looks:=by
 unfold XO.looks
 rw [h]; simp
theorem g3u {s σ:St} {g:Option (Nat × Bool)} (h:∀ t b,g=some (t,b)->σ.t t=s.t t):b2y σ g=b2y s g:=by
 cases g with
 | none=>rfl
 | some p=>simp only [b2y,h p.1 p.2 rfl]
theorem c6y {s σ:St} {x:X} (h:∀ t,x = .t t\/x = .tf t->σ.t t=s.t t):σ.ev x=s.ev x:=by
 cases x with
 | t n=>exact h n (.inl rfl)
 | tf n=>simp only [St.ev,h n (.inr rfl)]
 | c v=>rfl
 | f n=>rfl
 | g i cs=>rfl
theorem g3n {op:XOp} {ev ev':X->AV} (hx:∀ x∈op.xs,ev x=ev' x) (id:Nat):op.touch ev id ↔ op.touch ev' id:=by
 cases op <;> simp only [XOp.touch]
 ·rw [hx _ (by simp [XOp.xs])]
 ·rw [hx _ (by simp [XOp.xs])]
def c1r (O:Orac) (o:XO) (s s' σ:St):Prop :=
 ∃ σ' r,wpOp O o σ (·=σ')/\s'.t=(s.put o.dst r).t/\σ'.t=(σ.put o.dst r).t/\σ'.h.nx=s'.h.nx /\
  (∀ id,o.touch s id\/(s.h.nx<=id/\id<s'.h.nx)->σ'.h.ob id=s'.h.ob id)/\Fr (o.touch s) σ.h σ'.h
theorem Fz.heap {h g:Heap} (hh:∀ id,g.ob id=h.ob id) {x y:AV} (hz:Fz h x y):Fz g x y:=by
 induction hz with
 | refl x hx=>exact .refl x hx
 | nil sz=>exact .nil sz
 | dead x=>exact .dead x
 | agg cs ds hl hc ih=>exact .agg cs ds hl ih
 | tup cs ds hl hc ih=>exact .tup cs ds hl ih
 | fn f as bs cs ds hl hc hl2 hc2 ih ih2=>exact .fn f as bs cs ds hl ih hl2 ih2
 | rs id lo len sz es ds ho hb hl hz hc ih=>exact .rs id lo len sz es ds (by rw [hh]; exact ho) hb hl hz ih
 | rp id i off sz es cs ds ho hi hl hc ih=>exact .rp id i off sz es cs ds (by rw [hh]; exact ho) hi hl ih
theorem l7l {O:Orac} {o:XO} {s s' σ:St} (h:wpOp O o s (·=s')) (hnf:∀ f l,o.op≠.callw f l) (hl:∀ t∈o.looks,σ.t t=s.t t) (hn:σ.h.nx=s.h.nx)
  {U : AV->Prop} (hU:∀ t,U (σ.t t)) (hUv:∀ v,U (.v v)) (hUd:U .dead) (hUf:∀ f,U (.fn f [] [])) (hUg:∀ cs:List GC,U (.fp (cs.map GC.av) 0)) (hUc:∀ f a b,U (.fn f a b)->(∀ c∈a,U c)/\∀ c∈b,U c)
  (ha : o.op.acc=true->b2y s o.guard=some true->∀ x∈o.op.xs,∀ id,E65 (σ.ev x)=some id->∀ ob,s.h.ob id=some ob->σ.h.ob id=some ob)
  (hz : o.op.acc=true->o.op.look=false->∀ x,U x->∀ y,Fz s.h x y->Fz σ.h x y) :
  c1r O o s s' σ:=by
 have hev:∀ x∈o.op.xs,σ.ev x=s.ev x:=fun x hx=>c6y fun t ht=>hl t (c7q (ht.imp (fun e=>by rw [<- e]; exact hx) fun e=>by rw [<- e]; exact hx))
 have hUe:∀ x,U (σ.ev x):=fun x=>by
  cases x with
  | t n=>exact hU n
  | tf n =>
   have := hU n
   simp only [St.ev]
   cases hv:σ.t n <;> simp only [r7o] <;> first|exact hUd|(rw [hv] at this; exact this)
  | c v=>exact hUv v
  | f n=>exact hUf n
  | g i cs=>exact hUg cs
 have hw:=g3u (s:=s) (σ:=σ) (g:=o.guard) fun t b hg=>hl t (g1h hg)
 have htch:∀ id,o.touch σ id ↔ o.touch s id:=fun id=>by
  unfold XO.touch
  rw [hw,g3n (fun x hx=>(hev x hx))]
 have fin:∀ σ',wpOp O o σ (·=σ')->∀ r,s'.t=(s.put o.dst r).t->σ'.t=(σ.put o.dst r).t->σ'.h.nx=s'.h.nx ->
   (∀ id,o.touch s id\/(s.h.nx<=id/\id<s'.h.nx)->σ'.h.ob id=s'.h.ob id)->c1r O o s s' σ:=fun σ' h1 r h2 h3 h4 h5=>by
  have hfr:=(b7v h1).2
  exact ⟨σ',r,h1,h2,h3,h4,h5,hfr.nx,hfr.us,fun id hid=>hfr.ob id fun ht=>hid ((htch id).1 ht),hfr.no⟩
 have htouch:∀ id,o.touch s id->o.op.touch s.ev id:=fun id h=>h.2
 obtain ⟨dst,guard,op⟩:=o
 simp only at hw hnf ha hz hev
 cases hwt:b2y s guard with
 | none=>unfold wpOp at h; cases op <;> simp only [hwt] at h
 | some b =>
  rw [hwt] at hw
  cases b with
  | false =>
   have h1:s.put dst (.v (.tuple #[]))=s':=by
    unfold wpOp at h; cases op <;> simp only [hwt] at h <;> first|exact h|exact absurd rfl (hnf _ _)
   have h2:wpOp O ⟨dst,guard,op⟩ σ (·=σ.put dst (.v (.tuple #[]))):=by
    unfold wpOp; cases op <;> simp only [hw] <;> exact absurd rfl (hnf _ _)
   have e:s'.h=s.h:=by rw [<- h1]; cases dst <;> rfl
   refine fin (σ.put dst (.v (.tuple #[]))) h2 (.v (.tuple #[])) (by rw [<- h1]) rfl (by rw [e]; cases dst <;> exact hn) (fun id hid=>?_)
   rcases hid with hid|hid
   ·have := hid.1; simp only [hwt] at this; cases this
   ·rw [e] at hid; omega
  | true =>
   have run:∀ r h',s'={ t:=(s.put dst r).t,h:=h' }->∀ g',wpOp O ⟨dst,guard,op⟩ σ (·={ t:=(σ.put dst r).t,h:=g' })->g'.nx=h'.nx->(∀ id,op.touch s.ev id\/(s.h.nx<=id/\id<h'.nx)->g'.ob id=h'.ob id)->c1r O ⟨dst,guard,op⟩ s s' σ:=fun r h' h1 g' h2 h3 h4 =>
    fin { t:=(σ.put dst r).t,h:=g' } h2 r (by rw [h1]) rfl (by rw [h1]; exact h3) (fun id hid=>by
     rw [h1]; exact h4 id (hid.imp (fun h=>h.2) fun h=>by rw [h1] at h; exact h))
   have plain:op.special=false->∀ r h',eff op s.ev s.h=some (r,h')->s'={ t:=(s.put dst r).t,h:=h' }->c1r O ⟨dst,guard,op⟩ s s' σ:=fun hsp r h' he h1=>by
    have he':eff op σ.ev s.h=some (r,h'):=by rw [j0i hev]; exact he
    obtain ⟨g',k1,k2,k3⟩:=j0j he' hn (fun n=>by simp only [St.ev]; cases σ.t n <;> rfl) (fun hacc x hx id hid ob hob=>ha hacc hwt x hx id hid ob hob)
    refine run r h' h1 g' ?_ k2 (fun id hid=>k3 id (hid.imp (fun h=>(g3n hev id).2 h) fun h=>h))
    unfold wpOp
    cases op <;> simp only [XOp.special,Bool.true_eq_false] at hsp <;> simp only [hw] <;> exact ⟨r,g',k1,rfl⟩
   have hzl:op.acc=true->op.look=false->∀ as,(∀ a∈as,U a)->∀ as',FzL s.h as as'->FzL σ.h as as':=fun hacc hlk as hu as' hh=>hh.imp fun x hx y=>hz hacc hlk x (hu x hx) y
   cases hsp:op.special with
   | false =>
    have : ∃ r h',eff op s.ev s.h=some (r,h')/\({ t:=(s.put dst r).t,h:=h' }:St)=s':=by
     unfold wpOp at h
     cases op <;> simp only [XOp.special,Bool.true_eq_false] at hsp <;> simp only [hwt] at h <;> exact h
    obtain ⟨r,h',he,h1⟩:=this
    exact plain hsp r h' he h1.symm
   | true =>
    cases op <;> simp only [XOp.special,fT9] at hsp <;> unfold wpOp at h <;> simp only [hwt] at h
    case boxF x =>
     obtain ⟨h1,h2⟩:=h
     have hx:=hev x (by simp [XOp.xs])
     refine run _ s.h h2.symm σ.h ?_ hn (fun id hid=>hid.elim (fun h=>h.elim) fun h=>by omega)
     unfold wpOp; simp only [hw,hx]; exact ⟨h1,trivial⟩
    case call f args =>
     obtain ⟨r,h',h1,h2⟩:=h
     have hargs:args.map σ.ev=args.map s.ev:=List.map_congr_left fun x hx=>hev x (by simpa [XOp.xs] using hx)
     obtain ⟨g',k1,k2,k3⟩:=d6o h1 hn (hzl rfl rfl _ fun a hA=>by
      rw [<- hargs] at hA
      obtain ⟨x,_,rfl⟩:=List.mem_map.1 hA
      exact hUe x)
     refine run r h' h2.symm g' ?_ k2 (fun id hid=>hid.elim (fun h=>h.elim) (k3 id))
     unfold wpOp; simp only [hw,hargs]; exact ⟨r,g',k1,rfl⟩
    case callv f args =>
     obtain ⟨n,a,b,hc,r,h',h1,h2⟩:=h
     have hfv:=hev f (by simp [XOp.xs])
     have hargs:args.map σ.ev=args.map s.ev:=List.map_congr_left fun x hx=>hev x (by simp [XOp.xs,hx])
     have hcl:σ.ev f = .fn n a b:=by
      rw [hfv]; unfold callee at hc
      split at hc
      ·rename_i hh; simp at hc; obtain ⟨rfl,rfl,rfl⟩:=hc; exact hh
      ·cases hc
     have hUc':=hUc n a b (by rw [<- hcl]; exact hUe f)
     obtain ⟨g',k1,k2,k3⟩:=d6o h1 hn (hzl rfl rfl _ fun c hA=>by
      rw [<- hargs] at hA
      simp only [List.mem_append] at hA
      rcases hA with (hA|hA)|hA
      ·exact hUc'.1 c hA
      ·obtain ⟨x,_,rfl⟩:=List.mem_map.1 hA
       exact hUe x
      ·exact hUc'.2 c hA)
     refine run r h' h2.symm g' ?_ k2 (fun id hid=>hid.elim (fun h=>h.elim) (k3 id))
     unfold wpOp; simp only [hw,hargs]; exact ⟨n,a,b,by rw [hfv]; exact hc,r,g',k1,rfl⟩
    case callw f l=>exact absurd rfl (hnf f l)
section
variable {O:Orac} {xs:List XO} {S:Nat->St} {ops:Array Oper}
structure ED (xs:List XO) (S:Nat->St) (D:Nat->Prop) (σ:St):Prop where
 t1 : ∀ (i:Nat) x d,D i->xs[i]?=some x->x.dst=some d->σ.t d=(S (i+1)).t d
 t2 : ∀ d,(∀ (i:Nat) x,D i->xs[i]?=some x->x.dst≠some d)->σ.t d=(S 0).t d
 us : ∀ id,σ.h.us id ↔ (S 0).h.us id\/∃ j,D j/\(S j).h.nx<=id/\id<(S (j+1)).h.nx
 ob : ∀ id,σ.h.us id->∃ l,l<=xs.length/\(l=0\/∃ k,l=k+1/\D k/\(Tch xs S k id\/((S k).h.nx<=id/\id<(S (k+1)).h.nx)))/\(S l).h.us id/\σ.h.ob id=(S l).h.ob id /\
  ∀ j,l<=j->D j->¬ Tch xs S j id
 tu : ∀ j id,D j->Tch xs S j id->σ.h.us id
variable (hS:c1p O xs S) (hD:DrawOk ops xs) (hY:c1q ops xs S) (htop:∀ k,(S 0).h.nx<=k->¬ (S 0).h.us k) (hfr:∀ k,¬ (S 0).h.us k->(S 0).h.ob k=none)
theorem g3m {op:XOp} {ev:X->AV} {id:Nat} (h:op.touch ev id):op.acc=true:=by
 cases op <;> simp only [XOp.touch] at h <;> rfl
theorem l50 {op:XOp} {ev:X->AV} {id:Nat} (h:op.touch ev id):op.isA=true:=by
 cases op <;> simp only [XOp.touch] at h <;> rfl
theorem l5z {x:XO} {s:St} {id:Nat} (h:x.touch s id):x.op.isA=true:=l50 h.2
theorem g3o {op:XOp} {s:St} {id:Nat} (h:op.touch s.ev id):op.mut=true:=by
 cases op <;> simp only [XOp.touch] at h
 ·rfl
 ·rename_i sz b s' x
  cases s' with
  | c v=>obtain ⟨lo,len,h⟩:=h; cases h
  | t n=>rfl
  | tf n=>rfl
  | f n=>rfl
  | g i cs=>rfl
 ·rfl
include hS hD in
theorem g9a {i:Nat} {x:XO} (hx:xs[i]?=some x):∃ r,(S (i+1)).t=((S i).put x.dst r).t :=
 (b7v (hS i x hx)).1
include hS hD in
theorem d1e {i:Nat} (hi:i<=xs.length):(∀ (k:Nat) x d,k<i->xs[k]?=some x->x.dst=some d->(S i).t d=(S (k+1)).t d)/\∀ d,(∀ (k:Nat) x,k<i->xs[k]?=some x->x.dst≠some d)->(S i).t d=(S 0).t d:=by
 induction i with
 | zero=>exact ⟨fun k x d h=>by omega,fun _ _=>rfl⟩
 | succ i ih =>
  obtain ⟨i1,i2⟩:=ih (by omega)
  obtain ⟨y,hy⟩:∃ y,xs[i]?=some y:=⟨_,gG9 (by omega)⟩
  obtain ⟨r,hr⟩:=g9a hS hD hy
  have keep:∀ d,y.dst≠some d->(S (i+1)).t d=(S i).t d:=fun d hd=>by
   rw [hr]
   cases hyd:y.dst with
   | none=>simp [St.put]
   | some e=>have:d≠e:=fun h=>hd (by rw [hyd,h])
             simp [St.put,St.set,upd,this]
  refine ⟨fun k x d hk hx hd=>?_,fun d hd=>?_⟩
  ·by_cases e:k=i
   ·subst e; rfl
   ·rw [keep d ((hD.pairs k i x y (by omega) hx hy).1 d hd),i1 k x d (by omega) hx hd]
  ·rw [keep d (hd i y (by omega) hy),i2 d fun k x hk=>hd k x (by omega)]
include hS hD in
theorem d7w {i k:Nat} {y z:XO} {j:Nat} (hij:i<j) (hjk:j<k) (hk:k<xs.length) (hz:xs[j]?=some z) (hy:xs[k]?=some y) (hf:b5p z y=true) {id:Nat} (ht:y.touch (S k) id):(S (i+1)).h.nx<=id:=by
 obtain ⟨zd,zg,zop⟩:=z
 obtain ⟨yd,yg,yop⟩:=y
 unfold b5p at hf
 simp only at hf
 split at hf
 ·rename_i sz parts d sz' b s x
  have e:d=s:=by simpa using hf
  subst e
  obtain ⟨_,lo,len,ht⟩:=ht
  have hst:=hS j _ hz
  simp only [wpOp,b2y] at hst
  obtain ⟨r,h',he,hs'⟩:=hst
  simp only [eff] at he
  split at he
  ·simp only [iE9,Prod.mk.injEq] at he
   have hr:(S (j+1)).t d=r:=by rw [<- hs']; simp [St.put,St.set,upd]
   have h1:=(d1e hS hD (show k<=xs.length by omega)).1 j _ d (by omega) hz rfl
   have h2:(S k).ev (.t d)=(S k).t d:=rfl
   rw [h2,h1,hr,<- he.1] at ht
   cases ht
   exact b3r hS (show i+1<=j by omega) (by omega)
  ·cases he
 ·cases hf
theorem g13 {s:St} {d:Option Nat} {r:AV} {e:Nat} (h:d≠some e):(s.put d r).t e=s.t e:=by
 cases d with
 | none=>rfl
 | some k=>have:e≠k:=fun hh=>h (by rw [hh])
           simp [St.put,St.set,upd,this]
theorem d7s {s:St} {e:Nat} {r:AV}:(s.put (some e) r).t e=r:=by simp [St.put,St.set,upd]
omit hS hD hY htop hfr in
theorem j7t {x:XO} {s s':St} (h:wpOp O x s (·=s')) (hw:b2y s x.guard=some true) (hl:x.op.look=true) {y:X} (hy:y∈x.op.xs) {id:Nat} (hr:E65 (s.ev y)=some id):E65 (s.ev x.op.lookX)=some id:=by
 obtain ⟨dst,guard,op⟩:=x
 unfold wpOp at h
 cases op <;> simp only [XOp.look,fT9] at hl <;> simp only [hw] at h <;> simp only [XOp.xs,List.mem_cons,List.not_mem_nil,or_false] at hy
 ·subst hy; exact hr
 ·subst hy; exact hr
 ·subst hy; exact hr
 ·rcases hy with rfl|rfl
  ·exact hr
  ·obtain ⟨r,h',he,_⟩:=h
   simp only [eff] at he
   split at he
   ·rename_i h2; rw [h2] at hr; cases hr
   ·rename_i h2; rw [h2] at hr; cases hr
   ·cases he
include hS hD hY htop hfr in
theorem ED.step {D:Nat->Prop} {σ:St} (hE:ED xs S D σ) (hDn:∀ j,D j->j<xs.length) {i:Nat} {x:XO} (hx:xs[i]?=some x) (hni:¬ D i) (hpre:∀ k,Pre ops k i->D k) (hdown:∀ j k,D j->Pre ops k j->D k)
  (hσ : ∀ id,¬ σ.h.us id->σ.h.ob id=none)
  {U : AV->Prop} (hU:∀ t,U (σ.t t)) (hUv:∀ v,U (.v v)) (hUd:U .dead) (hUf:∀ f,U (.fn f [] [])) (hUg:∀ cs:List GC,U (.fp (cs.map GC.av) 0)) (hUc:∀ f a b,U (.fn f a b)->(∀ c∈a,U c)/\∀ c∈b,U c) (hUr:∀ x,U x->∀ id,E65 x=some id->σ.h.us id)
  (hUz : ∀ h:Heap,(∀ id,σ.h.us id->∀ o,h.ob id=some o->σ.h.ob id=some o)->∀ x,U x->∀ y,Fz h x y->Fz σ.h x y) :
  ∃ σ',wpOp O x { t:=σ.t,h:={ σ.h with nx:=(S i).h.nx } } (·=σ')/\ED xs S (fun j=>D j\/j=i) σ'/\(∀ k,(S i).h.nx<=k->k<σ'.h.nx->¬ σ.h.us k)/\(x.op.isW=true->∀ k,(S i).h.nx<=k->¬ σ.h.us k):=by
 have hi:i<xs.length:=(gS9.1 hx).1
 -- a call in the own heap stands in the text's order to all that is not still
 have hside:x.op.isW=true->∀ (k:Nat) (y:XO),k≠i->xs[k]?=some y->y.op.quiet=false->(k<i ↔ D k):=fun hw k y hne hy hst=>by
  have hst1:y.op.still=false:=by unfold XOp.quiet at hst; exact (Bool.or_eq_false_iff.1 hst).1
  have hst2:y.op.look=false:=by unfold XOp.quiet at hst; exact (Bool.or_eq_false_iff.1 hst).2
  rcases Nat.lt_or_gt_of_ne hne with h|h
  ·refine ⟨fun _=>?_,fun _=>h⟩
   rcases (hD.pairs k i y x h hy hx).2 with h|⟨fl,h1,_⟩|h1
   ·exact hpre k h
   ·simp only [b4w,Bool.and_eq_true,Bool.or_eq_true,Bool.not_eq_true'] at h1
    rcases h1.2.2 with h2|h2
    ·rw [hw] at h2; cases h2
    ·rw [hst1] at h2; cases h2
   ·simp only [b5j,Bool.and_eq_true,Bool.or_eq_true,hst2,fT9,false_and,false_or] at h1
    have := g1g h1.2.2
    rw [hw] at this; cases this
  ·refine ⟨fun hh=>by omega,fun hk=>?_⟩
   rcases (hD.pairs i k x y h hx hy).2 with h|⟨fl,h1,_⟩|h1
   ·exact absurd (hdown k i hk h) hni
   ·simp only [b4w,Bool.and_eq_true,Bool.or_eq_true,Bool.not_eq_true'] at h1
    rcases h1.2.1 with h2|h2
    ·rw [hw] at h2; cases h2
    ·rw [hst1] at h2; cases h2
   ·simp only [b5j,Bool.and_eq_true,Bool.or_eq_true,hst2,fT9,and_false,or_false] at h1
    have := g1g h1.2.1
    rw [hw] at this; cases this
 have hmov:∀ (k:Nat) (y:XO),xs[k]?=some y->(S k).h.nx<(S (k+1)).h.nx->y.op.quiet=false:=fun k y hy hlt=>by
  cases hst:y.op.quiet with
  | false=>rfl
  | true=>have:=l38 hst (hS k y hy); rw [this] at hlt; omega
 have husW:x.op.isW=true->∀ id,σ.h.us id ↔ (S i).h.us id:=fun hw id=>by
  rw [hE.us,d1f hS (show i<=xs.length by omega)]
  constructor
  ·rintro (h|⟨j,hj,h1,h2⟩)
   ·exact .inl h
   ·have hjn:=hDn j hj
    obtain ⟨y,hy⟩:∃ y,xs[j]?=some y:=⟨_,gG9 hjn⟩
    have hlt:=(hside hw j y (fun e=>hni (e ▸ hj)) hy (hmov j y hy (by omega))).2 hj
    have := b3r hS (show 0<=j by omega) (by omega)
    have := b3r hS (show j+1<=i by omega) (by omega)
    exact .inr (by omega)
  ·rintro (h|h)
   ·exact .inl h
   ·have : ∀ m,m<=i->id<(S m).h.nx->∃ j,j<m/\(S j).h.nx<=id/\id<(S (j+1)).h.nx:=by
     intro m
     induction m with
     | zero=>intro _ h1; omega
     | succ m ih =>
      intro hm h1
      by_cases h2:id<(S m).h.nx
      ·obtain ⟨j,a,b⟩:=ih (by omega) h2; exact ⟨j,by omega,b⟩
      ·exact ⟨m,by omega,by omega,h1⟩
    obtain ⟨j,a,b,c⟩:=this i (Nat.le_refl _) h.2
    obtain ⟨y,hy⟩:∃ y,xs[j]?=some y:=⟨_,gG9 (by omega)⟩
    exact .inr ⟨j,(hside hw j y (by omega) hy (hmov j y hy (by omega))).1 a,b,c⟩
 have hheap:x.op.isW=true->({ σ.h with nx:=(S i).h.nx }:Heap)=(S i).h:=fun hw=>by
  have hob:σ.h.ob=(S i).h.ob:=funext fun id=>by
   by_cases hu:σ.h.us id
   ·obtain ⟨l,hl1,hl2,hl3,hl4,hl5⟩:=hE.ob id hu
    have hli:l<=i:=by
     rcases hl2 with rfl|⟨k,rfl,hk,hk2⟩
     ·omega
     ·have hkn:=hDn k hk
      obtain ⟨y,hy⟩:∃ y,xs[k]?=some y:=⟨_,gG9 hkn⟩
      have hst:y.op.quiet=false:=by
       rcases hk2 with ⟨y',hy',ht,_⟩|hk2
       ·rw [hy] at hy'; cases hy'
        cases hst:y.op.quiet with
        | false=>rfl
        | true=>exact (b7m hst ht).elim
       ·exact hmov k y hy (by omega)
      have := (hside hw k y (fun e=>hni (e ▸ hk)) hy hst).2 hk
      omega
    rw [hl4,<- d1d hS hfr hli (by omega) (b8b hS htop hl1 hl3) ?_]
    rintro k hk1 hk2 ⟨y,hy,ht,hu2⟩
    have hst:y.op.quiet=false:=by
     cases hst:y.op.quiet with
     | false=>rfl
     | true=>exact (b7m hst ht).elim
    exact hl5 k hk1 ((hside hw k y (by omega) hy hst).1 hk2) ⟨y,hy,ht,hu2⟩
   ·rw [hσ id hu,c2a hS hfr (by omega) fun hh=>hu ((husW hw id).2 hh)]
  have hus:σ.h.us=(S i).h.us:=funext fun id=>propext (husW hw id)
  show ({ ob:=σ.h.ob,us:=σ.h.us,nx:=(S i).h.nx }:Heap)=(S i).h
  rw [hob,hus]
 -- two operations that write or read the same object come in the text's order
 have late:∀ k y id,D k->i<k->xs[k]?=some y->y.touch (S k) id->x.op.acc=true->(x.op.look=false\/b7y ops xs i k x y)->(S (i+1)).h.nx<=id:=fun k y id hk hik hy ht hacc hlk=>by
  have hlo:b7y ops xs i k x y:=hlk.elim (fun hlk=>(hD.pairs i k x y hik hx hy).2.elim .inl fun h=>h.elim .inr fun h1=>by
   simp only [b5j,Bool.and_eq_true,Bool.or_eq_true] at h1
   rcases h1.2 with ⟨q1,_⟩|⟨_,q2⟩
   ·rw [hlk] at q1; cases q1
   ·exact (b7m (by unfold XOp.quiet; rw [q2,Bool.or_true]) ht).elim) fun h=>h
  rcases hlo with h|⟨fl,h1,h2⟩
  ·exact absurd (hdown k i hk h) hni
  ·simp only [b4w,Bool.and_eq_true,Bool.or_eq_true,Bool.not_eq_true'] at h1
   have hm:=g3o (s:=S k) ht.2
   rcases h1.1.1.2 with (h|h)|h
   ·rw [hacc] at h; cases h
   ·rw [hm] at h; cases h
   ·obtain ⟨j,z,h3,h4,h5,h6⟩:=h2 h
    exact d7w hS hD h3 h4 (hDn k hk) h5 hy h6 ht
 -- the slots it looks at
 have hl:∀ t∈x.looks,σ.t t=(S i).t t:=fun t ht=>by
  obtain ⟨s1,s2⟩:=d1e hS hD (show i<=xs.length by omega)
  by_cases hw:∃ (k:Nat) (y:XO),xs[k]?=some y/\y.dst=some t/\(D k\/k<i)
  ·obtain ⟨k,y,hy,hd,hk⟩:=hw
   by_cases hlt:k<i
   ·have hDk:D k:=by
     rcases (hD.pairs k i y x hlt hy hx).2 with h|⟨fl,h1,_⟩|h1
     ·exact hpre k h
     ·simp only [b4w,hd,Bool.and_eq_true,Bool.not_eq_true'] at h1
      have := h1.1.1.1.1
      simp at this; exact absurd ht this
     ·simp only [b5j,hd,Bool.and_eq_true,Bool.not_eq_true'] at h1
      have := h1.1.1
      simp at this; exact absurd ht this
    rw [hE.t1 k y t hDk hy hd,s1 k y t hlt hy hd]
   ·have hDk:D k:=hk.resolve_right hlt
    have hne:k≠i:=fun e=>hni (e ▸ hDk)
    rcases (hD.pairs i k x y (by omega) hx hy).2 with h|⟨fl,h1,_⟩|h1
    ·exact absurd (hdown k i hDk h) hni
    ·simp only [b4w,hd,Bool.and_eq_true,Bool.not_eq_true'] at h1
     have := h1.1.1.1.2
     simp at this; exact absurd ht this
    ·simp only [b5j,hd,Bool.and_eq_true,Bool.not_eq_true'] at h1
     have := h1.1.2
     simp at this; exact absurd ht this
  ·rw [hE.t2 t fun k y hk hy hd=>hw ⟨k,y,hy,hd,.inl hk⟩,s2 t fun k y hk hy hd=>hw ⟨k,y,hy,hd,.inr hk⟩]
 -- the objects it looks at
 have hstep:∀ m id,m<xs.length->id<(S m).h.nx->(∀ y,xs[m]?=some y->y.touch (S m) id->(S m).h.us id->False)->(S (m+1)).h.ob id=(S m).h.ob id:=fun m id hm hlt hno =>
  d1d hS hfr (show m<=m+1 by omega) (by omega) hlt fun j hj1 hj2 ⟨y,hy,ht,hu⟩=>by
   have : j=m:=by omega
   subst this
   exact hno y hy ht hu
 have hext:x.op.acc=true->∀ id,σ.h.us id->(x.op.look=false\/(b2y (S i) x.guard=some true/\E65 ((S i).ev x.op.lookX)=some id))->∀ o,(S i).h.ob id=some o->σ.h.ob id=some o:=fun hacc id hus hlk o ho=>by
  obtain ⟨l,hl1,hl2,hl3,hl4,hl5⟩:=hE.ob id hus
  have husi:(S i).h.us id:=by
   by_cases h:(S i).h.us id
   ·exact h
   ·rw [c2a hS hfr (by omega) h] at ho; cases ho
  have hidlt:=b8b hS htop (show i<=xs.length by omega) husi
  have hidl:=b8b hS htop hl1 hl3
  have hdyn:∀ k y,k≠i->xs[k]?=some y->y.op.isA=true->x.op.look=true->(i<k->¬ b7y ops xs i k x y)->(k<i->¬ b7y ops xs k i y x)->(S (k+1)).h.ob id=(S k).h.ob id:=fun k y _ hy hw hlo p1 p2=>by
   rcases hlk with h|⟨h1,h2⟩
   ·rw [h] at hlo; cases hlo
   ·exact hY i k x y id hx hy hlo hw p1 p2 h1 h2
  rw [hl4]
  rcases Nat.lt_or_ge i l with hil|hli
  ·-- a later call in the own heap came first
   rcases hl2 with rfl|⟨k,rfl,hk,hk2⟩
   ·omega
   ·have hne:k≠i:=fun e=>hni (e ▸ hk)
    have hkn:=hDn k hk
    rcases hk2 with ⟨y,hy,ht,hyu⟩|hk2
    ·by_cases hcase:x.op.look=false
     ·have := late k y id hk (by omega) hy ht hacc (.inl hcase)
      have := b3r hS (show i<=i+1 by omega) (by omega)
      omega
     ·have hxl:x.op.look=true:=by simpa using hcase
      have key:∀ m,i<=m->m<=k+1->(S m).h.ob id=(S i).h.ob id:=by
       intro m
       induction m with
       | zero=>intro h1 _; have:i=0:=by omega
               subst this; rfl
       | succ m ih =>
        intro h1 h2
        by_cases e:i=m+1
        ·subst e; rfl
        ·rw [<- ih (by omega) (by omega)]
         have hlt:=b3r hS (show i<=m by omega) (by omega)
         by_cases hmt:∃ z,xs[m]?=some z/\z.touch (S m) id
         ·obtain ⟨z,hz,hzt⟩:=hmt
          by_cases emi:m=i
          ·subst emi; rw [hx] at hz; cases hz
           exact (b7m (by unfold XOp.quiet; rw [hxl,Bool.or_true]) hzt).elim
          ·have hDm:D m:=by
            by_cases emk:m=k
            ·subst emk; exact hk
            ·exact (by
              rcases (hD.pairs m k z y (by omega) hz hy).2 with h|⟨fl,h3,h4⟩|h3
              ·exact hdown k m hk h
              ·simp only [b4w,Bool.and_eq_true,Bool.or_eq_true,Bool.not_eq_true'] at h3
               rcases h3.1.1.2 with (h5|h5)|h5
               ·rw [g3m hzt.2] at h5; cases h5
               ·rw [g3o (s:=S k) ht.2] at h5; cases h5
               ·obtain ⟨j,z',g3,g4,g5,g6⟩:=h4 h5
                have := d7w hS hD g3 g4 (hDn k hk) g5 hy g6 ht
                have := b3r hS (show i<=m+1 by omega) (by omega)
                omega
              ·simp only [b5j,Bool.and_eq_true,Bool.or_eq_true] at h3
               rcases h3.2 with ⟨q1,_⟩|⟨_,q2⟩
               ·exact (b7m (by unfold XOp.quiet; rw [q1,Bool.or_true]) hzt).elim
               ·exact (b7m (by unfold XOp.quiet; rw [q2,Bool.or_true]) ht).elim)
           refine hdyn m z emi hz (l5z hzt) hxl (fun him hlo=>?_) fun h=>by omega
           have := late m z id hDm him hz hzt hacc (.inr hlo)
           have := b3r hS (show i<=i+1 by omega) (by omega)
           omega
         ·exact hstep m id (by omega) (by omega) fun z hz ht _=>hmt ⟨z,hz,ht⟩
      rw [key (k+1) (by omega) (by omega)]; exact ho
    ·have := b3r hS (show i<=k by omega) (by omega)
     omega
  ·have key:∀ m,l<=m->m<=i->(S m).h.ob id=(S l).h.ob id:=by
    intro m
    induction m with
    | zero=>intro h1 _; have:l=0:=by omega
            subst this; rfl
    | succ m ih =>
     intro h1 h2
     by_cases e:l=m+1
     ·subst e; rfl
     ·rw [<- ih (by omega) (by omega)]
      have hlt:=b3r hS (show l<=m by omega) (by omega)
      by_cases hmt:∃ y,xs[m]?=some y/\y.touch (S m) id/\(S m).h.us id
      ·obtain ⟨y,hy,ht,htu⟩:=hmt
       have hDm:¬ D m:=fun hDm=>hl5 m (by omega) hDm ⟨y,hy,ht,htu⟩
       by_cases hlo:b7y ops xs m i y x
       ·rcases hlo with h|⟨fl,h3,_⟩
        ·exact absurd (hpre m h) hDm
        simp only [b4w,Bool.and_eq_true,Bool.or_eq_true,Bool.not_eq_true'] at h3
        have hst:y.op.sto=false:=h3.1.2.resolve_right (by rw [hacc]; simp)
        obtain ⟨yd,yg,yop⟩:=y
        have hnone:(S (m+1)).h.ob id=none:=by
         have hj:=hS m _ hy
         obtain ⟨hw,ht'⟩:=ht
         simp only at hw ht' hst
         unfold wpOp at hj
         cases yop <;> simp only [XOp.touch] at ht'
         ·cases hst
         ·simp only [hw] at hj
          obtain ⟨r,h',he,hs'⟩:=hj
          have := l51 he ht' (by omega)
          rw [<- hs']; exact this
         ·cases hst
        have := g89 hS (show m+1<=i by omega) (by omega) (by have:=b3r hS (show m<=m+1 by omega) (by omega); omega) hnone
        rw [this] at ho; cases ho
       ·rcases (hD.pairs m i y x (by omega) hy hx).2 with h|h|h3
        ·exact absurd (.inl h) hlo
        ·exact absurd (.inr h) hlo
        simp only [b5j,Bool.and_eq_true,Bool.or_eq_true] at h3
        rcases h3.2 with ⟨q1,_⟩|⟨q1,q2⟩
        ·exact (b7m (by unfold XOp.quiet; rw [q1,Bool.or_true]) ht).elim
        ·exact hdyn m y (by omega) hy q1 q2 (fun h=>by omega) fun _=>hlo
      ·exact hstep m id (by omega) (by omega) fun z hz ht hu=>hmt ⟨z,hz,ht,hu⟩
   rw [<- key i hli (Nat.le_refl _)]; exact ho
 have hloc:c1r O x (S i) (S (i+1)) { t:=σ.t,h:={ σ.h with nx:=(S i).h.nx } }:=by
  by_cases hw:x.op.isW=true
  ·have hh:=hheap hw
   rw [hh]
   have hx0:=hS i x hx
   have hfr0:=(b7v hx0).2
   obtain ⟨dst,guard,op⟩:=x
   cases op <;> simp only [XOp.isW,fT9] at hw
   rename_i f args
   have hwn:=g3u (s:=S i) (σ:={ t:=σ.t,h:=(S i).h }) (g:=guard) fun t b hg=>hl t (g1h hg)
   have hev:args.map (St.ev { t:=σ.t,h:=(S i).h })=args.map (S i).ev:=List.map_congr_left fun y hy=>c6y fun t ht=>hl t (c7q (ht.imp (fun e=>by rw [<- e]; exact hy) fun e=>by rw [<- e]; exact hy))
   unfold wpOp at hx0
   simp only at hx0
   split at hx0
   ·exact hx0.elim
   ·rename_i hg
    refine ⟨({ t:=σ.t,h:=(S i).h }:St).put dst (.v (.tuple #[])),.v (.tuple #[]),?_,by rw [<- hx0],rfl,?_,fun id _=>?_,?_⟩
    ·unfold wpOp
     simp only
     rw [hwn,hg]
     trivial
    ·rw [<- hx0]; cases dst <;> rfl
    ·rw [<- hx0]; cases dst <;> rfl
    ·have := hfr0
     rw [<- hx0] at this
     cases dst <;> exact this
   ·rename_i hg
    obtain ⟨r,h',k1,k2,k3⟩:=hx0
    refine ⟨{ t:=((({ t:=σ.t,h:=(S i).h }:St)).put dst r).t,h:=h' },r,?_,by rw [<- k3],rfl,by rw [<- k3],fun id _=>by rw [<- k3],?_⟩
    ·unfold wpOp
     simp only
     rw [hwn,hg]
     exact ⟨r,h',by rw [hev]; exact k1,k2,rfl⟩
    ·rw [<- k3] at hfr0; exact hfr0
  ·exact l7l (σ:={ t:=σ.t,h:={ σ.h with nx:=(S i).h.nx } }) (hS i x hx) (fun f l e=>hw (by rw [e]; rfl)) hl rfl (U:=U) hU hUv hUd hUf hUg hUc
     (fun hacc hwt y hy id hid o ho=>by
      have hys:∃ n,y = .t n:=by
       cases y with
       | t n=>exact ⟨n,rfl⟩
       | tf n=>simp only [St.ev] at hid; cases hv:σ.t n <;> rw [hv] at hid <;> cases hid
       | c v=>cases hid
       | f n=>cases hid
       | g i cs=>cases hid
      obtain ⟨n,rfl⟩:=hys
      have hu:σ.h.us id:=hUr (σ.t n) (hU n) id hid
      refine hext hacc id hu ?_ o ho
      cases hlo:x.op.look with
      | false=>exact .inl rfl
      | true =>
       refine .inr ⟨hwt,?_⟩
       have hevn:σ.ev (.t n)=(S i).ev (.t n):=c6y fun t ht=>hl t (c7q (ht.imp (fun e=>by rw [<- e]; exact hy) fun e=>by rw [<- e]; exact hy))
       have hid2:E65 ((S i).ev (.t n))=some id:=by rw [<- hevn]; exact hid
       exact j7t (hS i x hx) hwt hlo hy hid2)
     (fun hacc hlk y hy z hz=>by
      have := hUz (S i).h (fun id hu o ho=>hext hacc id hu (.inl hlk) o ho) y hy z hz
      exact Fz.heap (h:=σ.h) (g:={ σ.h with nx:=(S i).h.nx }) (fun _=>rfl) this)
 obtain ⟨σ',r,h1,h2,h3,h4,h5,h6⟩:=hloc
 have hnx:=(d6r hS hfr hi).nx
 have hrange:∀ k,(S i).h.nx<=k->k<(S (i+1)).h.nx->¬ σ.h.us k:=fun k hk1 hk2 hus=>by
  rcases (hE.us k).1 hus with h|⟨j,hj,hj1,hj2⟩
  ·have := b3r hS (show 0<=i by omega) (by omega)
   exact htop k (by omega) h
  ·have hjn:=hDn j hj
   rcases Nat.lt_trichotomy j i with h|h|h
   ·have := b3r hS (show j+1<=i by omega) (by omega); omega
   ·exact hni (h ▸ hj)
   ·have := b3r hS (show i+1<=j by omega) (by omega); omega
 have hus':∀ id,σ'.h.us id ↔ σ.h.us id\/((S i).h.nx<=id/\id<(S (i+1)).h.nx):=fun id=>by rw [h6.us,h4]
 have hTi:∀ id,Tch xs S i id ↔ (x.touch (S i) id/\(S i).h.us id):=fun id=>⟨fun ⟨y,hy,ht,hu⟩=>by rw [hx] at hy; cases hy; exact ⟨ht,hu⟩,fun ht=>⟨x,hx,ht.1,ht.2⟩⟩
 have htus:∀ id,x.touch (S i) id->(S i).h.us id->σ.h.us id:=fun id ht hsu=>by
  by_cases hw:x.op.isW=true
  ·exact (husW hw id).2 hsu
  have hev:∀ y∈x.op.xs,σ.ev y=(S i).ev y:=fun y hy=>c6y fun t ht=>hl t (c7q (ht.imp (fun e=>by rw [<- e]; exact hy) fun e=>by rw [<- e]; exact hy))
  obtain ⟨xd,xg,xop⟩:=x
  obtain ⟨_,ht⟩:=ht
  have go:∀ y v,y∈xop.xs->(S i).ev y=v->E65 v=some id->σ.h.us id:=fun y v hy hv hr=>by
   have hvy:=hev y hy
   rw [hv] at hvy
   cases y with
   | t n=>have:σ.t n=v:=hvy
          exact hUr (σ.t n) (hU n) id (by rw [this]; exact hr)
   | tf n =>
    rw [<- hv] at hr
    simp only [St.ev] at hr
    cases h:(S i).t n <;> rw [h] at hr <;> cases hr
   | c w=>rw [<- hv] at hr; cases hr
   | f n=>rw [<- hv] at hr; cases hr
   | g i cs=>rw [<- hv] at hr; cases hr
  cases xop <;> simp only [XOp.touch] at ht
  case callw=>exact absurd rfl hw
  ·obtain ⟨a,b,ht⟩:=ht; exact go _ _ (by simp [XOp.xs]) ht rfl
  ·obtain ⟨a,b,ht⟩:=ht; exact go _ _ (by simp [XOp.xs]) ht rfl
 refine ⟨σ',h1,⟨fun k y d hk hy hd=>?_,fun d hd=>?_,fun id=>?_,fun id hus=>?_,fun j id hj ht=>?_⟩,fun k hk1 hk2=>hrange k hk1 (by rw [<- h4]; exact hk2),fun hw k hk hu=>by
  have := b8b hS htop (show i<=xs.length by omega) ((husW hw k).1 hu)
  omega⟩
 ·rcases hk with hk|rfl
  ·have hne:k≠i:=fun e=>hni (e ▸ hk)
   have hdne:x.dst≠some d:=by
    rcases Nat.lt_or_gt_of_ne hne with h|h
    ·exact (hD.pairs k i y x h hy hx).1 d hd
    ·intro hh; exact (hD.pairs i k x y h hx hy).1 d hh hd
   rw [h3,g13 hdne]; exact hE.t1 k y d hk hy hd
  ·rw [hx] at hy; cases hy
   rw [h3,h2,hd,d7s,d7s]
 ·rw [h3,g13 (hd i x (.inr rfl) hx)]
  exact hE.t2 d fun k y hk=>hd k y (.inl hk)
 ·rw [hus',hE.us]
  constructor
  ·rintro ((h|⟨j,hj,hh⟩)|h)
   ·exact .inl h
   ·exact .inr ⟨j,.inl hj,hh⟩
   ·exact .inr ⟨i,.inr rfl,h⟩
  ·rintro (h|⟨j,hj|rfl,hh⟩)
   ·exact .inl (.inl h)
   ·exact .inl (.inr ⟨j,hj,hh⟩)
   ·exact .inr hh
 ·by_cases hti:Tch xs S i id
  ·obtain ⟨ht0,hsu⟩:=(hTi id).1 hti
   refine ⟨i+1,by omega,.inr ⟨i,rfl,.inr rfl,.inl hti⟩,?_,h5 id (.inl ht0),fun j hj hDj ht=>?_⟩
   ·exact ((b9q hS hi).us id).2 (.inl hsu)
   ·have hDj':D j:=hDj.resolve_right (by omega)
    obtain ⟨y,hy,ht,_⟩:=ht
    have h7:=late j y id hDj' (by omega) hy ht (g3m ht0.2) (.inl (by
     cases hlo:x.op.look with
     | false=>rfl
     | true=>exact (b7m (by unfold XOp.quiet; rw [hlo,Bool.or_true]) ht0).elim))
    have := b8b hS htop (show i<=xs.length by omega) hsu
    omega
  ·by_cases hnew:(S i).h.nx<=id/\id<(S (i+1)).h.nx
   ·refine ⟨i+1,by omega,.inr ⟨i,rfl,.inr rfl,.inr hnew⟩,((b9q hS hi).us id).2 (.inr hnew),h5 id (.inr hnew),fun j hj hDj ht=>?_⟩
    have hDj':D j:=hDj.resolve_right (by omega)
    exact hrange id hnew.1 hnew.2 (hE.tu j id hDj' ht)
   ·have hold:σ.h.us id:=((hus' id).1 hus).resolve_right hnew
    obtain ⟨l,hl1,hl2,hl3,hl4,hl5⟩:=hE.ob id hold
    have hnt:¬ x.touch (S i) id:=fun ht=>by
     by_cases hw:x.op.isW=true
     ·exact hti ((hTi id).2 ⟨ht,(husW hw id).1 hold⟩)
     ·have hsu:(S i).h.us id:=by
       by_cases h:(S i).h.us id
       ·exact h
       ·have h0:=c2a hS hfr (show i<=xs.length by omega) h
        have hx0:=hS i x hx
        obtain ⟨dst,guard,op⟩:=x
        obtain ⟨hg,ht⟩:=ht
        simp only at hg ht
        unfold wpOp at hx0
        cases op <;> simp only [XOp.touch] at ht
        case callw=>exact absurd rfl hw
        all_goals
         simp only at hx0; simp only [hg] at hx0
         obtain ⟨r,h,he,_⟩:=hx0
         exact absurd h0 (g3p he ht)
      exact hti ((hTi id).2 ⟨ht,hsu⟩)
    refine ⟨l,hl1,hl2.imp (fun h=>h) fun ⟨k,q1,q2,q3⟩=>⟨k,q1,.inl q2,q3⟩,hl3,?_,fun j hj hDj ht=>?_⟩
    ·have := h6.ob id hnt (by rw [h4]; exact hnew)
     rw [this]; exact hl4
    ·rcases hDj with hDj|rfl
     ·exact hl5 j hj hDj ht
     ·exact hti ht
 ·rcases hj with hj|rfl
  ·exact (hus' id).2 (.inl (hE.tu j id hj ht))
  ·exact (hus' id).2 (.inl (htus id ((hTi id).1 ht).1 ((hTi id).1 ht).2))
theorem ED.start:ED xs S (fun _=>False) (S 0) :=
 ⟨fun _ _ _ h=>h.elim,fun _ _=>rfl,fun id=>⟨.inl,fun h=>h.elim (fun h=>h) fun ⟨_,h,_⟩=>h.elim⟩,fun id hus=>⟨0,Nat.zero_le _,.inl rfl,hus,rfl,fun _ _ h=>h.elim⟩,fun _ _ h=>h.elim⟩
include hS hD htop hfr in
theorem ED.done {D:Nat->Prop} {σ:St} (hE:ED xs S D σ) (hall:∀ j,j<xs.length->D j) (hDn:∀ j,D j->j<xs.length) (hσ:∀ id,¬ σ.h.us id->σ.h.ob id=none) :
  σ.t = (S xs.length).t/\(∀ id,σ.h.ob id=(S xs.length).h.ob id)/\∀ id,σ.h.us id ↔ (S xs.length).h.us id:=by
 obtain ⟨s1,s2⟩:=d1e hS hD (Nat.le_refl xs.length)
 have hus:∀ id,σ.h.us id ↔ (S xs.length).h.us id:=fun id=>by
  rw [hE.us,d1f hS (Nat.le_refl _)]
  constructor
  ·rintro (h|⟨j,hj,h1,h2⟩)
   ·exact .inl h
   ·have hjn:=hDn j hj
    have := b3r hS (show 0<=j by omega) (by omega)
    have := b3r hS (show j+1<=xs.length by omega) (Nat.le_refl _)
    exact .inr (by omega)
  ·rintro (h|h)
   ·exact .inl h
   ·have : ∀ m,m<=xs.length->id<(S m).h.nx->∃ j,j<m/\(S j).h.nx<=id/\id<(S (j+1)).h.nx:=by
     intro m
     induction m with
     | zero=>intro _ h1; omega
     | succ m ih =>
      intro hm h1
      by_cases h2:id<(S m).h.nx
      ·obtain ⟨j,a,b⟩:=ih (by omega) h2; exact ⟨j,by omega,b⟩
      ·exact ⟨m,by omega,by omega,h1⟩
    obtain ⟨j,a,b⟩:=this _ (Nat.le_refl _) h.2
    exact .inr ⟨j,hall j a,b⟩
 refine ⟨funext fun d=>?_,fun id=>?_,hus⟩
 ·by_cases hw:∃ (k:Nat) (y:XO),xs[k]?=some y/\y.dst=some d
  ·obtain ⟨k,y,hy,hd⟩:=hw
   have hk:k<xs.length:=(gS9.1 hy).1
   rw [hE.t1 k y d (hall k hk) hy hd,s1 k y d hk hy hd]
  ·rw [hE.t2 d fun k y _ hy hd=>hw ⟨k,y,hy,hd⟩,s2 d fun k y _ hy hd=>hw ⟨k,y,hy,hd⟩]
 ·by_cases h:σ.h.us id
  ·obtain ⟨l,hl1,_,hl3,hl4,hl5⟩:=hE.ob id h
   rw [hl4,d1d hS hfr hl1 (Nat.le_refl _) (b8b hS htop hl1 hl3) fun k h1 h2=>hl5 k h1 (hall k h2)]
  ·rw [hσ id h,c2a hS hfr (Nat.le_refl _) (fun hh=>h ((hus id).2 hh))]
end
end Go.Nw
