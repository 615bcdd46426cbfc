/- The abstract machine alone: what an operation leaves as it is, and how it answers in another heap. -/
import Derived.Test.YtojneiildpnpiaaNwComp
set_option linter.all false
namespace Go.Nw
theorem c5b {O:Orac} {o:XO} {s:St} {K:St->Prop} (h:wpOp O o s K):∃ s',wpOp O o s (·=s')/\K s':=by
 obtain ⟨dst,guard,op⟩:=o
 unfold wpOp at *
 cases op
 case callw f args =>
  simp only at *
  split at h
  ·exact h.elim
  ·exact ⟨_,rfl,h⟩
  ·obtain ⟨r,h',h1,h2,h3⟩:=h
   exact ⟨_,⟨r,h',h1,h2,rfl⟩,h3⟩
 all_goals
  simp only at *
  split at h
  ·exact h.elim
  ·exact ⟨_,rfl,h⟩
  ·first
    | (obtain ⟨r,h',h1,h2⟩:=h; exact ⟨_,⟨r,h',h1,rfl⟩,h2⟩)
    | (obtain ⟨n,a,b,h1,r,h',h2,h3⟩:=h; exact ⟨_,⟨n,a,b,h1,r,h',h2,rfl⟩,h3⟩)
    | (obtain ⟨h1,h2⟩:=h; exact ⟨_,⟨h1,rfl⟩,h2⟩)
theorem c9r {O:Orac} {o:XO} {s:St} {K:St->Prop} {s':St} (h:wpOp O o s (·=s')) (hk:K s'):wpOp O o s K:=by
 obtain ⟨dst,guard,op⟩:=o
 unfold wpOp at *
 cases op
 case callw f args =>
  simp only at *
  split at h
  ·exact h.elim
  ·subst h; exact hk
  ·obtain ⟨r,h',h1,h2,rfl⟩:=h
   exact ⟨r,h',h1,h2,hk⟩
 all_goals
  simp only at *
  split at h
  ·exact h.elim
  ·subst h; exact hk
  ·first
    | (obtain ⟨r,h',h1,rfl⟩:=h; exact ⟨r,h',h1,hk⟩)
    | (obtain ⟨n,a,b,h1,r,h',h2,rfl⟩:=h; exact ⟨n,a,b,h1,r,h',h2,hk⟩)
    | (obtain ⟨h1,rfl⟩:=h; exact ⟨h1,hk⟩)
def XOp.special:XOp->Bool
 | .call .. | .callv .. | .boxF _ | .callw ..=>true
 | _=>false
def XOp.touch (op:XOp) (ev:X->AV) (id:Nat):Prop :=
 match op with
 | .store _ a _=>∃ i off,ev a = .rp id i off
 | .app _ _ s _=>∃ lo len,ev s = .rs id lo len
 | .callw ..=>True
 | _=>False
theorem Fr.refl (T:Nat->Prop) (h:Heap):Fr T h h:=⟨Nat.le_refl _,fun id=>⟨.inl,fun hh=>hh.elim (fun h=>h) fun hh=>by omega⟩,fun _ _ _=>rfl,fun _ _ h=>h⟩
theorem Fr.new (T:Nat->Prop) (h:Heap) (o:Ob):Fr T h (h.new o) :=
 ⟨Nat.le_succ _,fun id=>by
  simp only [Heap.new]
  constructor
  ·rintro (hh|hh)
   ·exact .inr (by omega)
   ·exact .inl hh
  ·rintro (hh|hh)
   ·exact .inr hh
   ·exact .inl (by omega),fun id _ hh=>by
  have : id≠h.nx:=fun e=>hh (by simp only [Heap.new]; omega)
  simp [Heap.new,this],fun id hh hn=>by
  have : id≠h.nx:=fun e=>hh (by simp only [Heap.new]; omega)
  simp [Heap.new,this,hn]⟩
theorem Fr.upd {T:Nat->Prop} (h:Heap) (id:Nat) (o:Option Ob) (hT:T id) (hs:o≠none->h.ob id≠none):Fr T h (h.upd id o) :=
 ⟨Nat.le_refl _,fun i=>⟨.inl,fun hh=>hh.elim (fun h=>h) fun hh=>by simp only [Heap.upd] at hh; omega⟩,fun i hi _=>by
  have : i≠id:=fun e=>hi (e ▸ hT)
  simp [Heap.upd,this],fun i _ hn=>by
  by_cases e:i=id
  ·subst e
   cases o with
   | none=>simp [Heap.upd]
   | some o=>exact absurd hn (hs (by simp))
  ·simp [Heap.upd,e,hn]⟩
theorem Fr.trans {T:Nat->Prop} {h h' h'':Heap} (a:Fr T h h') (b:Fr T h' h''):Fr T h h'' :=
 ⟨Nat.le_trans a.nx b.nx,fun id=>by
  rw [b.us,a.us]
  have := a.nx; have:=b.nx
  constructor
  ·rintro ((hh|hh)|hh)
   ·exact .inl hh
   ·exact .inr (by omega)
   ·exact .inr (by omega)
  ·rintro (hh|hh)
   ·exact .inl (.inl hh)
   ·by_cases e:id<h'.nx
    ·exact .inl (.inr (by omega))
    ·exact .inr (by omega),fun id h1 h2=>by
  have := a.nx; have:=b.nx
  rw [b.ob id h1 (by omega),a.ob id h1 (by omega)],fun id h1 h2=>by
  have := a.nx; have:=b.nx
  exact b.no id (by omega) (a.no id (by omega) h2)⟩
theorem Fr.join (T:Nat->Prop):∀ (frag:b3z) (h:Heap),Fr T h (h.join frag)
 | [],h=>.refl T h
 | o :: frag,h=>(Fr.new T h o).trans (Fr.join T frag (h.new o))
theorem d6n {O:Orac} {f:String} {as:List AV} {h h':Heap} {r:AV} (T:Nat->Prop) (hk:b9o O f as h r h'):Fr T h h':=by
 obtain ⟨as',r,frag,frag',_,_,_,_,_,_,rfl⟩:=hk
 exact .join T frag' h
theorem d7r {op:XOp} {ev:X->AV} {h h':Heap} {r:AV} (he:eff op ev h=some (r,h')):Fr (op.touch ev) h h':=by
 cases op <;> simp only [eff] at he
 case store n a x =>
  split at he
  ·rename_i id i off ha
   simp only [bE9] at he
   obtain ⟨o,ho,cs,hcs,he⟩:=he
   split at he
   ·cases he; exact .upd _ _ _ ⟨i,off,ha⟩ (fun _=>by rw [ho]; simp)
   ·cases he
  ·cases he
 case app sz bytes s x =>
  split at he
  ·simp only [bE9] at he
   obtain ⟨o2,ho2,he⟩:=he
   split at he
   ·split at he
    ·cases he; exact .refl _ _
    ·split at he
     ·cases he; exact .new _ _ _
     ·cases he
   ·rename_i id lo len hs
    simp only [bE9] at he
    obtain ⟨o,ho,he⟩:=he
    split at he
    ·cases he; exact (Fr.upd _ _ _ ⟨lo,len,hs⟩ (fun h=>absurd rfl h)).trans (.new _ _ _)
    ·cases he
   ·cases he
  ·split at he
   ·split at he
    ·cases he; exact .refl _ _
    ·split at he
     ·cases he; exact .new _ _ _
     ·cases he
   ·rename_i id lo len hs
    simp only [bE9] at he
    obtain ⟨o,ho,he⟩:=he
    split at he
    ·cases he; exact (Fr.upd _ _ _ ⟨lo,len,hs⟩ (fun h=>absurd rfl h)).trans (.new _ _ _)
    ·cases he
   ·cases he
  ·split at he
   ·cases he; exact .refl _ _
   ·rename_i id lo len hs
    simp only [bE9] at he
    obtain ⟨o,ho,he⟩:=he
    split at he
    ·cases he; exact (Fr.upd _ _ _ ⟨lo,len,hs⟩ (fun h=>absurd rfl h)).trans (.new _ _ _)
    ·cases he
   ·cases he
  ·cases he
 all_goals
  repeat' first
   | (cases he; done)
   | (cases he; first|exact .refl _ _|exact .new _ _ _)
   | (obtain ⟨_,_,he⟩:=he)
   | (simp only [bE9,mE9] at he; obtain ⟨_,_,he⟩:=he)
   | (split at he)
theorem j0i {op:XOp} {ev ev':X->AV} {h:Heap} (hx:∀ x∈op.xs,ev x=ev' x):eff op ev h=eff op ev' h:=by
 cases op <;> simp only [XOp.xs,List.mem_cons,List.mem_nil_iff,or_false,List.mem_append,List.mem_map,Option.mem_toList,forall_eq_or_imp,forall_eq] at hx <;>
  first
   | rfl
   | (simp only [eff,hx]; done)
   | skip
 case build zs parts =>
  have : (parts.map fun p=>(p.1,p.2.1,ev p.2.2))=parts.map fun p=>(p.1,p.2.1,ev' p.2.2):=List.map_congr_left fun p hp=>by rw [hx p.2.2 ⟨p,hp,rfl⟩]
  simp only [eff,this]
 case bsl sz parts=>simp only [eff,List.map_congr_left hx]
 case bslF sz parts=>simp only [eff,List.map_congr_left hx]
 case mkfn f a b=>simp only [eff,List.map_congr_left fun x h=>hx x (.inl h),List.map_congr_left fun x h=>hx x (.inr h)]
 case min xs=>simp only [eff,List.map_congr_left hx]
 case max xs=>simp only [eff,List.map_congr_left hx]
 case slc sz x lo hi =>
  have h1:lo.map ev=lo.map ev':=by cases lo <;> simp_all
  have h2:hi.map ev=hi.map ev':=by cases hi <;> simp_all
  have h3:ev x=ev' x:=by simp_all
  simp only [eff,h1,h2,h3]
theorem j0j {op:XOp} {ev:X->AV} {h h' g:Heap} {r:AV} (he:eff op ev h=some (r,h')) (hn:g.nx=h.nx)
  (hq : ∀ n,E65 (ev (.tf n))=none) (ha:op.acc=true->∀ x∈op.xs,∀ id,E65 (ev x)=some id->∀ o,h.ob id=some o->g.ob id=some o) :
  ∃ g',eff op ev g=some (r,g')/\g'.nx=h'.nx/\∀ id,op.touch ev id\/(h.nx<=id/\id<h'.nx)->g'.ob id=h'.ob id:=by
 have same:∀ {r:AV},(∀ id,op.touch ev id->False)->eff op ev g=some (r,g)->∃ g',eff op ev g=some (r,g')/\g'.nx=h.nx/\∀ id,op.touch ev id\/(h.nx<=id/\id<h.nx)->g'.ob id=h.ob id :=
  fun ht hh=>⟨g,hh,hn,fun id hid=>hid.elim (fun h=>(ht id h).elim) fun h=>by omega⟩
 have new:∀ {r:AV} (o:Ob),(∀ id,op.touch ev id->False)->eff op ev g=some (r,g.new o)->∃ g',eff op ev g=some (r,g')/\g'.nx=(h.new o).nx/\∀ id,op.touch ev id\/(h.nx<=id/\id<(h.new o).nx)->g'.ob id=(h.new o).ob id :=
  fun o ht hh=>⟨g.new o,hh,by simp [Heap.new,hn],fun id hid=>hid.elim (fun h=>(ht id h).elim) fun h=>by
   have e:id=_:=Nat.le_antisymm (Nat.le_of_lt_succ h.2) h.1
   subst e
   simp [Heap.new,hn]⟩
 have nf:∀ {x:X} {id:Nat},E65 (ev x)=some id->(!x.fz)=true:=fun {x id} h=>by
  cases x <;> first|rfl|(rw [hq] at h; cases h)
 cases op
 case store n a x =>
  simp only [eff] at he
  split at he
  ·rename_i id i off hra
   simp only [bE9] at he
   obtain ⟨o,ho,cs,hcs,he⟩:=he
   split at he
   ·rename_i hc
    cases he
    have hg:=ha rfl a (by simp [XOp.xs]) id (by rw [hra]; rfl) o ho
    refine ⟨g.upd id (some (o.1,o.2.set i (cs.take off++cellsOf (ev x)++cs.drop (off+n)))),?_,by simp [Heap.upd,hn],fun k hk=>?_⟩
    ·simp only [eff,hra,hg,bS9,hcs,hc,and_self,if_true]
    ·rcases hk with ⟨i',off',hk⟩|hk
     ·rw [hra] at hk; cases hk; simp [Heap.upd]
     ·simp [Heap.upd] at hk; omega
   ·cases he
  ·cases he
 case app sz bytes s x =>
  simp only [eff] at he
  split at he
  ·rename_i id2 lo2 len2 hx
   simp only [bE9] at he
   obtain ⟨o2,ho2,he⟩:=he
   have hg2:=ha rfl x (by simp [XOp.xs]) id2 (by rw [hx]; rfl) o2 ho2
   split at he
   ·rename_i hs
    have ht:∀ id,(XOp.app sz bytes s x).touch ev id->False:=fun id ⟨lo,len,h⟩=>by rw [hs] at h; cases h
    split at he
    ·rename_i h0; cases he; exact same ht (by simp [eff,hx,hs,hg2,h0])
    ·rename_i h0
     split at he
     ·rename_i h1; cases he; exact new _ ht (by simp [eff,hx,hs,hg2,h0,h1,hn])
     ·cases he
   ·rename_i id lo len hs
    simp only [bE9] at he
    obtain ⟨o,ho,he⟩:=he
    have hg:=ha rfl s (by simp [XOp.xs]) id (by rw [hs]; rfl) o ho
    split at he
    ·rename_i h1
     cases he
     refine ⟨(g.upd id none).new (sz,(o.2.drop lo).take len++(o2.2.drop lo2).take len2),by simp [eff,hx,hs,hg,hg2,h1,hn],by simp [Heap.new,Heap.upd,hn],fun k hk=>?_⟩
     simp only [Heap.new,Heap.upd,hn]
     rcases hk with ⟨lo',len',hk⟩|hk
     ·rw [hs] at hk; cases hk; simp
     ·simp only [Heap.new,Heap.upd] at hk
      have e:k=h.nx:=by omega
      simp [e]
    ·cases he
   ·cases he
  ·rename_i sz2 es hx
   split at he
   ·rename_i hs
    have ht:∀ id,(XOp.app sz bytes s x).touch ev id->False:=fun id ⟨lo,len,h⟩=>by rw [hs] at h; cases h
    split at he
    ·rename_i h0; cases he; exact same ht (by simp [eff,hx,hs,h0])
    ·rename_i h0
     split at he
     ·rename_i h1; cases he; exact new _ ht (by simp [eff,hx,hs,h0,h1,hn])
     ·cases he
   ·rename_i id lo len hs
    simp only [bE9] at he
    obtain ⟨o,ho,he⟩:=he
    have hg:=ha rfl s (by simp [XOp.xs]) id (by rw [hs]; rfl) o ho
    split at he
    ·rename_i h1
     cases he
     refine ⟨(g.upd id none).new (sz,(o.2.drop lo).take len++es),by simp [eff,hx,hs,hg,h1,hn],by simp [Heap.new,Heap.upd,hn],fun k hk=>?_⟩
     simp only [Heap.new,Heap.upd,hn]
     rcases hk with ⟨lo',len',hk⟩|hk
     ·rw [hs] at hk; cases hk; simp
     ·simp only [Heap.new,Heap.upd] at hk
      have e:k=h.nx:=by omega
      simp [e]
    ·cases he
   ·cases he
  ·rename_i hx
   split at he
   ·rename_i hs
    have ht:∀ id,(XOp.app sz bytes s x).touch ev id->False:=fun id ⟨lo,len,h⟩=>by rw [hs] at h; cases h
    cases he; exact same ht (by simp [eff,hx,hs])
   ·rename_i id lo len hs
    simp only [bE9] at he
    obtain ⟨o,ho,he⟩:=he
    have hg:=ha rfl s (by simp [XOp.xs]) id (by rw [hs]; rfl) o ho
    split at he
    ·rename_i h1
     cases he
     refine ⟨(g.upd id none).new (sz,(o.2.drop lo).take len),by simp [eff,hx,hs,hg,h1,hn],by simp [Heap.new,Heap.upd,hn],fun k hk=>?_⟩
     simp only [Heap.new,Heap.upd,hn]
     rcases hk with ⟨lo',len',hk⟩|hk
     ·rw [hs] at hk; cases hk; simp
     ·simp only [Heap.new,Heap.upd] at hk
      have e:k=h.nx:=by omega
      simp [e]
    ·cases he
   ·cases he
  ·cases he
 case load agg n a =>
  have h0:=he
  simp only [eff] at he
  split at he
  ·rename_i cs off hra
   repeat' first
    | (cases he; done)
    | (cases he; exact same (fun _ h=>h) (by simp [eff, *]))
    | (obtain ⟨_,_,he⟩:=he)
    | (simp only [bE9,mE9] at he; obtain ⟨_,_,he⟩:=he)
    | (split at he)
  ·rename_i id i off hra
   simp only [bE9] at he
   obtain ⟨o,ho,he⟩:=he
   have hg:=ha (nf (id:=id) (by rw [hra]; rfl)) a (by simp [XOp.xs]) id (by rw [hra]; rfl) o ho
   repeat' first
    | (cases he; done)
    | (cases he; exact same (fun _ h=>h) (by simp [eff, *]))
    | (obtain ⟨_,_,he⟩:=he)
    | (simp only [bE9,mE9] at he; obtain ⟨_,_,he⟩:=he)
    | (split at he)
  ·cases he
 case nilck x =>
  simp only [eff] at he
  split at he
  ·cases he; exact same (fun _ h=>h) (by simp [eff, *])
  ·rename_i id i off hra
   simp only [bE9] at he
   obtain ⟨o,ho,he⟩:=he
   have hg:=ha (nf (id:=id) (by rw [hra]; rfl)) x (by simp [XOp.xs]) id (by rw [hra]; rfl) o ho
   cases he; exact same (fun _ h=>h) (by simp [eff, *])
  ·cases he; exact same (fun _ h=>h) (by simp [eff, *])
  ·cases he
 case fldA off x =>
  simp only [eff] at he
  split at he
  ·cases he; exact same (fun _ h=>h) (by simp [eff, *])
  ·rename_i id i o hra
   simp only [bE9] at he
   obtain ⟨o,ho,he⟩:=he
   have hg:=ha (nf (id:=id) (by rw [hra]; rfl)) x (by simp [XOp.xs]) id (by rw [hra]; rfl) o ho
   cases he; exact same (fun _ h=>h) (by simp [eff, *])
  ·cases he
 case ixA n x i =>
  simp only [eff] at he
  split at he
  ·repeat' first
    | (cases he; done)
    | (cases he; exact same (fun _ h=>h) (by simp [eff, *]))
    | (obtain ⟨_,_,he⟩:=he)
    | (simp only [bE9,mE9] at he; obtain ⟨_,_,he⟩:=he)
    | (split at he)
  ·rename_i id lo len kd k hra hi
   simp only [bE9] at he
   obtain ⟨o,ho,he⟩:=he
   have hg:=ha (nf (id:=id) (by rw [hra]; rfl)) x (by simp [XOp.xs]) id (by rw [hra]; rfl) o ho
   split at he
   ·cases he; exact same (fun _ h=>h) (by simp [eff, *])
   ·cases he
  ·cases he
 case ixP sz len x i =>
  simp only [eff] at he
  split at he
  ·split at he
   ·cases he; exact same (fun _ h=>h) (by simp [eff, *])
   ·cases he
  ·rename_i id k off kd n hra hi
   simp only [bE9] at he
   obtain ⟨o,ho,he⟩:=he
   have hg:=ha rfl x (by simp [XOp.xs]) id (by rw [hra]; rfl) o ho
   split at he
   ·cases he; exact same (fun _ h=>h) (by simp [eff, *])
   ·cases he
  ·cases he
 case slc n x lo hi =>
  simp only [eff,bE9] at he
  obtain ⟨len,hlen,l,hl,r',hr',he⟩:=he
  split at he
  ·rename_i hle
   split at he
   ·split at he
    ·cases he; exact same (fun _ h=>h) (by simp only [eff,hlen,hl,hr',bS9,hle,if_true]; simp [*])
    ·cases he
   ·rename_i id lo' len' hra
    simp only [bE9] at he
    obtain ⟨o,ho,he⟩:=he
    have hg:=ha rfl x (by simp [XOp.xs]) id (by rw [hra]; rfl) o ho
    split at he
    ·cases he; exact same (fun _ h=>h) (by simp only [eff,hlen,hl,hr',bS9,hle,if_true]; simp [*])
    ·cases he
   ·rename_i hra
    rw [hra] at hlen
    cases he; exact same (fun _ h=>h) (by simp only [eff,hra,hlen,hl,hr',bS9,hle,if_true])
   ·cases he
  ·cases he
 case mksl sz zs bytes len cap =>
  simp only [eff] at he
  split at he
  ·rename_i k n k' c h1 h2
   split at he
   ·rename_i hc
    cases he; exact new _ (fun _ h=>h) (by simp only [eff,h1,h2,if_pos hc,hn])
   ·cases he
  ·cases he
 all_goals
  simp only [eff] at he
  repeat' first
   | (cases he; done)
   | (cases he; exact same (fun _ h=>h) (by simp [eff, *]))
   | (cases he; exact new _ (fun _ h=>h) (by simp [eff, *]))
   | (obtain ⟨_,_,he⟩:=he)
   | (simp only [bE9,mE9] at he; obtain ⟨_,_,he⟩:=he)
   | (split at he)
def XO.touch (o:XO) (s:St) (id:Nat):Prop:=b2y s o.guard=some true/\o.op.touch s.ev id
theorem b7v {O:Orac} {o:XO} {s s':St} (h:wpOp O o s (·=s')):(∃ r,s'.t=(s.put o.dst r).t)/\Fr (o.touch s) s.h s'.h:=by
 obtain ⟨dst,guard,op⟩:=o
 have skip:s.put dst (.v (.tuple #[]))=s'->(∃ r,s'.t=(s.put dst r).t)/\Fr (XO.touch ⟨dst,guard,op⟩ s) s.h s'.h:=by
  rintro rfl
  exact ⟨⟨_,rfl⟩,by cases dst <;> exact .refl _ _⟩
 have run:b2y s guard=some true->∀ r h',Fr (op.touch s.ev) s.h h'->({ t:=(s.put dst r).t,h:=h' }:St)=s'->(∃ r,s'.t=(s.put dst r).t)/\Fr (XO.touch ⟨dst,guard,op⟩ s) s.h s'.h:=by
  rintro hw r h' hf rfl
  exact ⟨⟨r,rfl⟩,hf.nx,hf.us,fun id h1 h2=>hf.ob id (fun ht=>h1 ⟨hw,ht⟩) h2,hf.no⟩
 unfold wpOp at h
 cases op
 case callw f args =>
  simp only at h
  split at h
  ·exact h.elim
  ·exact skip h
  ·rename_i hw
   obtain ⟨r,h',h1,h2,h3⟩:=h
   exact run hw r h' h2 h3
 all_goals
  simp only at h
  split at h
  ·exact h.elim
  ·exact skip h
  ·rename_i hw
   first
    | (obtain ⟨r,h',h1,h2⟩:=h; exact run hw r h' (d7r h1) h2)
    | (obtain ⟨r,h',h1,h2⟩:=h; exact run hw r h' (d6n _ h1) h2)
    | (obtain ⟨n,a,b,h1,r,h',h2,h3⟩:=h; exact run hw r h' (d6n _ h2) h3)
    | (obtain ⟨h1,h2⟩:=h; exact run hw _ s.h (.refl _ _) h2)
theorem g3p {op:XOp} {ev:X->AV} {h h':Heap} {r:AV} (he:eff op ev h=some (r,h')) {id:Nat} (ht:op.touch ev id):h.ob id≠none:=by
 cases op <;> simp only [XOp.touch] at ht
 case callw=>simp [eff] at he
 case store n a x =>
  obtain ⟨i,off,ht⟩:=ht
  simp only [eff,ht,bE9] at he
  obtain ⟨o,ho,_⟩:=he
  rw [ho]; simp
 case app sz bytes s x =>
  obtain ⟨lo,len,ht⟩:=ht
  simp only [eff,ht] at he
  split at he
  ·simp only [bE9] at he
   obtain ⟨_,_,o,ho,_⟩:=he
   rw [ho]; simp
  ·simp only [bE9] at he
   obtain ⟨o,ho,_⟩:=he
   rw [ho]; simp
  ·simp only [bE9] at he
   obtain ⟨o,ho,_⟩:=he
   rw [ho]; simp
  ·cases he
theorem l51 {sz bytes:Nat} {s x:X} {ev:X->AV} {h h':Heap} {r:AV} (he:eff (.app sz bytes s x) ev h=some (r,h')) {id:Nat} (ht:(XOp.app sz bytes s x).touch ev id) (hid:id<h.nx):h'.ob id=none:=by
 obtain ⟨lo,len,ht⟩:=ht
 have hne:id≠h.nx:=by omega
 simp only [eff,ht] at he
 split at he
 ·simp only [bE9] at he
  obtain ⟨_,_,o,ho,he⟩:=he
  split at he
  ·cases he; simp [Heap.new,Heap.upd,hne]
  ·cases he
 ·simp only [bE9] at he
  obtain ⟨o,ho,he⟩:=he
  split at he
  ·cases he; simp [Heap.new,Heap.upd,hne]
  ·cases he
 ·simp only [bE9] at he
  obtain ⟨o,ho,he⟩:=he
  split at he
  ·cases he; simp [Heap.new,Heap.upd,hne]
  ·cases he
 ·cases he
theorem g1k {k:MK} {as:List AV} {h h':Heap} {r:AV} (he:b2i k as h=some (r,h')):Fr (fun _=>True) h h':=by
 unfold b2i at he
 split at he
 ·simp only [iE9,Prod.mk.injEq] at he
  obtain ⟨_,rfl⟩:=he
  exact .new _ _ _
 ·cases he; exact .refl _ _
 ·cases he; exact .refl _ _
 ·cases he; exact .refl _ _
 ·split at he
  ·cases he; exact .new _ _ _
  ·cases he
 ·simp only [bE9] at he
  obtain ⟨o,_,kv,_,he⟩:=he
  split at he
  ·simp only [mE9,Prod.mk.injEq] at he
   obtain ⟨_,_,_,rfl⟩:=he
   exact .refl _ _
  ·cases he
 ·simp only [bE9] at he
  obtain ⟨o,ho,kv,_,he⟩:=he
  split at he
  ·simp only [mE9,Prod.mk.injEq] at he
   obtain ⟨_,_,_,rfl⟩:=he
   exact .upd _ _ _ trivial (fun _=>by rw [ho]; simp)
  ·cases he
 ·simp only [bE9] at he
  obtain ⟨o,ho,l,_,he⟩:=he
  split at he
  ·simp only [iE9,Prod.mk.injEq] at he
   obtain ⟨_,rfl⟩:=he
   exact (Fr.upd _ _ _ trivial (fun e=>absurd rfl e)).trans (.new _ _ _)
  ·cases he
 ·simp only [bE9] at he
  obtain ⟨o,ho,rows,_,he⟩:=he
  split at he
  ·simp only [iE9,Prod.mk.injEq] at he
   obtain ⟨_,rfl⟩:=he
   exact .upd _ _ _ trivial (fun _=>by rw [ho]; simp)
  ·cases he
 ·cases he
theorem b79 {O:Orac} [MapsOk O] {f:String} {k:MK} {as:List AV} {h h':Heap} {r:AV} {K:AV->Heap->Prop} (hm:b2k f=some k) (he:b2i k as h=some (r,h')) (hK:K r h'):b6e O f as h K :=
 ⟨r,h',MapsOk.w f k as h r h' hm he,g1k he,hK⟩
end Go.Nw
