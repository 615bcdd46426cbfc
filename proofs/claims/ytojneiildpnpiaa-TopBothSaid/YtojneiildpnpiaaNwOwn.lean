/- Functions whose result is a slice of one's own; a slice that may be nil, held against nil. -/
import Derived.Test.YtojneiildpnpiaaNwHeap
set_option linter.all false
namespace Go.Nw
def c5y {α:Type} (e:α->List AV) (sz:Nat):Prop:=∀ a,(e a).length=sz/\∀ c∈e a,∃ x,c = .v x
theorem r24:c5y eI 1:=fun a=>⟨rfl,fun c hc=>⟨_,List.mem_singleton.1 hc⟩⟩
theorem r23:c5y eB 1:=fun a=>⟨rfl,fun c hc=>⟨_,List.mem_singleton.1 hc⟩⟩
structure FnW {α:Type} (O:Orac) (f:String) (as:List AV) (sz:Nat) (e:α->List AV) (l:List α):Prop where
 o : O f as (.rs 0 0 (List.length l)) [(sz,List.map e l)]
 a : ∀ a∈as,Frz a
 p : c5y e sz
theorem j04 {α:Type} {O:Orac} {f:String} {fn:XFunc} (hf:Has O f fn) {as:List AV} {sz:Nat} {e:α->List AV} {l:List α} (hl:as.length=fn.np) (hz:∀ a∈as,Frz a) (hp:c5y e sz)
  (hw : cw O fn.body (c4n fn.res (.rs 0 0 (List.length l)) [(sz,List.map e l)]) (st0 as) Heap.empty):FnW O f as sz e l:=⟨c7b hf hl hz hw,hz,hp⟩
theorem j4w {α:Type} {O:Orac} {f:String} {as as':List AV} {sz:Nat} {e:α->List AV} {l:List α} {h:Heap} {k:AV->Heap->Prop} (hz:FzL h as as') (hf:FnW O f as' sz e l)
  (hk : k (.rs h.nx 0 (List.length l)) (h.new (sz,List.map e l))):@K5x O f as h ⟨k⟩:=by
 have hcell:∀ (es:List (List AV)),es=List.map e l->∀ i j c,at2 es i j=some c->∃ x,c = .v x:=by
  rintro es rfl i j c hc
  obtain ⟨r,h1,h2⟩:=b9m hc
  obtain ⟨a,_,rfl⟩:=List.mem_map.1 (mG9 h1)
  exact (hf.p a).2 c (mG9 h2)
 refine ⟨_,_,⟨as',_,[(sz,List.map e l)],[(sz,List.map e l)],hz,hf.o,.inr ⟨.rs _ _ _,fun o ho=>?_⟩,.rs 0 (h.nx+0) 0 _ (by simp),rfl,fun k sz' es hh=>?_,rfl⟩,?_⟩
 ·have : o=(sz,List.map e l):=List.mem_singleton.1 ho
  subst this
  intro r hr c hc
  obtain ⟨a,_,rfl⟩:=List.mem_map.1 hr
  obtain ⟨x,rfl⟩:=(hf.p a).2 c hc
  exact .v x
 ·cases k with
  | zero =>
   simp only [List.getElem?_cons_zero,iE9,Prod.mk.injEq] at hh
   obtain ⟨rfl,rfl⟩:=hh
   refine ⟨_,rfl,rfl,fun r hr=>?_,fun i j c hc=>⟨c,hc,?_⟩⟩
   ·obtain ⟨a,_,rfl⟩:=List.mem_map.1 hr
    exact (hf.p a).1
   ·obtain ⟨x,rfl⟩:=hcell _ rfl i j c hc
    exact .frz _ (.v x)
  | succ k=>simp at hh
 ·exact hk
theorem g9v {α:Type} {n id sz:Nat} {e:α->List AV} {l:List α} {t:Slots} {h:Heap} (ht:t n = .rs id 0 (List.length l)) (ho:h.ob id=some (sz,List.map e l)) (hp:c5y e sz) :
  b4b [.t n] (.rs 0 0 (List.length l)) [(sz,List.map e l)] ⟨t,h⟩:=by
 refine .inr ⟨[t n],[id],rfl,rfl,by simp,?_,fun k sz' ds hh=>?_⟩
 ·show Ren _ (t n) _
  rw [ht]
  exact .rs id 0 0 _ (by simp [List.range_succ,List.find?])
 ·cases k with
  | zero =>
   simp only [List.getElem?_cons_zero,iE9,Prod.mk.injEq] at hh
   obtain ⟨rfl,rfl⟩:=hh
   refine ⟨id,List.map e l,rfl,ho,rfl,fun r hr=>?_,fun i j c hc=>⟨c,hc,?_⟩⟩
   ·obtain ⟨a,_,rfl⟩:=List.mem_map.1 hr
    exact (hp a).1
   ·obtain ⟨r,h1,h2⟩:=b9m hc
    obtain ⟨a,_,rfl⟩:=List.mem_map.1 (mG9 h1)
    obtain ⟨x,rfl⟩:=(hp a).2 c (mG9 h2)
    exact .frz _ (.v x)
  | succ k=>simp at hh
def p8x {α:Type} (e:α->List AV) (sz:Nat):Prop:=∀ a,(e a).length=sz/\∀ c∈e a,Frz c
structure FnWF {α:Type} (O:Orac) (f:String) (as:List AV) (sz:Nat) (e:α->List AV) (l:List α):Prop where
 o : O f as (.rs 0 0 (List.length l)) [(sz,List.map e l)]
 a : ∀ a∈as,Frz a
 p : p8x e sz
end Go.Nw
namespace Go.Nw
def c0d (sz len:Nat) (x i:AV) (h:Heap) [k:K2]:Prop:=∃ r h',eff (.ixP sz len (.t 0) (.t 1)) (evT fun j=>if j=0 then x else i) h=some (r,h')/\k.k r h'
theorem j4f {O:Orac} {d r K t h sz len x i}:b0d O (⟨d,none,.ixP sz len x i⟩ :: r) K t h=@iop O (.ixP sz len x i) t h ⟨fun v h'=>b0d O r K (b0l t d v) h'⟩:=b2n rfl
theorem j6g {O:Orac} {t h k sz len x i}:@iop O (.ixP sz len x i) t h ⟨k⟩=@c0d sz len (evT t x) (evT t i) h ⟨k⟩:=by
 show op1 _ _ _ _ _=_
 simp only [op1,c0d,eff,evT,if_true,Nat.one_ne_zero,if_false]
attribute [go_sem ↓] j4f j6g
end Go.Nw
