/- How the abstract machine's values and heap stand to the model's values and world. -/
import Derived.Test.YtojneiildpnpiaaNwStep
import Derived.WalkKit
set_option linter.all false
namespace Go.Nw
open Go.RowKit
abbrev Loc:=Nat->Nat × Nat
def P1d (w:World) (b:Nat):Option Nat:=match w.heap[b]? with|some (.cells c _ _)=>some c.size|_=>none
inductive SimV (P:Program) (w:World) (S:Nat->Prop) (h:Heap) (loc:Loc):AV->Value->Prop
 | v (x:Value):SimV P w S h loc (.v x) x
 | dead (x:Value):SimV P w S h loc .dead x
 | agg (cs:List AV) (vs:Array Value) (hl:vs.size=cs.length) (h1:∀ i,i<vs.size->(vs.getD i undef).oneCell'=true)
   (hc : ∀ (i:Nat) c,cs[i]?=some c->SimV P w S h loc c (vs.getD i undef)):SimV P w S h loc (.agg cs) (.agg vs)
 | tup (cs:List AV) (vs:Array Value) (hl:vs.size=cs.length)
   (hc : ∀ (i:Nat) c,cs[i]?=some c->SimV P w S h loc c (vs.getD i undef)):SimV P w S h loc (.tup cs) (.tuple vs)
 | fsNil (sz:Nat):SimV P w S h loc (.fs sz []) (.slice none 0 0)
 | fsE (sz:Nat) (a:Addr) (cap:Nat):SimV P w S h loc (.fs sz []) (.slice (some a) 0 cap)
 | fs (sz:Nat) (es:List (List AV)) (b o cap:Nat) (hcap:es.length<=cap) (hS:S b) (hsz:∀ e∈es,e.length=sz)
   (val : Nat->Nat->Value) (hc:∀ i j c,at2 es i j=some c->w.cell? ⟨b,o+i * sz+j,none⟩=some (val i j))
   (h1 : ∀ i j c,at2 es i j=some c->(val i j).oneCell'=true)
   (hv : ∀ i j c,at2 es i j=some c->SimV P w S h loc c (val i j)):SimV P w S h loc (.fs sz es) (.slice (some ⟨b,o,none⟩) es.length cap)
 | fp (cs:List AV) (off:Nat) (b o:Nat) (hS:S b)
   (val : Nat->Value) (hc:∀ j c,cs[j]?=some c->w.cell? ⟨b,o+j,none⟩=some (val j))
   (h1 : ∀ j c,cs[j]?=some c->(val j).oneCell'=true)
   (hv : ∀ j c,cs[j]?=some c->SimV P w S h loc c (val j)):SimV P w S h loc (.fp cs off) (.pointer (some ⟨b,o+off,none⟩))
 | fn (f:String) (as cs:List AV) (id:FuncId) (fn0:Func) (vs us:Array Value) (hf:P.funcs[id]?=some fn0) (hn:fn0.name=f) (hb:fn0.body.isSome=true)
   (hg : fn0.name ≠ "runtime.NumGoroutine") (hl:vs.size=as.length) (hc:∀ (i:Nat) c,as[i]?=some c->SimV P w S h loc c (vs.getD i undef))
   (hl' : us.size=cs.length) (hc':∀ (i:Nat) c,cs[i]?=some c->SimV P w S h loc c (us.getD i undef)):SimV P w S h loc (.fn f as cs) (.func (.func id) vs us)
 | rs (id lo len:Nat) (x:Value) (hid:h.us id) (hs:∃ a c,x = .slice (some a) len c)
   (hx : ∀ sz es,h.ob id=some (sz,es)->sz≠0/\∃ cap n,x = .slice (some ⟨(loc id).1,(loc id).2+lo * sz,none⟩) len cap/\len<=cap/\cap<=maxLen/\P1d w (loc id).1=some n/\(loc id).2+(lo+cap) * sz<=n):SimV P w S h loc (.rs id lo len) x
 | rp (id i off:Nat) (x:Value) (hid:h.us id) (hs:∃ a,x = .pointer (some a))
   (hx : ∀ sz es,h.ob id=some (sz,es)->sz≠0/\x = .pointer (some ⟨(loc id).1,(loc id).2+i * sz+off,none⟩)):SimV P w S h loc (.rp id i off) x
 | mp (id:Nat) (x:Value) (hid:h.us id) (hs:∃ r,x = .map (some r))
   (hx : ∀ sz es,h.ob id=some (sz,es)->sz=0/\x = .map (some (loc id).1)):SimV P w S h loc (.mp id) x
theorem b9p {w w':World} {b:Nat} (h:w'.heap[b]?=w.heap[b]?) (o:Nat):w'.cell? ⟨b,o,none⟩=w.cell? ⟨b,o,none⟩:=by
 simp [World.cell?,h]
theorem SimV.carry {P:Program} {w w':World} {S S':Nat->Prop} {h h':Heap} {loc loc':Loc}
  (hb : ∀ b,S b->w'.heap[b]?=w.heap[b]?) (hS:∀ b,S b->S' b) (hn:∀ id,h.us id->h'.us id)
  (ho : ∀ id sz es,h.us id->h'.ob id=some (sz,es)->∃ es0,h.ob id=some (sz,es0)/\loc' id=loc id/\P1d w' (loc id).1=P1d w (loc id).1)
  {x : AV} {v:Value} (hx:SimV P w S h loc x v):SimV P w' S' h' loc' x v:=by
 induction hx with
 | v x=>exact .v x
 | dead x=>exact .dead x
 | agg cs vs hl h1 _ ih=>exact .agg cs vs hl h1 ih
 | tup cs vs hl _ ih=>exact .tup cs vs hl ih
 | fsNil sz=>exact .fsNil sz
 | fsE sz a cap=>exact .fsE sz a cap
 | fs sz es b o cap hcap hb0 hsz val hc h1 _ ih =>
  exact .fs sz es b o cap hcap (hS _ hb0) hsz val (fun i j c hh=>by rw [b9p (hb _ hb0)]; exact hc i j c hh) h1 ih
 | fp cs off b o hb0 val hc h1 _ ih =>
  exact .fp cs off b o (hS _ hb0) val (fun j c hh=>by rw [b9p (hb _ hb0)]; exact hc j c hh) h1 ih
 | fn f as cs id fn0 vs us hf hn0 hbd hg hl _ hl' _ ih ih'=>exact .fn f as cs id fn0 vs us hf hn0 hbd hg hl ih hl' ih'
 | rs id lo len x hid hs0 hx =>
  refine .rs id lo len x (hn _ hid) hs0 fun sz es he=>?_
  obtain ⟨es0,h0,hl,hs⟩:=ho id sz es hid he
  obtain ⟨h0',cap,n,h1,h2,h2',h3,h4⟩:=hx sz es0 h0
  exact ⟨h0',cap,n,by rw [hl]; exact h1,h2,h2',by rw [hl,hs]; exact h3,by rw [hl]; exact h4⟩
 | rp id i off x hid hs0 hx =>
  refine .rp id i off x (hn _ hid) hs0 fun sz es he=>?_
  obtain ⟨es0,h0,hl,_⟩:=ho id sz es hid he
  rw [hl]; exact hx sz es0 h0
 | mp id x hid hs0 hx =>
  refine .mp id x (hn _ hid) hs0 fun sz es he=>?_
  obtain ⟨es0,h0,hl,_⟩:=ho id sz es hid he
  rw [hl]; exact hx sz es0 h0
theorem SimV.frz {P:Program} {w w':World} {S S':Nat->Prop} {h h':Heap} {loc loc':Loc}
  (hb : ∀ b,S b->w'.heap[b]?=w.heap[b]?) (hS:∀ b,S b->S' b)
  {x : AV} {v:Value} (hx:SimV P w S h loc x v) (hf:Frz x):SimV P w' S' h' loc' x v:=by
 induction hx with
 | v x=>exact .v x
 | dead x=>exact .dead x
 | agg cs vs hl h1 _ ih=>cases hf with|agg _ hf=>exact .agg cs vs hl h1 fun i c hc=>ih i c hc (hf c (mG9 hc))
 | tup cs vs hl _ ih=>cases hf with|tup _ hf=>exact .tup cs vs hl fun i c hc=>ih i c hc (hf c (mG9 hc))
 | fsNil sz=>exact .fsNil sz
 | fsE sz a cap=>exact .fsE sz a cap
 | fs sz es b o cap hcap hb0 hsz val hc h1 _ ih =>
  cases hf with|fs _ _ hf =>
  refine .fs sz es b o cap hcap (hS _ hb0) hsz val (fun i j c hh=>by rw [b9p (hb _ hb0)]; exact hc i j c hh) h1 fun i j c hh=>ih i j c hh ?_
  unfold at2 at hh
  cases he:es[i]? with
  | none=>simp [he] at hh
  | some e=>rw [he] at hh; exact hf e (mG9 he) c (mG9 hh)
 | fp cs off b o hb0 val hc h1 _ ih =>
  cases hf with|fp _ _ hf =>
  exact .fp cs off b o (hS _ hb0) val (fun j c hh=>by rw [b9p (hb _ hb0)]; exact hc j c hh) h1 fun j c hh=>ih j c hh (hf c (mG9 hh))
 | fn f as cs id fn0 vs us hf0 hn0 hbd hg hl _ hl' _ ih ih' =>
  cases hf with|fn _ _ _ ha hb' =>
  exact .fn f as cs id fn0 vs us hf0 hn0 hbd hg hl (fun i c hc=>ih i c hc (ha c (mG9 hc))) hl' (fun i c hc=>ih' i c hc (hb' c (mG9 hc)))
 | rs=>cases hf
 | rp=>cases hf
 | mp=>cases hf
theorem P1m {es:List (List AV)} {i j:Nat} {c:AV} (h:at2 es i j=some c):∃ e,es[i]?=some e/\e[j]?=some c:=by
 unfold at2 at h
 cases he:es[i]? with
 | none=>simp [he] at h
 | some e=>exact ⟨e,rfl,by rw [he] at h; exact h⟩
theorem SimV.own {P:Program} {w:World} {S S':Nat->Prop} {h:Heap} {loc:Loc}
  {x : AV} {v:Value} (hx:SimV P w S h loc x v) (hf:Own x):SimV P w S' h loc x v:=by
 induction hx with
 | v x=>exact .v x
 | dead x=>exact .dead x
 | agg cs vs hl h1 _ ih=>cases hf with|agg _ hf=>exact .agg cs vs hl h1 fun i c hc=>ih i c hc (hf c (mG9 hc))
 | tup cs vs hl _ ih=>cases hf with|tup _ hf=>exact .tup cs vs hl fun i c hc=>ih i c hc (hf c (mG9 hc))
 | fsNil sz=>cases hf
 | fsE=>cases hf
 | fs=>cases hf
 | fp=>cases hf
 | fn=>cases hf
 | rs id lo len x hid hs0 hx=>exact .rs id lo len x hid hs0 hx
 | rp id i off x hid hs0 hx=>exact .rp id i off x hid hs0 hx
 | mp=>cases hf
structure ObjAt (P:Program) (w:World) (S:Nat->Prop) (h:Heap) (loc:Loc) (id sz:Nat) (es:List (List AV)):Prop where
 blk : ∃ arr ty,w.heap[(loc id).1]?=some (.cells arr ty (0,0))/\(loc id).2+es.length * sz<=arr.size
 len : ∀ e∈es,e.length=sz
 val : ∃ val:Nat->Nat->Value,∀ i j c,at2 es i j=some c->w.cell? ⟨(loc id).1,(loc id).2+i * sz+j,none⟩=some (val i j)/\(val i j).oneCell'=true/\SimV P w S h loc c (val i j)
def g5q (w:World) (b:Nat) (es:List (List AV)):Prop:=∃ en clock,w.heap[b]?=some (.map en clock)/\es=en.toList.map fun e=>[AV.v e.val,AV.v e.key]
structure ObAt (P:Program) (w:World) (S:Nat->Prop) (h:Heap) (loc:Loc) (id sz:Nat) (es:List (List AV)):Prop where
 o : sz≠0->ObjAt P w S h loc id sz es
 m : sz=0->es.head?≠some []->g5q w (loc id).1 es
 b : (loc id).1<w.heap.size
theorem ObAt.of {P:Program} {w:World} {S:Nat->Prop} {h:Heap} {loc:Loc} {id sz:Nat} {es:List (List AV)} (ho:ObjAt P w S h loc id sz es) (hs:sz≠0):ObAt P w S h loc id sz es :=
 ⟨fun _=>ho,fun h=>absurd h hs,by obtain ⟨arr,ty,hb,_⟩:=ho.blk; exact (Array.getElem?_eq_some_iff.1 hb).1⟩
theorem ObAt.later {P:Program} {w w':World} {S S':Nat->Prop} {h h':Heap} {loc loc':Loc} {id id' sz:Nat} {es:List (List AV)} (ho:ObAt P w S h loc id sz es) (hl:loc' id'=loc id) (hs:w'.heap[(loc id).1]?=w.heap[(loc id).1]?)
  (hc : ∀ x v,SimV P w S h loc x v->SimV P w' S' h' loc' x v):ObAt P w' S' h' loc' id' sz es:=by
 refine ⟨fun hz=>?_,fun hz he=>?_,?_⟩
 ·obtain ⟨⟨arr,ty,hb,hf⟩,hl',val,hv⟩:=ho.o hz
  exact ⟨⟨arr,ty,by rw [hl,hs]; exact hb,by rw [hl]; exact hf⟩,hl',val,fun i j c hh=>⟨by rw [hl,b9p hs]; exact (hv i j c hh).1,(hv i j c hh).2.1,hc _ _ (hv i j c hh).2.2⟩⟩
 ·obtain ⟨en,cl,h1,h2⟩:=ho.m hz he
  exact ⟨en,cl,by rw [hl,hs]; exact h1,h2⟩
 ·have := ho.b
  rw [hl]
  rw [Array.getElem?_eq_getElem this] at hs
  exact (Array.getElem?_eq_some_iff.1 hs).1
structure HSim (P:Program) (B:Nat) (S:Nat->Prop) (loc:Loc) (h:Heap) (w:World):Prop where
 obs : ∀ id sz es,h.ob id=some (sz,es)->ObAt P w S h loc id sz es
 inj : ∀ id id',id≠id'->(h.ob id).isSome->(h.ob id').isSome->(loc id).1≠(loc id').1
 notS : ∀ id,(h.ob id).isSome->¬ S (loc id).1
 own : ∀ id,(h.ob id).isSome->B<=(loc id).1
 fresh : ∀ id,¬ h.us id->h.ob id=none
 lt : ∀ b,S b->b<w.heap.size
theorem HSim.id_lt {P:Program} {B:Nat} {S:Nat->Prop} {loc:Loc} {h:Heap} {w:World} (H:HSim P B S loc h w) {id:Nat} {o:Ob} (ho:h.ob id=some o):h.us id:=by
 by_cases h':h.us id
 ·exact h'
 ·rw [H.fresh id h'] at ho; cases ho
theorem HSim.blk_lt {P:Program} {B:Nat} {S:Nat->Prop} {loc:Loc} {h:Heap} {w:World} (H:HSim P B S loc h w) {id:Nat} {o:Ob} (ho:h.ob id=some o):(loc id).1<w.heap.size:=by
 exact (H.obs id o.1 o.2 ho).b
theorem HSim.objs {P:Program} {B:Nat} {S:Nat->Prop} {loc:Loc} {h:Heap} {w:World} (H:HSim P B S loc h w) (id sz:Nat) (es:List (List AV)) (ho:h.ob id=some (sz,es)) (hs:sz≠0):ObjAt P w S h loc id sz es:=(H.obs id sz es ho).o hs
structure Upd (P:Program) (B:Nat) (S:Nat->Prop) (loc:Loc) (h:Heap) (w:World) (S':Nat->Prop) (loc':Loc) (h':Heap) (w':World):Prop where
 carry : ∀ x v,SimV P w S h loc x v->SimV P w' S' h' loc' x v
 hs : HSim P B S' loc' h' w'
 sub : ∀ b,S b->S' b
 sup : ∀ b,S' b->S b\/B<=b
 below : Below B w w'
 rest : ∀ k,k<w.heap.size->(∀ id,(h.ob id).isSome->(loc id).1≠k)->w'.heap[k]?=w.heap[k]?/\∀ id,(h'.ob id).isSome->(loc' id).1≠k
theorem Upd.refl {P:Program} {B:Nat} {S:Nat->Prop} {loc:Loc} {h:Heap} {w:World} (H:HSim P B S loc h w):Upd P B S loc h w S loc h w :=
 ⟨fun _ _ h=>h,H,fun _ h=>h,fun _ h=>.inl h,.refl _ _,fun _ _ hk=>⟨rfl,hk⟩⟩
theorem Upd.trans {P:Program} {B:Nat} {S S' S'':Nat->Prop} {loc loc' loc'':Loc} {h h' h'':Heap} {w w' w'':World}
  (u : Upd P B S loc h w S' loc' h' w') (u':Upd P B S' loc' h' w' S'' loc'' h'' w''):Upd P B S loc h w S'' loc'' h'' w'' :=
 ⟨fun x v hx=>u'.carry x v (u.carry x v hx),u'.hs,fun b hb=>u'.sub b (u.sub b hb),fun b hb=>(u'.sup b hb).elim (u.sup b) .inr,u.below.trans u'.below,fun k h1 h2=>let ⟨a,b⟩:=u.rest k h1 h2; let ⟨c,d⟩:=u'.rest k (Nat.lt_of_lt_of_le h1 u.below.size) b; ⟨c.trans a,d⟩⟩
theorem Upd.drew {P:Program} {B:Nat} {S:Nat->Prop} {loc:Loc} {h:Heap} {w:World} (H:HSim P B S loc h w):Upd P B S loc h w S loc h w.drew:=by
 have hc:∀ x v,SimV P w S h loc x v->SimV P w.drew S h loc x v:=fun x v hx =>
  SimV.carry (w:=w) (w':=w.drew) (fun _ _=>rfl) (fun _ h=>h) (fun _ h=>h) (fun id sz es _ he=>⟨es,he,rfl,rfl⟩) hx
 exact ⟨hc,⟨fun id sz es ho=>(H.obs id sz es ho).later rfl rfl hc,H.inj,H.notS,H.own,H.fresh,H.lt⟩,fun _ h=>h,fun _ h=>.inl h,(Below.refl _ _).drew,fun _ _ hk=>⟨rfl,hk⟩⟩
theorem r7x {w w':World} {b:Nat} (h:w'.heap[b]?=w.heap[b]?):P1d w' b=P1d w b:=by simp [P1d,h]
theorem b6c (w:World) (o:Obj) {b:Nat} (h:b<w.heap.size):(w.alloc o).heap[b]?=w.heap[b]?:=Below.heap_alloc w o b h
theorem c6j (w:World) (o:Obj):(w.alloc o).heap[w.heap.size]?=some o:=by
 show (w.heap.push o)[w.heap.size]?=some o
 simp
def b4z (loc:Loc) (n:Nat) (x:Nat × Nat):Loc:=fun id=>if id=n then x else loc id
theorem b62 (loc:Loc) (n:Nat) (x:Nat × Nat):b4z loc n x n=x:=by simp [b4z]
theorem d34 (loc:Loc) (n:Nat) (x:Nat × Nat) {id:Nat} (h:id≠n):b4z loc n x id=loc id:=by simp [b4z,h]
theorem Upd.new {P:Program} {B:Nat} {S:Nat->Prop} {loc:Loc} {h:Heap} {w:World} (H:HSim P B S loc h w) (hf:¬ h.us h.nx) (hB:B<=w.heap.size)
  (arr : Array Value) (ty sz:Nat) (es:List (List AV)) (hsz:sz≠0) (hl:∀ e∈es,e.length=sz) (hfit:es.length * sz<=arr.size)
  (val : Nat->Nat->Value) (hv:∀ i j c,at2 es i j=some c->arr[i * sz+j]?=some (val i j)/\(val i j).oneCell'=true/\SimV P w S h loc c (val i j)) :
  Upd P B S loc h w S (b4z loc h.nx (w.heap.size,0)) (h.new (sz,es)) (w.alloc (.cells arr ty)):=by
 have hne:∀ id,h.us id->id≠h.nx:=fun id hi e=>hf (e ▸ hi)
 have hloc:∀ id,h.us id->b4z loc h.nx (w.heap.size,0) id=loc id:=fun id hid=>d34 _ _ _ (hne id hid)
 have hob:∀ id,h.us id->(h.new (sz,es)).ob id=h.ob id:=fun id hid=>by simp [Heap.new]; intro e; exact absurd e (hne id hid)
 have hobn:(h.new (sz,es)).ob h.nx=some (sz,es):=by simp [Heap.new]
 have hc:∀ x v,SimV P w S h loc x v->SimV P (w.alloc (.cells arr ty)) S (h.new (sz,es)) (b4z loc h.nx (w.heap.size,0)) x v:=fun x v hx =>
  SimV.carry (fun b hb=>b6c w _ (H.lt b hb)) (fun _ h=>h) (fun _ h=>Or.inr h) (fun id sz' es' hid he=>by
   rw [hob id hid] at he
   refine ⟨es',he,hloc id hid,r7x (b6c w _ (H.blk_lt he))⟩) hx
 have hcase:∀ id,((h.new (sz,es)).ob id).isSome->id=h.nx\/(h.us id/\(h.ob id).isSome):=fun id hi=>by
  by_cases he:id=h.nx
  ·exact .inl he
  ·have e1:(h.new (sz,es)).ob id=h.ob id:=by simp [Heap.new,he]
   rw [e1] at hi
   obtain ⟨o,ho⟩:=Option.isSome_iff_exists.1 hi
   exact .inr ⟨H.id_lt ho,hi⟩
 have hblk:∀ id,(h.ob id).isSome->(loc id).1<w.heap.size:=fun id hi=>by
  obtain ⟨o,ho⟩:=Option.isSome_iff_exists.1 hi; exact H.blk_lt ho
 refine ⟨hc,⟨fun id sz' es' ho=>?_,fun id id' hne hi hi'=>?_,fun id hi=>?_,fun id hi=>?_,fun id hi=>?_,fun b hb=>?_⟩,fun _ h=>h,fun _ h=>.inl h,(Below.refl _ _).alloc hB _,fun k hk hn=>⟨b6c w _ hk,fun id hi=>(hcase id hi).elim (fun e=>by subst e; rw [b62]; show w.heap.size≠k; omega) (fun ⟨hlt,hi⟩=>by rw [hloc id hlt]; exact hn id hi)⟩⟩
 ·rcases hcase id (by rw [ho]; rfl) with rfl|⟨hlt,hi⟩
  ·rw [hobn] at ho; cases ho
   refine .of ⟨⟨arr,ty,by rw [b62]; exact c6j _ _,by rw [b62]; simpa using hfit⟩,hl,val,fun i j c hh=>?_⟩ hsz
   obtain ⟨h1,h2,h3⟩:=hv i j c hh
   refine ⟨?_,h2,hc _ _ h3⟩
   rw [b62]; simp only [Nat.zero_add]
   rw [World.cell?_alloc_new]; exact h1
  ·rw [hob id hlt] at ho
   exact (H.obs id sz' es' ho).later (hloc id hlt) (b6c w (.cells arr ty) (H.blk_lt ho)) hc
 ·rcases hcase id hi with rfl|⟨hlt,hi⟩ <;> rcases hcase id' hi' with rfl|⟨hlt',hi'⟩
  ·exact absurd rfl hne
  ·have := hblk id' hi'; rw [b62,hloc id' hlt']; simp; omega
  ·have := hblk id hi; rw [b62,hloc id hlt]; simp; omega
  ·rw [hloc id hlt,hloc id' hlt']; exact H.inj id id' hne hi hi'
 ·rcases hcase id hi with rfl|⟨hlt,hi⟩
  ·rw [b62]; intro hb; exact absurd (H.lt _ hb) (by simp)
  ·rw [hloc id hlt]; exact H.notS id hi
 ·rcases hcase id hi with rfl|⟨hlt,hi⟩
  ·rw [b62]; simpa using hB
  ·rw [hloc id hlt]; exact H.own id hi
 ·simp only [Heap.new,not_or] at hi
  simp only [Heap.new,if_neg hi.1]; exact H.fresh id hi.2
 ·have := H.lt b hb; simp; omega
theorem Upd.newM {P:Program} {B:Nat} {S:Nat->Prop} {loc:Loc} {h:Heap} {w:World} (H:HSim P B S loc h w) (hf:¬ h.us h.nx) (hB:B<=w.heap.size) :
  Upd P B S loc h w S (b4z loc h.nx (w.heap.size,0)) (h.new (0,[])) (w.alloc (.map #[] 0)):=by
 have hne:∀ id,h.us id->id≠h.nx:=fun id hi e=>hf (e ▸ hi)
 have hloc:∀ id,h.us id->b4z loc h.nx (w.heap.size,0) id=loc id:=fun id hid=>d34 _ _ _ (hne id hid)
 have hob:∀ id,h.us id->(h.new (0,[])).ob id=h.ob id:=fun id hid=>by simp [Heap.new]; intro e; exact absurd e (hne id hid)
 have hobn:(h.new (0,[])).ob h.nx=some (0,[]):=by simp [Heap.new]
 have hc:∀ x v,SimV P w S h loc x v->SimV P (w.alloc (.map #[] 0)) S (h.new (0,[])) (b4z loc h.nx (w.heap.size,0)) x v:=fun x v hx =>
  SimV.carry (fun b hb=>b6c w _ (H.lt b hb)) (fun _ h=>h) (fun _ h=>Or.inr h) (fun id sz' es' hid he=>by
   rw [hob id hid] at he
   refine ⟨es',he,hloc id hid,r7x (b6c w _ (H.blk_lt he))⟩) hx
 have hcase:∀ id,((h.new (0,[])).ob id).isSome->id=h.nx\/(h.us id/\(h.ob id).isSome):=fun id hi=>by
  by_cases he:id=h.nx
  ·exact .inl he
  ·have e1:(h.new (0,[])).ob id=h.ob id:=by simp [Heap.new,he]
   rw [e1] at hi
   obtain ⟨o,ho⟩:=Option.isSome_iff_exists.1 hi
   exact .inr ⟨H.id_lt ho,hi⟩
 have hblk:∀ id,(h.ob id).isSome->(loc id).1<w.heap.size:=fun id hi=>by
  obtain ⟨o,ho⟩:=Option.isSome_iff_exists.1 hi; exact H.blk_lt ho
 refine ⟨hc,⟨fun id sz' es' ho=>?_,fun id id' hne hi hi'=>?_,fun id hi=>?_,fun id hi=>?_,fun id hi=>?_,fun b hb=>?_⟩,fun _ h=>h,fun _ h=>.inl h,(Below.refl _ _).alloc hB _,fun k hk hn=>⟨b6c w _ hk,fun id hi=>(hcase id hi).elim (fun e=>by subst e; rw [b62]; show w.heap.size≠k; omega) (fun ⟨hlt,hi⟩=>by rw [hloc id hlt]; exact hn id hi)⟩⟩
 ·rcases hcase id (by rw [ho]; rfl) with rfl|⟨hlt,hi⟩
  ·rw [hobn] at ho; cases ho
   exact ⟨fun h=>absurd rfl h,fun _ _=>⟨#[],0,by rw [b62]; exact c6j _ _,rfl⟩,by rw [b62]; exact (Array.getElem?_eq_some_iff.1 (c6j w _)).1⟩
  ·rw [hob id hlt] at ho
   exact (H.obs id sz' es' ho).later (hloc id hlt) (b6c w (.map #[] 0) (H.blk_lt ho)) hc
 ·rcases hcase id hi with rfl|⟨hlt,hi⟩ <;> rcases hcase id' hi' with rfl|⟨hlt',hi'⟩
  ·exact absurd rfl hne
  ·have := hblk id' hi'; rw [b62,hloc id' hlt']; simp; omega
  ·have := hblk id hi; rw [b62,hloc id hlt]; simp; omega
  ·rw [hloc id hlt,hloc id' hlt']; exact H.inj id id' hne hi hi'
 ·rcases hcase id hi with rfl|⟨hlt,hi⟩
  ·rw [b62]; intro hb; exact absurd (H.lt _ hb) (by simp)
  ·rw [hloc id hlt]; exact H.notS id hi
 ·rcases hcase id hi with rfl|⟨hlt,hi⟩
  ·rw [b62]; simpa using hB
  ·rw [hloc id hlt]; exact H.own id hi
 ·simp only [Heap.new,not_or] at hi
  simp only [Heap.new,if_neg hi.1]; exact H.fresh id hi.2
 ·have := H.lt b hb; simp; omega
theorem Upd.newF {P:Program} {B:Nat} {S:Nat->Prop} {loc:Loc} {h:Heap} {w:World} (H:HSim P B S loc h w) (hB:B<=w.heap.size) (o:Obj) :
  Upd P B S loc h w (fun b=>S b\/b=w.heap.size) loc h (w.alloc o):=by
 have hc:∀ x v,SimV P w S h loc x v->SimV P (w.alloc o) (fun b=>S b\/b=w.heap.size) h loc x v:=fun x v hx =>
  SimV.carry (fun b hb=>b6c w _ (H.lt b hb)) (fun _ h=>.inl h) (fun _ h=>h) (fun id sz' es' hid he=>⟨es',he,rfl,r7x (b6c w _ (H.blk_lt he))⟩) hx
 refine ⟨hc,⟨fun id sz es ho=>?_,H.inj,fun id hi hb=>?_,H.own,H.fresh,fun b hb=>?_⟩,fun _ h=>.inl h,fun b hb=>hb.elim .inl fun e=>.inr (by omega),(Below.refl _ _).alloc hB _,fun k hk hn=>⟨b6c w o hk,hn⟩⟩
 ·exact (H.obs id sz es ho).later rfl (b6c w o (H.blk_lt ho)) hc
 ·obtain ⟨o',ho'⟩:=Option.isSome_iff_exists.1 hi
  rcases hb with hb|hb
  ·exact H.notS id hi hb
  ·have := H.blk_lt ho'; omega
 ·rcases hb with hb|rfl
  ·have := H.lt b hb; simp; omega
  ·simp
theorem Upd.kill {P:Program} {B:Nat} {S:Nat->Prop} {loc:Loc} {h:Heap} {w:World} (H:HSim P B S loc h w) (id:Nat) :
  Upd P B S loc h w S loc (h.upd id none) w:=by
 have hob:∀ i o,(h.upd id none).ob i=some o->h.ob i=some o/\i≠id:=fun i o ho=>by
  by_cases e:i=id <;> simp [Heap.upd,e] at ho ⊢
  exact ho
 have hs:∀ i,((h.upd id none).ob i).isSome->(h.ob i).isSome:=fun i hi=>by
  obtain ⟨o,ho⟩:=Option.isSome_iff_exists.1 hi; rw [(hob i o ho).1]; rfl
 have hc:∀ x v,SimV P w S h loc x v->SimV P w S (h.upd id none) loc x v:=fun x v hx =>
  SimV.carry (h:=h) (h':=h.upd id none) (fun _ _=>rfl) (fun _ h=>h) (fun _ h=>h) (fun i sz es _ he=>⟨es,(hob i _ he).1,rfl,rfl⟩) hx
 refine ⟨hc,⟨fun i sz es ho=>?_,fun i i' hne hi hi'=>H.inj i i' hne (hs i hi) (hs i' hi'),fun i hi=>H.notS i (hs i hi),fun i hi=>H.own i (hs i hi),fun i hi=>?_,H.lt⟩,fun _ h=>h,fun _ h=>.inl h,.refl _ _,fun k hk hn=>⟨rfl,fun i hi=>hn i (hs i hi)⟩⟩
 ·exact (H.obs i sz es (hob i _ ho).1).later rfl rfl hc
 ·have := H.fresh i hi
  simp [Heap.upd,this]
theorem g28 (w:World) (g b:Nat) (cs:Array Value) (h:b≠g):(w.setRow g cs).heap[b]?=w.heap[b]?:=by
 simp only [World.setRow,Array.getElem?_modify]
 rw [if_neg (by omega)]
theorem D1r (w:World) (g:Nat) (cs:Array Value):(w.setRow g cs).heap.size=w.heap.size:=by simp [World.setRow]
theorem b8a {w:World} {b:Nat} {arr:Array Value} {ty:TypeId} {fr:Nat × Nat} (h:w.heap[b]?=some (.cells arr ty fr)) (o:Nat):w.cell? ⟨b,o,none⟩=arr[o]?:=by
 simp [World.cell?,h]
theorem c1f {w:World} {b:Nat} {arr:Array Value} {ty:TypeId} {fr:Nat × Nat} (h:w.heap[b]?=some (.cells arr ty fr)):P1d w b=some arr.size:=by
 simp [P1d,h]
theorem Upd.rewrite {P:Program} {B:Nat} {S:Nat->Prop} {loc:Loc} {h:Heap} {w:World} (H:HSim P B S loc h w) (hf:¬ h.us h.nx) {id sz:Nat} {es:List (List AV)} (ho:h.ob id=some (sz,es))
  {arr : Array Value} {ty:TypeId} (hb:w.heap[(loc id).1]?=some (.cells arr ty (0,0))) (arr':Array Value) (hsize:arr'.size=arr.size)
  (base sz':Nat) (es':List (List AV)) (hsz:sz'≠0) (hl:∀ e∈es',e.length=sz') (hfit:base+es'.length * sz'<=arr.size)
  (val : Nat->Nat->Value) (hv:∀ i j c,at2 es' i j=some c->arr'[base+i * sz'+j]?=some (val i j)/\(val i j).oneCell'=true/\SimV P w S h loc c (val i j)) :
  Upd P B S loc h w S (b4z loc h.nx ((loc id).1,base)) ((h.upd id none).new (sz',es')) (w.setRow (loc id).1 arr'):=by
 have hid:=H.id_lt ho
 have his:(h.ob id).isSome:=by rw [ho]; rfl
 have hrow:(w.setRow (loc id).1 arr').heap[(loc id).1]?=some (.cells arr' ty (0,0)):=setRow_heap w _ arr arr' ty _ hb
 have hother:∀ b,b≠(loc id).1->(w.setRow (loc id).1 arr').heap[b]?=w.heap[b]?:=fun b hne=>g28 _ _ _ _ hne
 have hshape:∀ b,P1d (w.setRow (loc id).1 arr') b=P1d w b:=fun b=>by
  by_cases e:b=(loc id).1
  ·subst e; rw [c1f hrow,c1f hb,hsize]
  ·exact r7x (hother b e)
 have hne0:∀ i,h.us i->i≠h.nx:=fun i hi e=>hf (e ▸ hi)
 have hloc:∀ i,h.us i->b4z loc h.nx ((loc id).1,base) i=loc i:=fun i hi=>d34 _ _ _ (hne0 i hi)
 have hobn:((h.upd id none).new (sz',es')).ob h.nx=some (sz',es'):=by simp [Heap.new,Heap.upd]
 have hob:∀ i o,h.us i->((h.upd id none).new (sz',es')).ob i=some o->h.ob i=some o/\i≠id:=fun i o hi hh=>by
  have e1:i≠h.nx:=hne0 i hi
  by_cases e:i=id <;> simp [Heap.upd,Heap.new,e,e1] at hh
  ·exact absurd hh.1 (fun hc=>e1 (e.trans hc))
  ·exact ⟨hh,e⟩
 have hSne:∀ b,S b->b≠(loc id).1:=fun b hS e=>H.notS id his (e ▸ hS)
 have hc:∀ x v,SimV P w S h loc x v->SimV P (w.setRow (loc id).1 arr') S ((h.upd id none).new (sz',es')) (b4z loc h.nx ((loc id).1,base)) x v:=fun x v hx =>
  SimV.carry (h:=h) (fun b hS=>hother b (hSne b hS)) (fun _ h=>h) (fun _ h=>Or.inr h) (fun i s e hi hh=>⟨e,(hob i _ hi hh).1,hloc i hi,hshape _⟩) hx
 have hcase:∀ i,(((h.upd id none).new (sz',es')).ob i).isSome->i=h.nx\/(h.us i/\(h.ob i).isSome/\i≠id):=fun i hi=>by
  obtain ⟨o,hh⟩:=Option.isSome_iff_exists.1 hi
  by_cases he:i=h.nx
  ·exact .inl he
  ·by_cases hlt:h.us i
   ·exact .inr ⟨hlt,by rw [(hob i o hlt hh).1]; rfl,(hob i o hlt hh).2⟩
   ·have := H.fresh i hlt
    simp [Heap.new,Heap.upd,he,this] at hh
 refine ⟨hc,⟨fun i s e hh=>?_,fun i i' hne hi hi'=>?_,fun i hi=>?_,fun i hi=>?_,fun i hi=>?_,fun b hS=>?_⟩,fun _ h=>h,fun _ h=>.inl h,⟨rfl,rfl,rfl,by rw [D1r]; exact Nat.le_refl _,fun k hk=>hother k ?_⟩,fun k hk hn=>⟨hother k (fun e=>hn id his e.symm),fun i hi=>(hcase i hi).elim (fun e=>by subst e; rw [b62]; exact hn id his) (fun ⟨hlt,hi,_⟩=>by rw [hloc i hlt]; exact hn i hi)⟩⟩
 ·rcases hcase i (by rw [hh]; rfl) with rfl|⟨hlt,hi,hne⟩
  ·rw [hobn] at hh; cases hh
   refine .of ⟨⟨arr',ty,by rw [b62]; exact hrow,by rw [b62,hsize]; exact hfit⟩,hl,val,fun k j c hk=>?_⟩ hsz
   obtain ⟨h1,h2,h3⟩:=hv k j c hk
   exact ⟨by rw [b62,b8a hrow]; exact h1,h2,hc _ _ h3⟩
  ·have hh0:=(hob i _ hlt hh).1
   have hne':=H.inj i id hne hi his
   exact (H.obs i s e hh0).later (hloc i hlt) (hother _ hne') hc
 ·rcases hcase i hi with rfl|⟨hlt,hi,hn⟩ <;> rcases hcase i' hi' with rfl|⟨hlt',hi',hn'⟩
  ·exact absurd rfl hne
  ·rw [b62,hloc i' hlt']; exact (H.inj i' id hn' hi' his).symm
  ·rw [b62,hloc i hlt]; exact H.inj i id hn hi his
  ·rw [hloc i hlt,hloc i' hlt']; exact H.inj i i' hne hi hi'
 ·rcases hcase i hi with rfl|⟨hlt,hi,hn⟩
  ·rw [b62]; exact H.notS id his
  ·rw [hloc i hlt]; exact H.notS i hi
 ·rcases hcase i hi with rfl|⟨hlt,hi,hn⟩
  ·rw [b62]; exact H.own id his
  ·rw [hloc i hlt]; exact H.own i hi
 ·simp only [Heap.new,Heap.upd,not_or] at hi
  simp [Heap.new,Heap.upd,hi.1,H.fresh i hi.2]
 ·rw [D1r]; exact H.lt b hS
 ·intro e; have:=H.own id his; omega
theorem Upd.write {P:Program} {B:Nat} {S:Nat->Prop} {loc:Loc} {h:Heap} {w:World} (H:HSim P B S loc h w) {id sz:Nat} {es:List (List AV)} (ho:h.ob id=some (sz,es))
  {arr : Array Value} {ty:TypeId} (hb:w.heap[(loc id).1]?=some (.cells arr ty (0,0))) (arr':Array Value) (hsize:arr'.size=arr.size)
  (es' : List (List AV)) (hsz:sz≠0) (hl:∀ e∈es',e.length=sz) (hfit:(loc id).2+es'.length * sz<=arr.size)
  (val : Nat->Nat->Value) (hv:∀ i j c,at2 es' i j=some c->arr'[(loc id).2+i * sz+j]?=some (val i j)/\(val i j).oneCell'=true/\SimV P w S h loc c (val i j)) :
  Upd P B S loc h w S loc (h.upd id (some (sz,es'))) (w.setRow (loc id).1 arr'):=by
 have his:(h.ob id).isSome:=by rw [ho]; rfl
 have hrow:(w.setRow (loc id).1 arr').heap[(loc id).1]?=some (.cells arr' ty (0,0)):=setRow_heap w _ arr arr' ty _ hb
 have hother:∀ b,b≠(loc id).1->(w.setRow (loc id).1 arr').heap[b]?=w.heap[b]?:=fun b hne=>g28 _ _ _ _ hne
 have hshape:∀ b,P1d (w.setRow (loc id).1 arr') b=P1d w b:=fun b=>by
  by_cases e:b=(loc id).1
  ·subst e; rw [c1f hrow,c1f hb,hsize]
  ·exact r7x (hother b e)
 have hSne:∀ b,S b->b≠(loc id).1:=fun b hS e=>H.notS id his (e ▸ hS)
 have hobi:(h.upd id (some (sz,es'))).ob id=some (sz,es'):=by simp [Heap.upd]
 have hobo:∀ i,i≠id->(h.upd id (some (sz,es'))).ob i=h.ob i:=fun i hne=>by simp [Heap.upd,hne]
 have hc:∀ x v,SimV P w S h loc x v->SimV P (w.setRow (loc id).1 arr') S (h.upd id (some (sz,es'))) loc x v:=fun x v hx =>
  SimV.carry (h:=h) (h':=h.upd id (some (sz,es'))) (loc':=loc) (fun b hS=>hother b (hSne b hS)) (fun _ h=>h) (fun _ h=>h) (fun i s e _ hh=>by
   by_cases hi:i=id
   ·subst hi; rw [hobi] at hh; cases hh; exact ⟨es,ho,rfl,hshape _⟩
   ·rw [hobo i hi] at hh; exact ⟨e,hh,rfl,hshape _⟩) hx
 have hs:∀ i,((h.upd id (some (sz,es'))).ob i).isSome->(h.ob i).isSome:=fun i hi=>by
  by_cases e:i=id
  ·subst e; exact his
  ·rwa [hobo i e] at hi
 refine ⟨hc,⟨fun i s e hh=>?_,fun i i' hne hi hi'=>H.inj i i' hne (hs i hi) (hs i' hi'),fun i hi=>H.notS i (hs i hi),fun i hi=>H.own i (hs i hi),fun i hi=>?_,fun b hS=>by rw [D1r]; exact H.lt b hS⟩,fun _ h=>h,fun _ h=>.inl h,⟨rfl,rfl,rfl,by rw [D1r]; exact Nat.le_refl _,fun k hk=>hother k ?_⟩,fun k hk hn=>⟨hother k (fun e=>hn id his e.symm),fun i hi=>hn i (hs i hi)⟩⟩
 ·by_cases hi:i=id
  ·subst hi; rw [hobi] at hh; cases hh
   exact .of ⟨⟨arr',ty,hrow,by rw [hsize]; exact hfit⟩,hl,val,fun k j c hk=>⟨by rw [b8a hrow]; exact (hv k j c hk).1,(hv k j c hk).2.1,hc _ _ (hv k j c hk).2.2⟩⟩ hsz
  ·rw [hobo i hi] at hh
   have hne':=H.inj i id hi (by rw [hh]; rfl) his
   exact (H.obs i s e hh).later rfl (hother _ hne') hc
 ·have hlt:=H.id_lt ho
  have hi':¬ h.us i:=hi
  rw [hobo i (fun e=>hi' (e ▸ hlt))]; exact H.fresh i hi'
 ·intro e; have:=H.own id his; omega
theorem Upd.putM {P:Program} {B:Nat} {S:Nat->Prop} {loc:Loc} {h:Heap} {w:World} (H:HSim P B S loc h w) {id:Nat} {es:List (List AV)} (ho:h.ob id=some (0,es))
  {en : Array MapEntry} {cl:Nat} (hb:w.heap[(loc id).1]?=some (.map en cl)) (en':Array MapEntry) (cl':Nat) :
  Upd P B S loc h w S loc (h.upd id (some (0,en'.toList.map fun e=>[AV.v e.val,AV.v e.key]))) { w with heap:=w.heap.setIfInBounds (loc id).1 (.map en' cl') }:=by
 have his:(h.ob id).isSome:=by rw [ho]; rfl
 have hlt0:(loc id).1<w.heap.size:=(Array.getElem?_eq_some_iff.1 hb).1
 have hrow:({ w with heap:=w.heap.setIfInBounds (loc id).1 (.map en' cl') }:World).heap[(loc id).1]?=some (.map en' cl'):=by simp [hlt0]
 have hother:∀ b,b≠(loc id).1->({ w with heap:=w.heap.setIfInBounds (loc id).1 (.map en' cl') }:World).heap[b]?=w.heap[b]?:=fun b hne=>by simp [Ne.symm hne]
 have hsz:({ w with heap:=w.heap.setIfInBounds (loc id).1 (.map en' cl') }:World).heap.size=w.heap.size:=by simp
 have hbel:Below B w ({ w with heap:=w.heap.setIfInBounds (loc id).1 (.map en' cl') }:World):=⟨rfl,rfl,rfl,Nat.le_of_eq hsz.symm,fun k hk=>hother k (fun e=>by have:=H.own id his; omega)⟩
 generalize ({ w with heap:=w.heap.setIfInBounds (loc id).1 (.map en' cl') }:World)=w2 at hrow hother hsz hbel ⊢
 have hshape:∀ b,P1d w2 b=P1d w b:=fun b=>by
  by_cases e:b=(loc id).1
  ·subst e; simp [P1d,hrow,hb]
  ·exact r7x (hother b e)
 generalize hes:(en'.toList.map fun e=>[AV.v e.val,AV.v e.key])=es'
 have hSne:∀ b,S b->b≠(loc id).1:=fun b hS e=>H.notS id his (e ▸ hS)
 have hobi:(h.upd id (some (0,es'))).ob id=some (0,es'):=by simp [Heap.upd]
 have hobo:∀ i,i≠id->(h.upd id (some (0,es'))).ob i=h.ob i:=fun i hne=>by simp [Heap.upd,hne]
 have hc:∀ x v,SimV P w S h loc x v->SimV P w2 S (h.upd id (some (0,es'))) loc x v:=fun x v hx =>
  SimV.carry (h:=h) (h':=h.upd id (some (0,es'))) (loc':=loc) (fun b hS=>hother b (hSne b hS)) (fun _ h=>h) (fun _ h=>h) (fun i s e _ hh=>by
   by_cases hi:i=id
   ·subst hi; rw [hobi] at hh; cases hh; exact ⟨es,ho,rfl,hshape _⟩
   ·rw [hobo i hi] at hh; exact ⟨e,hh,rfl,hshape _⟩) hx
 have hs:∀ i,((h.upd id (some (0,es'))).ob i).isSome->(h.ob i).isSome:=fun i hi=>by
  by_cases e:i=id
  ·subst e; exact his
  ·rwa [hobo i e] at hi
 refine ⟨hc,⟨fun i s e hh=>?_,fun i i' hne hi hi'=>H.inj i i' hne (hs i hi) (hs i' hi'),fun i hi=>H.notS i (hs i hi),fun i hi=>H.own i (hs i hi),fun i hi=>?_,fun b hS=>by rw [hsz]; exact H.lt b hS⟩,fun _ h=>h,fun _ h=>.inl h,hbel,fun k hk hn=>⟨hother k (fun e=>hn id his e.symm),fun i hi=>hn i (hs i hi)⟩⟩
 ·by_cases hi:i=id
  ·subst hi; rw [hobi] at hh; cases hh
   exact ⟨fun h=>absurd rfl h,fun _ _=>⟨en',cl',hrow,hes.symm⟩,by rw [hsz]; exact hlt0⟩
  ·rw [hobo i hi] at hh
   exact (H.obs i s e hh).later rfl (hother _ (H.inj i id hi (by rw [hh]; rfl) his)) hc
 ·have hlt:=H.id_lt ho
  have hi':¬ h.us i:=hi
  rw [hobo i (fun e=>hi' (e ▸ hlt))]; exact H.fresh i hi'
end Go.Nw
