/- Calls: what a contract of the abstract machine says of the model's call, and how it is used at a call. -/
import Derived.Test.YtojneiildpnpiaaNwMap
set_option linter.all false
namespace Go.Nw
variable [Cfg]
open Go.RowKit
def P1a (frag:b3z):Heap:={ ob:=fun k=>frag[k]?,us:=fun k=>k<frag.length,nx:=frag.length }
def r7j (P:Program) (w:World) (S:Nat->Prop):Prop:=∀ g cs,Cfg.tab g=some cs->S g/\g<w.heap.size/\∀ j c,cs[j]?=some c->∃ v,w.cell? ⟨g,j,none⟩=some v/\v.oneCell'=true/\SimV P w S Heap.empty (fun _=>(0,0)) c.av v
theorem GC.frz:∀ c:GC,Frz c.av
 | .v x=>.v x
 | .sl sz rows=>.fs _ _ fun e he c hc=>by
  obtain ⟨r,_,rfl⟩:=List.mem_map.1 he
  obtain ⟨x,_,rfl⟩:=List.mem_map.1 hc
  exact .v x
def d5w (P:Program) (id:FuncId) (as:List AV) (r:AV) (frag:b3z):Prop :=
 ∀ (w:World) (S:Nat->Prop) (vs:Array Value),(∀ b,S b->b<w.heap.size)->r7j P w S->vs.size=as.length ->
  (∀ (i:Nat) a,as[i]?=some a->SimV P w S Heap.empty (fun _=>(0,0)) a (vs.getD i undef)) ->
  Calls P id vs w fun e w'=>∃ v S' loc,e = .returned v/\Below w.heap.size w w'/\(∀ b,S b->S' b)/\(∀ b,S' b->S b\/w.heap.size<=b) /\
   HSim P w.heap.size S' loc (P1a frag) w'/\SimV P w' S' (P1a frag) loc r v
def B82 (P:Program) (id:FuncId) (as:List AV) (h:Heap) (r:AV) (h':Heap):Prop :=
 ∀ (B:Nat) (w:World) (S:Nat->Prop) (loc:Loc) (vs:Array Value),HSim P B S loc h w->B<=w.heap.size->(∀ k,h.nx<=k->¬ h.us k)->r7j P w S->vs.size=as.length ->
  (∀ (i:Nat) a,as[i]?=some a->SimV P w S h loc a (vs.getD i undef)) ->
  Calls P id vs w fun e w'=>∃ v S' loc',e = .returned v/\Upd P B S loc h w S' loc' h' w'/\SimV P w' S' h' loc' r v
def b0n (P:Program):Orac where
 c := fun f as r frag=>∀ id fn,P.funcs[id]?=some fn->fn.name=f->d5w P id as r frag
 w := fun f as h r h'=>match b2k f with
  | some .dyn=>∃ n a b rest,as = .fn n a b :: rest/\b2k n=none/\∀ id fn,P.funcs[id]?=some fn->fn.name=n->B82 P id (a++rest++b) h r h'
  | some k=>b2i k as h=some (r,h')
  | none=>∀ id fn,P.funcs[id]?=some fn->fn.name=f->B82 P id as h r h'
theorem x3h {P:Program} {f:String} {as:List AV} {h:Heap} {r:AV} {h':Heap} (hf:b2k f=none) (hw:(b0n P).w f as h r h'):∀ id fn,P.funcs[id]?=some fn->fn.name=f->B82 P id as h r h':=by
 unfold b0n at hw; simp only [hf] at hw; exact hw
theorem g2c {P:Program} {f:String} {k:MK} {as:List AV} {h:Heap} {r:AV} {h':Heap} (hf:b2k f=some k) (hk:k≠.dyn):(b0n P).w f as h r h' ↔ b2i k as h=some (r,h'):=by
 unfold b0n; simp only [hf]
theorem z93 {P:Program} {as:List AV} {h:Heap} {r:AV} {h':Heap}:(b0n P).w "#v" as h r h' ↔ ∃ n a b rest,as = .fn n a b :: rest/\b2k n=none/\∀ id fn,P.funcs[id]?=some fn->fn.name=n->B82 P id (a++rest++b) h r h':=by
 have e:b2k "#v"=some .dyn:=rfl
 unfold b0n; simp only [e]
instance {P:Program}:MapsOk (b0n P):=⟨fun f k as h r h' hm he=>(g2c hm (fun e=>by subst e; cases as <;> cases he)).2 he⟩
instance {P:Program}:DynOk (b0n P):=⟨fun n a b rest h r h' hm hw=>z93.2 ⟨n,a,b,rest,rfl,hm,x3h hm hw⟩⟩
theorem r7j.later {P:Program} {w w':World} {S S':Nat->Prop} {B:Nat} (hl:r7j P w S) (hS:∀ b,S b->S' b) (hb:∀ b,S b->w'.heap[b]?=w.heap[b]?) (hsz:w.heap.size<=w'.heap.size):r7j P w' S':=fun g cs hg=>by
 obtain ⟨h1,h2,h3⟩:=hl g cs hg
 refine ⟨hS g h1,by omega,fun j c hc=>?_⟩
 obtain ⟨v,h4,h5,h6⟩:=h3 j c hc
 exact ⟨v,by rw [b9p (hb g h1)]; exact h4,h5,SimV.frz hb hS h6 c.frz⟩
section
variable {P:Program} {B:Nat} {S:Nat->Prop} {loc:Loc} {h:Heap} {w:World}
def b7d (loc:Loc) (h:Heap) (b:Nat):Prop:=∃ id o,h.ob id=some o/\b=(loc id).1
theorem c5v (H:HSim P B S loc h w) {x y:AV} (hz:Fz h x y):∀ {v:Value},SimV P w S h loc x v->SimV P w (fun b=>S b\/b7d loc h b) Heap.empty (fun _=>(0,0)) y v:=by
 induction hz with
 | refl x hx=>intro v hv; exact SimV.frz (fun _ _=>rfl) (fun _ h=>.inl h) hv hx
 | nil sz=>intro v hv; cases hv; exact .fsNil sz
 | dead x=>intro v hv; exact .dead v
 | agg cs ds hl hc ih =>
  intro v hv
  cases hv with
  | agg _ vs hl' h1 hcc =>
   refine .agg ds vs (by rw [hl',hl]) h1 fun i d hd=>?_
   have hlt:i<cs.length:=by rw [hl]; exact (gS9.1 hd).1
   exact ih i _ d (gG9 hlt) hd (hcc i _ (gG9 hlt))
 | tup cs ds hl hc ih =>
  intro v hv
  cases hv with
  | tup _ vs hl' hcc =>
   refine .tup ds vs (by rw [hl',hl]) fun i d hd=>?_
   have hlt:i<cs.length:=by rw [hl]; exact (gS9.1 hd).1
   exact ih i _ d (gG9 hlt) hd (hcc i _ (gG9 hlt))
 | fn f as bs cs ds hl hc hl2 hc2 ih ih2 =>
  intro v hv
  cases hv with
  | fn _ _ _ id fn0 vs us hf hn hb hg hv1 hv2 hu1 hu2 =>
   refine .fn f bs ds id fn0 vs us hf hn hb hg (by rw [hv1,hl]) (fun i d hd=>?_) (by rw [hu1,hl2]) (fun i d hd=>?_)
   ·have hlt:i<as.length:=by rw [hl]; exact (gS9.1 hd).1
    exact ih i _ d (gG9 hlt) hd (hv2 i _ (gG9 hlt))
   ·have hlt:i<cs.length:=by rw [hl2]; exact (gS9.1 hd).1
    exact ih2 i _ d (gG9 hlt) hd (hu2 i _ (gG9 hlt))
 | rs id lo len sz es ds ho hb hl hz hc ih =>
  intro v hv
  cases hv with
  | rs _ _ _ _ hid hs hx =>
   obtain ⟨hnz,cap,n,rfl,hcap,_,_,_⟩:=hx sz es ho
   obtain ⟨_,hle,val,hvv⟩:=H.objs id sz es ho hnz
   have key:∀ i j d,at2 ds i j=some d->∃ c,at2 es (lo+i) j=some c:=fun i j d hd=>by
    obtain ⟨h1,h2⟩:=c6l hd hz
    have hi:lo+i<es.length:=by omega
    have hee:=hle _ (List.getElem_mem hi)
    have hj:j<es[lo+i].length:=by rw [hee]; exact h2
    exact ⟨es[lo+i][j],by simp [at2,hi,hj]⟩
   rw [<- hl]
   refine .fs sz ds (loc id).1 ((loc id).2+lo * sz) cap (by rw [hl]; exact hcap) (.inr ⟨id,_,ho,rfl⟩) hz (fun i j=>val (lo+i) j) (fun i j d hd=>?_) (fun i j d hd=>?_) (fun i j d hd=>?_)
   ·obtain ⟨c,hcc⟩:=key i j d hd
    have := (hvv _ _ _ hcc).1
    rw [Nat.add_mul,<- Nat.add_assoc] at this; exact this
   ·obtain ⟨c,hcc⟩:=key i j d hd
    exact (hvv _ _ _ hcc).2.1
   ·obtain ⟨c,hcc⟩:=key i j d hd
    exact ih i j c d hcc hd (hvv _ _ _ hcc).2.2
 | rp id i off sz es cs ds ho hi hl hc ih =>
  intro v hv
  cases hv with
  | rp _ _ _ _ hid hs hx =>
   obtain ⟨hnz,this⟩:=hx sz es ho
   subst this
   obtain ⟨val,h1,h2,h3⟩:=g16 H ho hnz hi
   refine .fp ds off (loc id).1 ((loc id).2+i * sz) (.inr ⟨id,_,ho,rfl⟩) val (fun j d hd=>?_) (fun j d hd=>?_) (fun j d hd=>?_)
   ·have hlt:j<cs.length:=by rw [hl]; exact (gS9.1 hd).1
    exact h1 j _ (gG9 hlt)
   ·have hlt:j<cs.length:=by rw [hl]; exact (gS9.1 hd).1
    exact h2 j _ (gG9 hlt)
   ·have hlt:j<cs.length:=by rw [hl]; exact (gS9.1 hd).1
    exact ih j _ d (gG9 hlt) hd (h3 j _ (gG9 hlt))
theorem g5o {h0:Heap} {x y:AV} (hz:Fz h x y):Frz x->Fz h0 x y:=by
 induction hz with
 | refl x hx=>intro _; exact .refl x hx
 | nil sz=>intro _; exact .nil sz
 | dead x=>intro _; exact .dead x
 | agg cs ds hl hc ih=>intro hf; cases hf with|agg _ hf=>exact .agg cs ds hl fun i c d h1 h2=>ih i c d h1 h2 (hf c (mG9 h1))
 | tup cs ds hl hc ih=>intro hf; cases hf with|tup _ hf=>exact .tup cs ds hl fun i c d h1 h2=>ih i c d h1 h2 (hf c (mG9 h1))
 | fn f as bs cs ds hl hc hl2 hc2 ih ih2 =>
  intro hf
  cases hf with|fn _ _ _ ha hb=>exact .fn f as bs cs ds hl (fun i c d h1 h2=>ih i c d h1 h2 (ha c (mG9 h1))) hl2 (fun i c d h1 h2=>ih2 i c d h1 h2 (hb c (mG9 h1)))
 | rs=>intro hf; cases hf
 | rp=>intro hf; cases hf
theorem HSim.empty (P:Program) (B:Nat) (S:Nat->Prop) (loc:Loc) (w:World) (hS:∀ b,S b->b<w.heap.size):HSim P B S loc Heap.empty w :=
 ⟨fun _ _ _ h=>by simp [Heap.empty] at h,fun _ _ _ h=>by simp [Heap.empty] at h,fun _ h=>by simp [Heap.empty] at h,fun _ h=>by simp [Heap.empty] at h,fun _ _=>rfl,hS⟩
theorem c5z {w':World} {S1 S':Nat->Prop} {hf h':Heap} {locr loc':Loc} {f:Nat->Option Nat}
  (hff : ∀ k n,f k=some n->h'.us n/\∀ sz ds,h'.ob n=some (sz,ds)->∃ es,hf.ob k=some (sz,es)/\loc' n=locr k)
  {c d:AV} (hr:Ren f c d):∀ {v:Value},SimV P w' S1 hf locr c v->((∀ b,S1 b->S' b)\/Own c)->SimV P w' S' h' loc' d v:=by
 induction hr with
 | frz x hx =>
  intro v hv hS
  rcases hS with hS|hS
  ·exact SimV.frz (fun _ _=>rfl) hS hv hx
  ·exact SimV.frz (S:=S') (fun _ _=>rfl) (fun _ h=>h) (SimV.own hv hS) hx
 | agg cs ds hl hc ih =>
  intro v hv hS
  cases hv with
  | agg _ vs hl' h1 hcc =>
   refine .agg ds vs (by rw [hl',hl]) h1 fun i d hd=>?_
   have hlt:i<cs.length:=by rw [hl]; exact (gS9.1 hd).1
   refine ih i _ d (gG9 hlt) hd (hcc i _ (gG9 hlt)) (hS.imp (fun h=>h) fun ho=>?_)
   cases ho with|agg _ ho=>exact ho _ (List.getElem_mem hlt)
 | tup cs ds hl hc ih =>
  intro v hv hS
  cases hv with
  | tup _ vs hl' hcc =>
   refine .tup ds vs (by rw [hl',hl]) fun i d hd=>?_
   have hlt:i<cs.length:=by rw [hl]; exact (gS9.1 hd).1
   refine ih i _ d (gG9 hlt) hd (hcc i _ (gG9 hlt)) (hS.imp (fun h=>h) fun ho=>?_)
   cases ho with|tup _ ho=>exact ho _ (List.getElem_mem hlt)
 | rs id k lo len hk =>
  intro v hv _
  cases hv with
  | rs _ _ _ _ hid hs hx =>
   refine .rs k lo len v (hff id k hk).1 hs fun sz ds hd=>?_
   obtain ⟨es,h1,h2⟩:=(hff id k hk).2 sz ds hd
   rw [h2]; exact hx sz es h1
 | rp id k i off hk =>
  intro v hv _
  cases hv with
  | rp _ _ _ _ hid hs hx =>
   refine .rp k i off v (hff id k hk).1 hs fun sz ds hd=>?_
   obtain ⟨es,h1,h2⟩:=(hff id k hk).2 sz ds hd
   rw [h2]; exact hx sz es h1
theorem g05:∀ (frag:b3z) (h:Heap),(h.join frag).nx=h.nx+frag.length/\(∀ id,id<h.nx->(h.join frag).ob id=h.ob id)/\(∀ k,k<frag.length->(h.join frag).ob (h.nx+k)=frag[k]?)/\(∀ id,h.nx+frag.length<=id->(h.join frag).ob id=h.ob id) /\
  ∀ id,(h.join frag).us id ↔ h.us id\/(h.nx<=id/\id<h.nx+frag.length)
 | [],h=>⟨rfl,fun _ _=>rfl,fun k hk=>by simp at hk,fun _ _=>rfl,fun id=>⟨.inl,fun hh=>hh.elim (fun h=>h) fun hh=>by simp at hh; omega⟩⟩
 | o :: frag,h=>by
  obtain ⟨h1,h2,h3,h4,h5⟩:=g05 frag (h.new o)
  have e:h.join (o :: frag)=(h.new o).join frag:=rfl
  have hn:(h.new o).nx=h.nx+1:=rfl
  refine ⟨by rw [e,h1,hn]; simp; omega,fun id hid=>?_,fun k hk=>?_,fun id hid=>?_,fun id=>?_⟩
  ·rw [e,h2 id (by rw [hn]; omega)]; simp [Heap.new]; intro hh; omega
  ·rw [e]
   cases k with
   | zero=>rw [Nat.add_zero,h2 h.nx (by rw [hn]; omega)]; simp [Heap.new]
   | succ k =>
    have := h3 k (by simpa using hk)
    rw [hn] at this
    rw [show h.nx+(k+1)=h.nx+1+k by omega,this]; simp
  ·rw [e,h4 id (by rw [hn]; simp at hid; omega)]; simp [Heap.new]; intro hh; simp at hid; omega
  ·rw [e,h5 id,hn]
   simp only [Heap.new,List.length_cons]
   constructor
   ·rintro ((hh|hh)|hh)
    ·exact .inr (by omega)
    ·exact .inl hh
    ·exact .inr (by omega)
   ·rintro (hh|hh)
    ·exact .inl (.inr hh)
    ·by_cases e:id=h.nx
     ·exact .inl (.inl e)
     ·exact .inr (by omega)
theorem d6p {O:Orac} (hO:∀ f as r frag,O f as r frag->b0n P f as r frag) (H:HSim P B S loc h w) (hLd:r7j P w S) (hB:B<=w.heap.size) {f:String} {as:List AV} {r':AV} {h':Heap} (hk:b9o O f as h r' h') (hfr:∀ k,h.nx<=k->k<h'.nx->¬ h.us k)
  {id : FuncId} {fn:Func} (hf:P.funcs[id]?=some fn) (hn:fn.name=f) {vs:List Value} (hl:b3j P w S h loc as vs) :
  Calls P id vs.toArray w fun e w'=>∃ v S' loc',e = .returned v/\Upd P B S loc h w S' loc' h' w'/\SimV P w' S' h' loc' r' v:=by
 obtain ⟨as',r,frag,frag',hz,hor,hcase,hren,hfl,hfo,rfl⟩:=hk
 have hpc:=hO _ _ _ _ hor id fn hf hn
 -- the arguments,read
 have hzl:∀ {as as':List AV},FzL h as as'->as.length=as'.length/\∀ (i:Nat) a b,as[i]?=some a->as'[i]?=some b->Fz h a b:=by
  intro as as' hz
  induction hz with
  | nil=>exact ⟨rfl,fun i a b h=>by simp at h⟩
  | cons a b ih =>
   refine ⟨by simp [ih.1],fun i x y hx hy=>?_⟩
   cases i with
   | zero=>simp at hx hy; subst hx hy; exact a
   | succ i=>exact ih.2 i x y (by simpa using hx) (by simpa using hy)
 obtain ⟨hlen,hfz⟩:=hzl hz
 have hsz:vs.toArray.size=as'.length:=by rw [hl.arr.1,hlen]
 have harg:∀ (i:Nat) a,as'[i]?=some a->∃ x,as[i]?=some x/\Fz h x a/\SimV P w S h loc x (vs.toArray.getD i undef):=fun i a ha=>by
  have hlt:i<as.length:=by rw [hlen]; exact (gS9.1 ha).1
  exact ⟨_,gG9 hlt,hfz i _ a (gG9 hlt) ha,hl.arr.2 i _ (gG9 hlt)⟩
 have hblk:∀ id,(h.ob id).isSome->(loc id).1<w.heap.size:=fun id hi=>by
  obtain ⟨o,ho⟩:=Option.isSome_iff_exists.1 hi; exact H.blk_lt ho
 -- how it goes on y18 the call
 have fin:∀ (S1:Nat->Prop) (v:Value) (w':World) (locr:Loc) (S':Nat->Prop),Below w.heap.size w w'->HSim P w.heap.size S1 locr (P1a frag) w'->SimV P w' S1 (P1a frag) locr r v ->
   (∀ b,S b->S' b)->(∀ b,S' b->S b\/w.heap.size<=b)->(∀ b,S' b->b<w'.heap.size)->(∀ k,k<frag.length->¬ S' (locr k).1)->((∀ b,S1 b->S' b)\/(Own r/\d5v frag)) ->
   ∃ v' S2 loc',(Ending.returned v = .returned v')/\Upd P B S loc h w S2 loc' (h.join frag') w'/\SimV P w' S2 (h.join frag') loc' r' v':=by
  intro S1 v w' locr S' hbel hfs hsr hsub hsup hSlt hnotS hown
  obtain ⟨j1,j2,j3,j4,j5⟩:=g05 frag' h
  have hout:∀ i,h.us i->¬ (h.nx<=i/\i<h.nx+frag.length):=fun i hi hh=>hfr i hh.1 (by rw [j1,hfl]; exact hh.2) hi
  let loc':Loc:=fun i=>if h.nx<=i/\i<h.nx+frag.length then locr (i - h.nx) else loc i
  have hl1:∀ i,h.us i->loc' i=loc i:=fun i hi=>by simp only [loc',if_neg (hout i hi)]
  have hl2:∀ k,k<frag.length->loc' (h.nx+k)=locr k:=fun k hk=>by
   have : h.nx<=h.nx+k/\h.nx+k<h.nx+frag.length:=by omega
   simp only [loc',if_pos this]; congr 1; omega
  have j0:∀ i,¬ (h.nx<=i/\i<h.nx+frag.length)->(h.join frag').ob i=h.ob i:=fun i hi=>by
   by_cases hlt:i<h.nx
   ·exact j2 i hlt
   ·exact j4 i (by rw [hfl]; omega)
  have hcarry:∀ x v,SimV P w S h loc x v->SimV P w' S' (h.join frag') loc' x v:=fun x v hx =>
   SimV.carry (h:=h) (loc:=loc) (fun b hb=>hbel.block b (H.lt b hb)) hsub (fun i hi=>(j5 i).2 (.inl hi)) (fun i sz es hi he=>by
    rw [j0 i (hout i hi)] at he
    exact ⟨es,he,hl1 i hi,r7x (hbel.block _ (H.blk_lt he))⟩) hx
  have hff:∀ k n,(fun k=>if k<frag.length then some (h.nx+k) else none) k=some n->(h.join frag').us n/\∀ sz ds,(h.join frag').ob n=some (sz,ds)->∃ es,(P1a frag).ob k=some (sz,es)/\loc' n=locr k:=by
   intro k n hk
   simp only at hk
   split at hk
   ·rename_i hlt
    cases hk
    refine ⟨(j5 _).2 (.inr (by rw [hfl]; omega)),fun sz ds hd=>?_⟩
    rw [j3 k (by rw [hfl]; exact hlt)] at hd
    obtain ⟨⟨sz0,es⟩,hes⟩:∃ o,frag[k]?=some o:=⟨_,gG9 hlt⟩
    obtain ⟨ds',hds',_⟩:=hfo k sz0 es hes
    rw [hd] at hds'
    cases hds'
    exact ⟨es,hes,hl2 k hlt⟩
   ·cases hk
  have hobc:∀ i,((h.join frag').ob i).isSome->(h.us i/\(h.ob i).isSome)\/∃ k,i=h.nx+k/\k<frag.length:=fun i hi=>by
   by_cases h1:h.nx<=i/\i<h.nx+frag.length
   ·exact .inr ⟨i - h.nx,by omega,by omega⟩
   ·rw [j0 i h1] at hi
    obtain ⟨o,ho⟩:=Option.isSome_iff_exists.1 hi
    exact .inl ⟨H.id_lt ho,hi⟩
  have hfsome:∀ k,k<frag.length->((P1a frag).ob k).isSome:=fun k hk=>by simp [P1a,hk]
  refine ⟨v,S',loc',rfl,⟨hcarry,⟨fun i sz ds hd=>?_,fun i i' hne hi hi'=>?_,fun i hi=>?_,fun i hi=>?_,fun i hi=>?_,hSlt⟩,hsub,fun b hb=>(hsup b hb).imp (fun h=>h) fun hh=>by omega,hbel.mono hB,fun q hq hn=>⟨hbel.block q hq,fun i hi=>(hobc i hi).elim (fun ⟨h1,h2⟩=>by rw [hl1 i h1]; exact hn i h2) (fun ⟨k,e,hk⟩=>by subst e; rw [hl2 k hk]; have:=hfs.own k (hfsome k hk); omega)⟩⟩,?_⟩
  ·rcases hobc i (by rw [hd]; rfl) with ⟨h1,_⟩|⟨k,rfl,hk⟩
   ·rw [j0 i (hout i h1)] at hd
    exact (H.obs i sz ds hd).later (hl1 i h1) (hbel.block _ (H.blk_lt hd)) hcarry
   ·rw [j3 k (by rw [hfl]; exact hk)] at hd
    obtain ⟨⟨sz0,es⟩,hes⟩:∃ o,frag[k]?=some o:=⟨_,gG9 hk⟩
    obtain ⟨ds',hds',hel,hdl,hren'⟩:=hfo k sz0 es hes
    rw [hd] at hds'; cases hds'
    have hat:=hfs.obs k sz es hes
    refine ⟨fun hnz=>?_,fun hz hne=>?_,by rw [hl2 k hk]; exact hat.b⟩
    rotate_left
    ·cases ds with
     | nil =>
      have : es=[]:=List.eq_nil_of_length_eq_zero hel
      subst this
      have := hat.m hz (by simp)
      rw [hl2 k hk]; exact this
     | cons d ds =>
      have := hdl d (by simp)
      rw [hz] at this
      rw [List.length_eq_zero_iff.1 this] at hne
      exact absurd rfl hne
    obtain ⟨⟨arr,ty,hb,hfit⟩,hlen',val,hv⟩:=hat.o hnz
    refine ⟨⟨arr,ty,by rw [hl2 k hk]; exact hb,by rw [hl2 k hk,<- hel]; exact hfit⟩,hdl,val,fun a b d hh=>?_⟩
    obtain ⟨ha,hb'⟩:=c6l hh hdl
    have ha':a<es.length:=by rw [hel]; exact ha
    have he:=hlen' _ (List.getElem_mem ha')
    have hc:at2 es a b=some (es[a][b]'(by rw [he]; exact hb')):=by simp [at2,ha',he,hb']
    obtain ⟨d',hd',hrn⟩:=hren' a b _ hc
    rw [hh] at hd'; cases hd'
    obtain ⟨e1,e2,e3⟩:=hv a b _ hc
    refine ⟨by rw [hl2 k hk]; exact e1,e2,c5z hff hrn e3 (hown.imp (fun h=>h) fun ho=>ho.2 _ (mG9 hes) _ (List.getElem_mem ha') _ (List.getElem_mem _))⟩
  ·rcases hobc i hi with ⟨h1,h2⟩|⟨k,rfl,hk⟩ <;> rcases hobc i' hi' with ⟨h1',h2'⟩|⟨k',rfl,hk'⟩
   ·rw [hl1 i h1,hl1 i' h1']; exact H.inj i i' hne h2 h2'
   ·rw [hl1 i h1,hl2 k' hk']; have:=hblk i h2; have:=hfs.own k' (hfsome k' hk'); omega
   ·rw [hl1 i' h1',hl2 k hk]; have:=hblk i' h2'; have:=hfs.own k (hfsome k hk); omega
   ·rw [hl2 k hk,hl2 k' hk']; exact hfs.inj k k' (by omega) (hfsome k hk) (hfsome k' hk')
  ·rcases hobc i hi with ⟨h1,h2⟩|⟨k,rfl,hk⟩
   ·rw [hl1 i h1]; intro hS'
    rcases hsup _ hS' with hh|hh
    ·exact H.notS i h2 hh
    ·have := hblk i h2; omega
   ·rw [hl2 k hk]; exact hnotS k hk
  ·rcases hobc i hi with ⟨h1,h2⟩|⟨k,rfl,hk⟩
   ·rw [hl1 i h1]; exact H.own i h2
   ·rw [hl2 k hk]; have:=hfs.own k (hfsome k hk); omega
  ·have hi':¬ (h.us i\/(h.nx<=i/\i<h.nx+frag'.length)):=fun hh=>hi ((j5 i).2 hh)
   rw [j0 i (fun hh=>hi' (.inr (by rw [hfl]; exact hh)))]; exact H.fresh i (fun hh=>hi' (.inl hh))
  ·exact c5z hff hren hsr (hown.imp (fun h=>h) fun ho=>ho.1)
 rcases hcase with hfr|hown
 ·-- all arguments are only read
  refine (hpc w S vs.toArray H.lt hLd hsz fun i a ha=>?_).mono ?_
  ·obtain ⟨x,hx,hfx,hs⟩:=harg i a ha
   have hf:=hfr x (mG9 hx)
   have h0:=c5v (P:=P) (B:=B) (loc:=fun _=>(0,0)) (HSim.empty P B S _ w H.lt) (g5o (h0:=Heap.empty) hfx hf) (SimV.frz (h':=Heap.empty) (loc':=fun _=>(0,0)) (fun _ _=>rfl) (fun _ h=>h) hs hf)
   refine SimV.carry (h:=Heap.empty) (S:=fun b=>S b\/b7d (fun _=>(0,0)) Heap.empty b) (fun _ _=>rfl) (fun b hb=>hb.elim (fun h=>h) fun ⟨_,_,hh,_⟩=>by simp [Heap.empty] at hh) (fun _ h=>h) (fun i sz es hi _=>by simp [Heap.empty] at hi) h0
  ·rintro e w' ⟨v,S1,locr,rfl,hbel,hsub,hsup,hfs,hsr⟩
   exact fin S1 v w' locr S1 hbel hfs hsr hsub hsup hfs.lt (fun k hk=>hfs.notS k (by simp [P1a,hk])) (.inl fun _ h=>h)
 ·refine (hpc w (fun b=>S b\/b7d loc h b) vs.toArray (fun b hb=>hb.elim (H.lt b) fun ⟨id,o,ho,e⟩=>by rw [e]; exact H.blk_lt ho) (hLd.later (B:=B) (fun _ h=>.inl h) (fun _ _=>rfl) (Nat.le_refl _)) hsz fun i a ha=>?_).mono ?_
  ·obtain ⟨x,hx,hfx,hs⟩:=harg i a ha
   exact c5v H hfx hs
  ·rintro e w' ⟨v,S1,locr,rfl,hbel,hsub,hsup,hfs,hsr⟩
   exact fin S1 v w' locr S hbel hfs hsr (fun _ h=>h) (fun _ h=>.inl h) (fun b hb=>Nat.lt_of_lt_of_le (H.lt b hb) hbel.size) (fun k hk hb=>by
    have := H.lt _ hb; have:=hfs.own k (by simp [P1a,hk]); omega) (.inr hown)
theorem g8v {O:Orac} (hO:∀ f as h r h',O.w f as h r h'->(b0n P).w f as h r h') (H:HSim P B S loc h w) (hLd:r7j P w S) (hB:B<=w.heap.size) (htop:∀ k,h.nx<=k->¬ h.us k) {f:String} {as:List AV} {r:AV} {h':Heap} (hk:O.w f as h r h') (hm:b2k f=none)
  {id : FuncId} {fn:Func} (hf:P.funcs[id]?=some fn) (hn:fn.name=f) {vs:List Value} (hl:b3j P w S h loc as vs) :
  Calls P id vs.toArray w fun e w'=>∃ v S' loc',e = .returned v/\Upd P B S loc h w S' loc' h' w'/\SimV P w' S' h' loc' r v :=
 x3h hm (hO _ _ _ _ _ hk) id fn hf hn B w S loc vs.toArray H hB htop hLd hl.arr.1 hl.arr.2
end
end Go.Nw
