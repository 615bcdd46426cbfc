/- Own objects: rules for what makes, reads, writes and hands them over. -/
import Derived.Test.YtojneiildpnpiaaNwModel
set_option linter.all false
namespace Go.Nw
theorem d4e {h:Heap} {o:Ob} {i:Nat} (hl:i<h.nx):(h.new o).ob i=h.ob i:=by
 simp only [Heap.new]; rw [if_neg (by omega)]
theorem d4d {h:Heap} {o:Ob} {i:Nat} (hl:i=h.nx):(h.new o).ob i=some o:=by
 simp only [Heap.new]; rw [if_pos hl]
theorem g3s {h:Heap} {o:Option Ob} {i j:Nat} (hl:¬ i=j):(h.upd j o).ob i=h.ob i:=by
 simp only [Heap.upd]; rw [if_neg hl]
theorem c53 {h:Heap} {o:Option Ob} {i j:Nat} (hl:i=j):(h.upd j o).ob i=o:=by
 simp only [Heap.upd]; rw [if_pos hl]
theorem d8k {p:Prop}:@b4o True ⟨p⟩=p:=by simp [b4o]
theorem b3n {α:Type} {f:α->List AV} {l:List α} {i:Int} {x:α} {sz:Nat} {k:Nat->List (List AV)->List AV->Prop} (hx:get l i=some x) :
  @c7j (some (sz,List.map f l)) i.toNat ⟨k⟩=k sz (List.map f l) (f x):=by
 show b7r _ _ _=_
 simp only [g2v,List.getElem?_map,b8j hx,Option.map_some,iE9]
 apply propext; constructor
 ·rintro ⟨_,rfl,hk⟩; exact hk
 ·exact fun hk=>⟨_,rfl,hk⟩
theorem l5g {l:List Int} {n:Nat} {v:Int}:(List.map eI l).set n [I v]=List.map eI (l.set n v):=by rw [List.map_set]; rfl
theorem l5f {l:List Bool} {n:Nat} {v:Bool}:(List.map eB l).set n [B v]=List.map eB (l.set n v):=by rw [List.map_set]; rfl
def mks {α:Type} (b:Nat) (n:Int) (z:α):Option (List α):=if 0<=n/\n * b<=2 ^ 47/\n<2 ^ 63 then some (List.replicate n.toNat z) else none
theorem j8a {α:Type} {b:Nat} {n:Int} {z:α} {l:List α} (h:mks b n z=some l):0<=n/\n * b<=2 ^ 47/\n<2 ^ 63/\l=List.replicate n.toNat z:=by
 unfold mks at h; split at h
 ·rename_i hc; cases h; exact ⟨hc.1,hc.2.1,hc.2.2,rfl⟩
 ·cases h
theorem j8b {α:Type} {b:Nat} {n:Int} {z:α} (h0:0<=n) (h1:n * b<=2 ^ 47) (h2:n<2 ^ 63):mks b n z=some (List.replicate n.toNat z):=by
 unfold mks; rw [if_pos ⟨h0,h1,h2⟩]
def ap {α:Type} (b:Nat) (l m:List α):Option (List α):=if (l.length+m.length) * b<=2 ^ 40 then some (l++m) else none
theorem r9o {α:Type} {b:Nat} {l m r:List α} (h:ap b l m=some r):(l.length+m.length) * b<=2 ^ 40/\r=l++m:=by
 unfold ap at h; split at h
 ·rename_i hc; cases h; exact ⟨hc,rfl⟩
 ·cases h
theorem b9k {α:Type} {b:Nat} {l m:List α} (h:(l.length+m.length) * b<=2 ^ 40):ap b l m=some (l++m):=by
 unfold ap; rw [if_pos h]
def d2j (sz:Nat) (zs:List Value) (b:Nat) (l c:AV) (h:Heap) [k:K2]:Prop:=∃ r h',eff (.mksl sz zs b (.t 0) (.t 1)) (evT fun i=>if i=0 then l else c) h=some (r,h')/\k.k r h'
def b8k (sz b:Nat) (s x:AV) (h:Heap) [k:K2]:Prop:=∃ r h',eff (.app sz b (.t 0) (.t 1)) (evT fun i=>if i=0 then s else x) h=some (r,h')/\k.k r h'
def d18 (sz:Nat) (vs:List AV) (h:Heap) [k:K2]:Prop:=(vs.all fun x=>b2d x && (cellsOf x).length == sz)=true/\k.k (.rs h.nx 0 vs.length) (h.new (sz,vs.map cellsOf))
section
variable {O:Orac} {d:Option Nat} {g:Nat} {b0:Bool} {r:List XO} {K:Slots->Heap->Prop} {t:Slots} {h:Heap} {k:AV->Heap->Prop}
theorem j4n {sz zs b l c}:b0d O (⟨d,none,.mksl sz zs b l c⟩ :: r) K t h=@iop O (.mksl sz zs b l c) t h ⟨fun v h'=>b0d O r K (b0l t d v) h'⟩:=b2n rfl
theorem j5o {sz zs b l c}:b0d O (⟨d,some (g,b0),.mksl sz zs b l c⟩ :: r) K t h=@b2h (t g) b0 ⟨@iop O (.mksl sz zs b l c) (upd t g (B b0)) h ⟨fun v h'=>b0d O r K (b0l (upd t g (B b0)) d v) h'⟩⟩ ⟨b0d O r K (b0l (upd t g (B (!b0))) d U) h⟩ ⟨b0d O r K (b0l t d U) h⟩:=b2l rfl
theorem j31 {sz b s x}:b0d O (⟨d,none,.app sz b s x⟩ :: r) K t h=@iop O (.app sz b s x) t h ⟨fun v h'=>b0d O r K (b0l t d v) h'⟩:=b2n rfl
theorem j42 {sz b s x}:b0d O (⟨d,some (g,b0),.app sz b s x⟩ :: r) K t h=@b2h (t g) b0 ⟨@iop O (.app sz b s x) (upd t g (B b0)) h ⟨fun v h'=>b0d O r K (b0l (upd t g (B b0)) d v) h'⟩⟩ ⟨b0d O r K (b0l (upd t g (B (!b0))) d U) h⟩ ⟨b0d O r K (b0l t d U) h⟩:=b2l rfl
theorem j35 {sz vs}:b0d O (⟨d,none,.bsl sz vs⟩ :: r) K t h=@iop O (.bsl sz vs) t h ⟨fun v h'=>b0d O r K (b0l t d v) h'⟩:=b2n rfl
theorem j46 {sz vs}:b0d O (⟨d,some (g,b0),.bsl sz vs⟩ :: r) K t h=@b2h (t g) b0 ⟨@iop O (.bsl sz vs) (upd t g (B b0)) h ⟨fun v h'=>b0d O r K (b0l (upd t g (B b0)) d v) h'⟩⟩ ⟨b0d O r K (b0l (upd t g (B (!b0))) d U) h⟩ ⟨b0d O r K (b0l t d U) h⟩:=b2l rfl
theorem j6o {sz zs b l c}:@iop O (.mksl sz zs b l c) t h ⟨k⟩=@d2j sz zs b (evT t l) (evT t c) h ⟨k⟩:=by
 simp only [iop,op1,d2j,eff,evT,if_true,Nat.one_ne_zero,if_false]
theorem j52 {sz b s x}:@iop O (.app sz b s x) t h ⟨k⟩=@b8k sz b (evT t s) (evT t x) h ⟨k⟩:=by
 simp only [iop,op1,b8k,eff,evT,if_true,Nat.one_ne_zero,if_false]
theorem j56 {sz vs}:@iop O (.bsl sz vs) t h ⟨k⟩=@d18 sz (vs.map (evT t)) h ⟨k⟩:=by
 simp only [iop,op1,d18,eff,List.length_map]
 apply propext; constructor
 ·rintro ⟨r,h',he,hk⟩
  split at he
  ·rename_i hc; cases he; exact ⟨hc,hk⟩
  ·cases he
 ·rintro ⟨hc,hk⟩
  exact ⟨_,_,by rw [if_pos hc],hk⟩
def J0r (sz:Nat) (vs:List AV) (h:Heap) [k:K2]:Prop:=(vs.all fun x=>b2d x && (cellsOf x).length == sz)=true/\k.k (.fs sz (vs.map cellsOf)) h
theorem J3x {sz vs}:b0d O (⟨d,none,.bslF sz vs⟩ :: r) K t h=@iop O (.bslF sz vs) t h ⟨fun v h'=>b0d O r K (b0l t d v) h'⟩:=b2n rfl
theorem J3z {sz vs}:b0d O (⟨d,some (g,b0),.bslF sz vs⟩ :: r) K t h=@b2h (t g) b0 ⟨@iop O (.bslF sz vs) (upd t g (B b0)) h ⟨fun v h'=>b0d O r K (b0l (upd t g (B b0)) d v) h'⟩⟩ ⟨b0d O r K (b0l (upd t g (B (!b0))) d U) h⟩ ⟨b0d O r K (b0l t d U) h⟩:=b2l rfl
theorem P40 {sz vs}:@iop O (.bslF sz vs) t h ⟨k⟩=@J0r sz (vs.map (evT t)) h ⟨k⟩:=by
 simp only [iop,op1,J0r,eff]
 apply propext; constructor
 ·rintro ⟨r,h',he,hk⟩
  split at he
  ·rename_i hc; cases he; exact ⟨hc,hk⟩
  ·cases he
 ·rintro ⟨hc,hk⟩
  exact ⟨_,_,by rw [if_pos hc],hk⟩
theorem J1p {sz vs}:@J0r sz vs h ⟨k⟩=@b4o ((vs.all fun x=>b2d x && (cellsOf x).length == sz)=true) ⟨k (.fs sz (vs.map cellsOf)) h⟩:=rfl
theorem d9k {sz vs}:@d18 sz vs h ⟨k⟩=@b4o ((vs.all fun x=>b2d x && (cellsOf x).length == sz)=true) ⟨k (.rs h.nx 0 vs.length) (h.new (sz,vs.map cellsOf))⟩:=rfl
theorem d2k {α:Type} {f:α->List AV} {z:α} {sz:Nat} {zs:List Value} {b:Nat} {n:Int} {l:List α} (hz:zs.map .v=f z) (hm:mks b n z=some l)
  (hk : k (.rs h.nx 0 (List.length l)) (h.new (sz,List.map f l))):@d2j sz zs b (I n) (I n) h ⟨k⟩:=by
 obtain ⟨h0,h1,h2,rfl⟩:=j8a hm
 rw [List.length_replicate,List.map_replicate,<- hz] at hk
 refine ⟨_,_,?_,hk⟩
 simp only [eff,evT,if_true,Nat.one_ne_zero,if_false]
 rw [if_pos ⟨trivial,h0,h1,h2⟩]
def b5y (h:Heap) (v:AV) (o:Ob):Heap:=(match v with | .rs id _ _=>h.upd id none|_=>h).new o
theorem c6k {a:Option Addr} {b c:Nat} {o:Ob}:b5y h (.v (.slice a b c)) o=h.new o:=rfl
theorem z7t {id lo len:Nat} {o:Ob}:b5y h (.rs id lo len) o=(h.upd id none).new o:=rfl
def b2a (h:Heap) (v:AV) (sz:Nat) (rows:List (List AV)):Prop:=(v = .v (.slice none 0 0)/\rows=[])\/∃ id,v = .rs id 0 rows.length/\h.ob id=some (sz,rows)/\id<h.nx
def d03 (h:Heap) (v:AV) (sz:Nat) (rows:List (List AV)):Prop:=v = .fs sz rows\/∃ id,v = .rs id 0 rows.length/\h.ob id=some (sz,rows)
def b07 (v:AV) (i:Nat):Prop:=match v with | .rs id _ _=>¬ id=i|_=>True
theorem b3a {α:Type} {f:α->List AV} {sz b:Nat} {s x:AV} {l m r:List α} (hs:b2a h s sz (List.map f l)) (hx:d03 h x sz (List.map f m)) (hd:∀ i,¬ b07 s i->b07 x i) (hn:s = .v (.slice none 0 0)->¬ m=[])
  (ha : ap b l m=some r) (hk:k (.rs h.nx 0 (List.length r)) (b5y h s (sz,List.map f r))):@b8k sz b s x h ⟨k⟩:=by
 obtain ⟨hb,rfl⟩:=r9o ha
 rw [List.length_append,List.map_append] at hk
 refine ⟨_,_,?_,hk⟩
 simp only [eff,evT,if_true,Nat.one_ne_zero,if_false]
 rcases hs with ⟨rfl,hl⟩|⟨id,rfl,ho,hlt⟩
 ·have hl':l=[]:=by simpa using hl
  subst hl'
  have hm:¬ m.length=0:=fun e=>hn rfl (List.length_eq_zero_iff.1 e)
  rcases hx with rfl|⟨id2,rfl,ho2⟩
  ·simp only [List.length_map,hm,if_false,List.map_nil,List.nil_append,List.length_nil,Nat.zero_add,c6k]
   rw [if_pos ⟨trivial,by simpa using hb⟩]
  ·simp only [ho2,bS9,List.length_map,hm,if_false,List.map_nil,List.nil_append,List.length_nil,Nat.zero_add,c6k]
   rw [if_pos ⟨trivial,by simp,by simpa using hb⟩]
   simp [List.take_of_length_le]
 ·rcases hx with rfl|⟨id2,rfl,ho2⟩
  ·simp only [ho,bS9,List.length_map,z7t]
   rw [if_pos ⟨trivial,trivial,by simp,hb⟩]
   simp [List.take_of_length_le]
  ·have hne:id≠id2:=fun e=>hd id (by simp [b07]) e.symm
   simp only [ho,ho2,bS9,List.length_map,z7t]
   rw [if_pos ⟨trivial,trivial,hne,by simp,by simp,hb⟩]
   simp [List.take_of_length_le]
theorem s1h {sz:Nat}:b2a h (.v (.slice none 0 0)) sz []:=.inl ⟨rfl,rfl⟩
theorem c0o {α:Type} {f:α->List AV} {sz:Nat}:b2a h (.v (.slice none 0 0)) sz (List.map f []):=.inl ⟨rfl,rfl⟩
theorem b2v {id n sz:Nat} {rows:List (List AV)} (ho:h.ob id=some (sz,rows)) (hl:n=rows.length) (hn:id<h.nx):b2a h (.rs id 0 n) sz rows:=.inr ⟨id,by rw [hl],ho,hn⟩
theorem b4t {id n sz:Nat} {rows:List (List AV)} (ho:h.ob id=some (sz,rows)) (hl:n=rows.length):d03 h (.rs id 0 n) sz rows:=.inr ⟨id,by rw [hl],ho⟩
theorem b4r {s:AV} {id lo n:Nat} (hs:b07 s id):∀ i,¬ b07 s i->b07 (.rs id lo n) i:=fun i hi e=>hi (e ▸ hs)
theorem b1w {a:Value} {i:Nat}:b07 (.v a) i:=trivial
theorem b1y {id lo n i:Nat} (hl:¬ id=i):b07 (.rs id lo n) i:=hl
theorem b1v {v:AV} {sz:Nat} {rows:List (List AV)} (hv:b2a h v sz rows) {i:Nat} (hi:h.nx<=i):b07 v i:=by
 rcases hv with ⟨rfl,_⟩|⟨id,rfl,_,hlt⟩
 ·trivial
 ·exact fun e=>by omega
theorem b9m {es:List (List AV)} {i j:Nat} {c:AV} (h:at2 es i j=some c):∃ e,es[i]?=some e/\e[j]?=some c:=by
 unfold at2 at h
 cases he:es[i]? with
 | none=>simp [he] at h
 | some e=>exact ⟨e,rfl,by rw [he] at h; exact h⟩
theorem r8x {α:Type} {f:α->List AV} {v:AV} {sz:Nat} {l:List α} (hv:b2a h v sz (List.map f l)) (hf:∀ a,∀ c∈f a,Frz c) (hl:∀ a,(f a).length=sz):Fz h v (.fs sz (List.map f l)):=by
 rcases hv with ⟨rfl,hr⟩|⟨id,rfl,ho,_⟩
 ·rw [hr]; exact .nil sz
 ·refine .rs id 0 _ sz _ _ ho (by simp) rfl (fun d hd=>?_) (fun i j c d h1 h2=>?_)
  ·obtain ⟨a,_,rfl⟩:=List.mem_map.1 hd; exact hl a
  ·rw [Nat.zero_add] at h1
   rw [h1] at h2; cases h2
   obtain ⟨e,he,hc⟩:=b9m h1
   obtain ⟨a,_,rfl⟩:=List.mem_map.1 (mG9 he)
   exact .refl _ (hf a _ (mG9 hc))
theorem b29 {α:Type} {f:α->List AV} {id n sz:Nat} {l:List α} (ho:h.ob id=some (sz,List.map f l)) (hn:n=List.length l) (hf:∀ a,∀ c∈f a,Frz c) (hl:∀ a,(f a).length=sz):Fz h (.rs id 0 n) (.fs sz (List.map f l)):=by
 subst hn
 refine .rs id 0 _ sz _ _ ho (by simp) (by simp) (fun d hd=>?_) (fun i j c d h1 h2=>?_)
 ·obtain ⟨a,_,rfl⟩:=List.mem_map.1 hd; exact hl a
 ·rw [Nat.zero_add] at h1
  rw [h1] at h2; cases h2
  obtain ⟨e,he,hc⟩:=b9m h1
  obtain ⟨a,_,rfl⟩:=List.mem_map.1 (mG9 he)
  exact .refl _ (hf a _ (mG9 hc))
theorem b5h {xs ys:List AV} (hz:FzL h xs ys):xs.length=ys.length/\∀ (i:Nat) c d,xs[i]?=some c->ys[i]?=some d->Fz h c d:=by
 induction hz with
 | nil=>exact ⟨rfl,fun i c d hc=>by simp at hc⟩
 | cons a _ ih =>
  refine ⟨by simp [ih.1],fun i c d hc hd=>?_⟩
  cases i with
  | zero=>simp at hc hd; subst hc; subst hd; exact a
  | succ i=>simp at hc hd; exact ih.2 i c d hc hd
theorem d8a {xs ys:List AV} (hz:FzL h xs ys):Fz h (.tup xs) (.tup ys):=.tup _ _ (b5h hz).1 (b5h hz).2
theorem d79 {xs ys:List AV} (hz:FzL h xs ys):Fz h (.agg xs) (.agg ys):=.agg _ _ (b5h hz).1 (b5h hz).2
theorem x65 {id sz:Nat} {xs ys:List AV} (ho:h.ob id=some (sz,[xs])) (hz:FzL h xs ys):Fz h (.rp id 0 0) (.fp ys 0):=.rp id 0 0 sz _ _ _ ho rfl (b5h hz).1 (b5h hz).2
theorem b8e {n:Nat} {v r:AV} (ht:t n=v) (hz:Fz h v r):b4b [.t n] r [] ⟨t,h⟩:=by
 subst ht; exact .inl ⟨rfl,[t n],rfl,hz⟩
theorem d66 {n m:Nat} {v r u s:AV} (ht:t n=v) (hu:t m=u) (hz:Fz h v r) (hz':Fz h u s):b4b [.t n,.t m] (.tup [r,s]) [] ⟨t,h⟩:=by
 subst ht; subst hu; exact .inl ⟨rfl,[t n,t m],rfl,d8a (.cons hz (.cons hz' .nil))⟩
theorem c2j {b:XCode} {Q:XExit->Slots->Heap->Prop} {t':Slots} {h':Heap} (hg:b6u ⟨t,h⟩ ⟨t',h'⟩) (hw:cw O b Q t' h'):cw O (.seq .ghost b) Q t h:=⟨⟨t',h'⟩,hg,hw⟩
def B8r (h:Heap) (v:AV):Heap:=match v with | .rs id _ _=>h.upd id none | .rp id _ _=>h.upd id none|_=>h
theorem d52 {id:Nat}:h.upd id none=h.but (· == id):=by
 simp only [Heap.upd,Heap.but,Heap.mk.injEq,and_true]
 funext j; by_cases e:j=id <;> simp [e]
theorem g60:h=h.but fun _=>false:=by simp [Heap.but]
theorem p2v {F:Nat->Bool} {s:Nat} {y:AV} (hc:b7x (h.only F) (t s) y):b6u ⟨t,h⟩ ⟨upd t s y,h.but F⟩:=by
 refine ⟨F,rfl,rfl,fun id sz es' ho=>?_,fun j=>?_⟩
 ·have ho':(if F id then none else h.ob id)=some (sz,es'):=ho
  split at ho'
  ·cases ho'
  ·rename_i hf
   exact ⟨by simpa using hf,es',ho',.inl rfl,fun i j d hd=>⟨d,hd,.inl rfl⟩⟩
 ·show b7x _ (t j) (upd t s y j)
  by_cases e:j=s
  ·subst e; rw [g3t]; exact hc
  ·rw [g3r e]; exact .inl rfl
theorem g9j {α:Type} {f:α->List AV} {b:XCode} {Q:XExit->Slots->Heap->Prop} {s:Nat} {v:AV} {sz:Nat} {l:List α} (hs:t s=v) (hv:b2a h v sz (List.map f l)) (hf:∀ a,∀ c∈f a,Frz c) (hl:∀ a,(f a).length=sz)
  (hw : cw O b Q (upd t s (.fs sz (List.map f l))) (B8r h v)):cw O (.seq .ghost b) Q t h:=by
 subst hs
 have hfr:Frz (.fs sz (List.map f l)):=.fs _ _ fun e he c hc=>by obtain ⟨a,_,rfl⟩:=List.mem_map.1 he; exact hf a c hc
 rcases hv with ⟨hv,hr⟩|⟨id,hv,ho,hlt⟩
 ·refine c2j (h':=B8r h (t s)) ?_ hw
  rw [hv]
  have := p2v (t:=t) (h:=h) (F:=fun _=>false) (s:=s) (y:=.fs sz (List.map f l)) (.inr ⟨by rw [hv,hr]; exact .nil sz,hfr⟩)
  rw [<- g60] at this
  exact this
 ·refine c2j (h':=B8r h (t s)) ?_ hw
  rw [hv]
  have := p2v (t:=t) (h:=h) (F:=(· == id)) (s:=s) (y:=.fs sz (List.map f l)) (.inr ⟨by rw [hv]; exact b29 (by simp [Heap.only,ho]) (by simp) hf hl,hfr⟩)
  rw [<- d52] at this
  exact this
theorem j07 {a:Value}:B8r h (.v a)=h:=rfl
theorem d75 {id lo n:Nat}:B8r h (.rs id lo n)=h.upd id none:=rfl
theorem g9k {α:Type} {f:α->List AV} {b:XCode} {Q:XExit->Slots->Heap->Prop} {id sz:Nat} {l:List α} {a:α} {raw:List AV} (F:Nat->Bool) (ho:h.ob id=some (sz,List.map f l++[raw])) (hi:F id=false)
  (hz : FzL (h.only F) raw (f a)) (hf:∀ a,∀ c∈f a,Frz c) (hl:∀ a,(f a).length=sz) (hw:cw O b Q t ((h.but F).upd id (some (sz,List.map f (l++[a]))))):cw O (.seq .ghost b) Q t h:=by
 refine c2j (t':=t) (h':=(h.but F).upd id (some (sz,List.map f (l++[a])))) ⟨F,rfl,rfl,fun j n es' hj=>?_,fun _=>.inl rfl⟩ hw
 have hj':(if j=id then some (sz,List.map f (l++[a])) else (if F j then none else h.ob j))=some (n,es'):=hj
 split at hj'
 ·rename_i e; subst e
  simp only [iE9,Prod.mk.injEq] at hj'
  obtain ⟨rfl,rfl⟩:=hj'
  refine ⟨hi,_,ho,.inr ⟨by simp,fun e he=>?_⟩,fun i k d hd=>?_⟩
  ·obtain ⟨x,_,rfl⟩:=List.mem_map.1 he; exact hl x
  ·rw [List.map_append] at hd
   by_cases hik:i<l.length
   ·refine ⟨d,?_,.inl rfl⟩
    simp only [at2] at hd ⊢
    rw [List.getElem?_append_left (by simpa using hik)] at hd ⊢
    exact hd
   ·by_cases he:i=l.length
    ·subst he
     have h1:at2 (List.map f l++List.map f [a]) l.length k=(f a)[k]?:=by simp [at2]
     have h2:at2 (List.map f l++[raw]) l.length k=raw[k]?:=by simp [at2]
     rw [h1] at hd; rw [h2]
     have hlen:=(b5h hz).1
     obtain ⟨hk,_⟩:=gS9.1 hd
     have hk':k<raw.length:=by rw [hlen]; exact hk
     exact ⟨raw[k],gG9 hk',.inr ⟨(b5h hz).2 k _ _ (gG9 hk') hd,hf a _ (mG9 hd)⟩⟩
    ·exfalso
     have : at2 (List.map f l++List.map f [a]) i k=none:=by
      have : (List.map f l++List.map f [a])[i]?=none:=by rw [List.getElem?_eq_none_iff]; simp; omega
      unfold at2; rw [this]; rfl
     rw [this] at hd; cases hd
 ·split at hj'
  ·cases hj'
  ·rename_i _ hf'
   exact ⟨by simpa using hf',es',hj',.inl rfl,fun i k d hd=>⟨d,hd,.inl rfl⟩⟩
theorem j3y {α:Type} {f:α->List AV} {sz b id2:Nat} {s:AV} {l:List α} {r:List α} {a:α} {raw:List AV} (hs:b2a h s sz (List.map f l)) (hx:h.ob id2=some (sz,[raw])) (hd:b07 s id2)
  (ha : ap b l [a]=some r) (hk:k (.rs h.nx 0 (List.length r)) (b5y h s (sz,List.map f l++[raw]))):@b8k sz b s (.rs id2 0 1) h ⟨k⟩:=by
 obtain ⟨hb,rfl⟩:=r9o ha
 rw [List.length_append] at hk
 refine ⟨_,_,?_,hk⟩
 simp only [eff,evT,if_true,Nat.one_ne_zero,if_false]
 have hb':(l.length+1) * b<=2 ^ 40:=by simpa using hb
 rcases hs with ⟨rfl,hl⟩|⟨id,rfl,ho,hlt⟩
 ·have hl':l=[]:=by simpa using hl
  subst hl'
  simp only [hx,bS9,List.map_nil,List.nil_append,List.length_nil,List.length_cons,Nat.zero_add,c6k,Nat.one_ne_zero,if_false]
  rw [if_pos ⟨trivial,by simp,by simpa using hb'⟩]
  simp
 ·have hne:id≠id2:=hd
  simp only [ho,hx,bS9,List.length_map,z7t]
  rw [if_pos ⟨trivial,trivial,hne,by simp,by simp,hb'⟩]
  simp [List.take_of_length_le]
end
theorem g54 {h:Heap} {v:AV} {o:Ob}:(b5y h v o).nx=nxs h.nx:=by cases v <;> rfl
theorem g55 {h:Heap} {v:AV} {o:Ob} {i:Nat} (hi:b07 v i) (hl:i<h.nx):(b5y h v o).ob i=h.ob i:=by
 unfold b5y
 split
 ·rw [d4e (by exact hl),g3s]; exact fun e=>hi e.symm
 ·exact d4e hl
theorem g53 {h:Heap} {v:AV} {o:Ob} {i:Nat} (hl:i=h.nx):(b5y h v o).ob i=some o:=by
 unfold b5y
 split
 ·exact d4d hl
 ·exact d4d hl
theorem j08 {h:Heap} {v:AV}:(B8r h v).nx=h.nx:=by cases v <;> rfl
attribute [go_sem ↓] j4n j5o j31 j42 j35 j46 J3x J3z j6o j52 j56 P40 d9k J1p d8k
attribute [go_sem] d9k J1p d8k c6k z7t g54 j07 d75 j08 Nat.zero_add l5g l5f
end Go.Nw
namespace Go.Nw
theorem r9r {a:Value} {w:AV}:∀ j,¬ b07 (.v a) j->b07 w j:=fun _ hj=>(hj trivial).elim
theorem r9s {v:AV} {a:Value}:∀ j,¬ b07 v j->b07 (.v a) j:=fun _ _=>trivial
theorem g9p {id lo n:Nat} {w:AV} (hw:b07 w id):∀ j,¬ b07 (.rs id lo n) j->b07 w j:=fun j hj=>by
 have e:id=j:=by simpa [b07] using hj
 exact e ▸ hw
theorem b2p {O l b Q t h} (post:Slots->Heap->Prop) (h1:∀ K:Slots->Heap->Prop,(∀ t h,post t h->K t h)->b0d O l K t h) (h2:∀ t h,post t h->cw O b Q t h):cw O (.seq (.reg l) b) Q t h :=
 g9n post (h1 post fun _ _ h=>h) h2
theorem l3q {α:Type} {f:α->List AV} {h:Heap} {v:AV} {sz:Nat} {l:List α} {i:Int} {x:α} (hv:b2a h v sz (List.map f l)) (hx:get l i=some x):∃ id,v = .rs id 0 (List.length l)/\h.ob id=some (sz,List.map f l)/\id<h.nx:=by
 rcases hv with ⟨_,hr⟩|⟨id,h1,h2,h3⟩
 ·have : l=[]:=by simpa using hr
  subst this; have:=b06 hx; have:=b05 hx; simp at *; omega
 ·exact ⟨id,by simpa using h1,h2,h3⟩
theorem b8p (x:Int):(eI x).length=1:=rfl
end Go.Nw
namespace Go.Nw
theorem b3x {h h':Heap} {v:AV} {sz:Nat} {rows:List (List AV)} (hv:b2a h v sz rows) (hk:∀ j,¬ b07 v j->j<h.nx->h'.ob j=h.ob j) (hn:h.nx<=h'.nx):b2a h' v sz rows:=by
 rcases hv with ⟨rfl,hr⟩|⟨id,rfl,ho,hlt⟩
 ·exact .inl ⟨rfl,hr⟩
 ·exact .inr ⟨id,rfl,by rw [hk id (by simp [b07]) hlt]; exact ho,by omega⟩
end Go.Nw
namespace Go.Nw
theorem b1z {a b:Nat} (h:¬ a=b):¬ b=a:=fun e=>h e.symm
theorem b0r {α:Type} {c:Bool} {a b:α} (h:c=true):(if c then a else b)=a:=if_pos h
theorem b0q {α:Type} {c:Bool} {a b:α} (h:c=false):(if c then a else b)=b:=if_neg (by simp [h])
attribute [go_sem] d4e d4d g3s c53 g55 g53 List.length_map Bool.true_or Bool.or_true Bool.false_or Bool.or_false Bool.true_and Bool.and_true Bool.false_and Bool.and_false fT9 List.length_set
end Go.Nw
namespace Go.Nw
theorem b4s {v:AV} {i j:Nat} (hj:¬ b07 v j) (hi:b07 v i):¬ j=i:=fun e=>hj (e ▸ hi)
theorem r9q {v u:AV} (h:∀ j,¬ b07 v j->b07 u j):∀ j,¬ b07 u j->b07 v j:=fun j hj=>Classical.byContradiction fun hn=>hj (h j hn)
end Go.Nw
namespace Go.Nw
end Go.Nw
namespace Go.Nw
def mn (a b:Int):Int:=if b<a then b else a
def mx (a b:Int):Int:=if b > a then b else a
theorem g1r (a b:Int):mn a b=min a b:=by unfold mn; split <;> omega
theorem N27 (a b:Int):mx a b=max a b:=by unfold mx; split <;> omega
def c0f (xs:List AV) [k:K1 AV]:Prop:=∃ r,b5g b7h xs=some r/\k.k r
def c0e (xs:List AV) [k:K1 AV]:Prop:=∃ r,b5g b7f xs=some r/\k.k r
section
variable {O:Orac} {d:Option Nat} {g:Nat} {b0:Bool} {r:List XO} {K:Slots->Heap->Prop} {t:Slots} {h:Heap} {k:AV->Heap->Prop} {k1:AV->Prop}
theorem j4l {xs}:b0d O (⟨d,none,.min xs⟩ :: r) K t h=@iop O (.min xs) t h ⟨fun v h'=>b0d O r K (b0l t d v) h'⟩:=b2n rfl
theorem j5m {xs}:b0d O (⟨d,some (g,b0),.min xs⟩ :: r) K t h=@b2h (t g) b0 ⟨@iop O (.min xs) (upd t g (B b0)) h ⟨fun v h'=>b0d O r K (b0l (upd t g (B b0)) d v) h'⟩⟩ ⟨b0d O r K (b0l (upd t g (B (!b0))) d U) h⟩ ⟨b0d O r K (b0l t d U) h⟩:=b2l rfl
theorem j4k {xs}:b0d O (⟨d,none,.max xs⟩ :: r) K t h=@iop O (.max xs) t h ⟨fun v h'=>b0d O r K (b0l t d v) h'⟩:=b2n rfl
theorem j5l {xs}:b0d O (⟨d,some (g,b0),.max xs⟩ :: r) K t h=@b2h (t g) b0 ⟨@iop O (.max xs) (upd t g (B b0)) h ⟨fun v h'=>b0d O r K (b0l (upd t g (B b0)) d v) h'⟩⟩ ⟨b0d O r K (b0l (upd t g (B (!b0))) d U) h⟩ ⟨b0d O r K (b0l t d U) h⟩:=b2l rfl
theorem j6m {xs}:@iop O (.min xs) t h ⟨k⟩=@c0f (xs.map (evT t)) ⟨fun v=>k v h⟩:=by
 simp only [iop,op1,c0f,eff,mE9]
 apply propext; constructor
 ·rintro ⟨r,h',⟨x,h1,h2⟩,hk⟩; cases h2; exact ⟨_,h1,hk⟩
 ·rintro ⟨r,h1,hk⟩; exact ⟨r,h,⟨r,h1,rfl⟩,hk⟩
theorem j6l {xs}:@iop O (.max xs) t h ⟨k⟩=@c0e (xs.map (evT t)) ⟨fun v=>k v h⟩:=by
 simp only [iop,op1,c0e,eff,mE9]
 apply propext; constructor
 ·rintro ⟨r,h',⟨x,h1,h2⟩,hk⟩; cases h2; exact ⟨_,h1,hk⟩
 ·rintro ⟨r,h1,hk⟩; exact ⟨r,h,⟨r,h1,rfl⟩,hk⟩
theorem g0g {a b:Int} {kd kd'}:@c0f [.v (.int kd a),.v (.int kd' b)] ⟨k1⟩=k1 (.v (.int kd (mn a b))):=by
 simp [c0f,b5g,b7h,mn]
theorem g0e {a b:Int} {kd kd'}:@c0e [.v (.int kd a),.v (.int kd' b)] ⟨k1⟩=k1 (.v (.int kd (mx a b))):=by
 simp [c0e,b5g,b7f,mx]
theorem g0h {a b c:Int} {kd kd' kd''}:@c0f [.v (.int kd a),.v (.int kd' b),.v (.int kd'' c)] ⟨k1⟩=k1 (.v (.int kd (mn (mn a b) c))):=by
 simp [c0f,b5g,b7h,mn]
 exact Iff.rfl
theorem g0f {a b c:Int} {kd kd' kd''}:@c0e [.v (.int kd a),.v (.int kd' b),.v (.int kd'' c)] ⟨k1⟩=k1 (.v (.int kd (mx (mx a b) c))):=by
 simp [c0e,b5g,b7f,mx]
theorem j4c {agg n o x}:b0d O (⟨d,none,.fld agg n o x⟩ :: r) K t h=@iop O (.fld agg n o x) t h ⟨fun v h'=>b0d O r K (b0l t d v) h'⟩:=b2n rfl
theorem j5d {agg n o x}:b0d O (⟨d,some (g,b0),.fld agg n o x⟩ :: r) K t h=@b2h (t g) b0 ⟨@iop O (.fld agg n o x) (upd t g (B b0)) h ⟨fun v h'=>b0d O r K (b0l (upd t g (B b0)) d v) h'⟩⟩ ⟨b0d O r K (b0l (upd t g (B (!b0))) d U) h⟩ ⟨b0d O r K (b0l t d U) h⟩:=b2l rfl
def d2d (agg:Bool) (n o:Nat) (x:AV) [k:K1 AV]:Prop:=match x with | .agg cs=>b5m agg n cs o k.k|_=>False
theorem j6d {agg n o x}:@iop O (.fld agg n o x) t h ⟨k⟩=@d2d agg n o (evT t x) ⟨fun v=>k v h⟩:=by
 simp only [iop,op1,d2d,eff]
 generalize evT t x=y
 cases y with
 | agg cs =>
  simp only [b5m,b4x]
  cases agg with
  | true =>
   simp only [if_true]
   apply propext; constructor
   ·rintro ⟨r,h',he,hk⟩; split at he
    ·rename_i ho; cases he; exact ⟨ho,hk⟩
    ·cases he
   ·rintro ⟨h1,h2⟩; exact ⟨_,_,by rw [if_pos h1],h2⟩
  | false =>
   simp only [fT9,if_false,mE9]
   apply propext; constructor
   ·rintro ⟨r,h',⟨x,h1,h2⟩,hk⟩; cases h2; exact ⟨_,h1,hk⟩
   ·rintro ⟨v,h1,h2⟩; exact ⟨v,h,⟨v,h1,rfl⟩,h2⟩
 | _=>simp
theorem d9w {agg n o cs}:@d2d agg n o (.agg cs) ⟨k1⟩=@u0p agg n cs o ⟨k1⟩:=rfl
end
def z5s (v:AV) (j:Nat):Bool:=match v with | .rs id _ _=>id == j | .rp id _ _=>id == j|_=>false
theorem g62 {h:Heap} {F:Nat->Bool} {j:Nat} (hj:F j=false):(h.but F).ob j=h.ob j:=by simp [Heap.but,hj]
theorem g61 {h:Heap} {F:Nat->Bool}:(h.but F).nx=h.nx:=by simp [Heap.but]
theorem c3x {h:Heap} {F:Nat->Bool} {j:Nat} (hj:F j=true):(h.only F).ob j=h.ob j:=by simp [Heap.only,hj]
theorem y43 {h:Heap} {F:Nat->Bool} {v:AV} {sz:Nat} {rows:List (List AV)} (hv:b2a h v sz rows) (hF:∀ j,¬ b07 v j->F j=true):b2a (h.only F) v sz rows:=by
 rcases hv with ⟨rfl,hr⟩|⟨id,rfl,ho,hlt⟩
 ·exact .inl ⟨rfl,hr⟩
 ·exact .inr ⟨id,rfl,by rw [c3x (hF id (by simp [b07]))]; exact ho,hlt⟩
theorem d63 {O:Orac} {b:XCode} {Q:XExit->Slots->Heap->Prop} {t:Slots} {h:Heap} {s:Nat} {v y:AV} (F:Nat->Bool) (hs:t s=v) (hz:Fz (h.only F) v y) (hf:Frz y)
  (hw : cw O b Q (upd t s y) (h.but F)):cw O (.seq .ghost b) Q t h:=by
 subst hs
 exact c2j (p2v (.inr ⟨hz,hf⟩)) hw
theorem g9m {O:Orac} {Q:XExit->Slots->Heap->Prop} {t:Slots} {h:Heap} (hw:cw O (.seq .ghost .skip) Q t h):cw O .ghost Q t h:=hw
inductive FzR (h:Heap):List (List AV)->List (List AV)->Prop
 | nil:FzR h [] []
 | cons {x y:List AV} {xs ys:List (List AV)} (a:FzL h x y) (b:FzR h xs ys):FzR h (x :: xs) (y :: ys)
attribute [go_sem ↓] j4l j5m j4k j5l j6m j6l j4c j5d j6d g0g g0e g0h g0f d9w
attribute [go_sem] g0g g0e g0h g0f d9w g61 g62
end Go.Nw
namespace Go.Nw
theorem x9c {v:AV} {j:Nat} (hj:¬ b07 v j):z5s v j=true:=by
 unfold b07 at hj; unfold z5s
 split at hj
 ·simpa using hj
 ·simp at hj
end Go.Nw
namespace Go.Nw
def sub {α:Type} (l:List α) (a b:Int):Option (List α):=if 0<=a/\a<=b/\b<=l.length then some ((l.take b.toNat).drop a.toNat) else none
theorem p9y {α:Type} {l r:List α} {a b:Int} (h:sub l a b=some r):0<=a/\a<=b/\b<=l.length/\r=(l.take b.toNat).drop a.toNat:=by
 unfold sub at h; split at h
 ·rename_i hc; cases h; exact ⟨hc.1,hc.2.1,hc.2.2,rfl⟩
 ·cases h
theorem u9o {α:Type} {l:List α} {a b:Int} (h0:0<=a) (h1:a<=b) (h2:b<=l.length):sub l a b=some ((l.take b.toNat).drop a.toNat):=by
 unfold sub; rw [if_pos ⟨h0,h1,h2⟩]
def d2q (n:Nat) (x:AV) (lo hi:Option AV) (h:Heap) [k:K2]:Prop:=∃ (r':AV) (h':Heap),((b2x x).bind fun len =>
  (b5d 0 lo).bind fun l =>
  (b5i len hi).bind fun r =>
  if l<=r then
   match x with
   | .fs sz es=>if sz=n then some (.fs sz ((es.take r).drop l),h) else none
   | .rs id lo' _=>(h.ob id).bind fun o=>if (l=0\/l<r)/\o.1=n then some (.rs id (lo'+l) (r - l),h) else none
   | .v (.slice none 0 0)=>some (.v (.slice none 0 0),h)
   | _=>none
  else none)=some (r',h')/\k.k r' h'
section
variable {O:Orac} {d:Option Nat} {g:Nat} {b0:Bool} {r:List XO} {K:Slots->Heap->Prop} {t:Slots} {h:Heap} {k:AV->Heap->Prop}
theorem j4r {n x lo hi}:b0d O (⟨d,none,.slc n x lo hi⟩ :: r) K t h=@iop O (.slc n x lo hi) t h ⟨fun v h'=>b0d O r K (b0l t d v) h'⟩:=b2n rfl
theorem j5s {n x lo hi}:b0d O (⟨d,some (g,b0),.slc n x lo hi⟩ :: r) K t h=@b2h (t g) b0 ⟨@iop O (.slc n x lo hi) (upd t g (B b0)) h ⟨fun v h'=>b0d O r K (b0l (upd t g (B b0)) d v) h'⟩⟩ ⟨b0d O r K (b0l (upd t g (B (!b0))) d U) h⟩ ⟨b0d O r K (b0l t d U) h⟩:=b2l rfl
theorem j6s {n x lo hi}:@iop O (.slc n x lo hi) t h ⟨k⟩=@d2q n (evT t x) (lo.map (evT t)) (hi.map (evT t)) h ⟨k⟩:=rfl
theorem p9s {α:Type} {f:α->List AV} {n:Nat} {l m:List α} {lo hi:Option Int} (hs:sub l (lo.getD 0) (hi.getD l.length)=some m) (hk:k (.fs n (List.map f m)) h):@d2q n (.fs n (List.map f l)) (lo.map fun z=>I z) (hi.map fun z=>I z) h ⟨k⟩:=by
 obtain ⟨h0,h1,h2,rfl⟩:=p9y hs
 refine ⟨_,_,?_,hk⟩
 have hb:b5d 0 (lo.map fun z=>I z)=some (lo.getD 0).toNat:=by
  cases lo with
  | none=>rfl
  | some y=>have h0':0<=y:=h0; show (if 0<=y then some y.toNat else none)=some y.toNat; rw [if_pos h0']
 have hh:b5i (List.map f l).length (hi.map fun z=>I z)=some (hi.getD l.length).toNat:=by
  rw [List.length_map]
  cases hi with
  | none=>show some l.length=some (Int.toNat l.length); simp
  | some z =>
   have h1':0<=z:=by have:=h0; have:=h1; simp only [Option.getD_some] at *; omega
   have h2':z<=l.length:=h2
   show (if 0<=z/\z.toNat<=l.length then some z.toNat else none)=some z.toNat
   rw [if_pos ⟨h1',by omega⟩]
 simp only [b2x,bS9,hb,hh]
 rw [if_pos (by omega),if_pos trivial,List.map_drop,List.map_take]
end
attribute [go_sem ↓] j4r j5s j6s
attribute [go_sem] Option.map_none
end Go.Nw
namespace Go.Nw
theorem x9d {h:Heap} {v:AV} {sz:Nat} {rows:List (List AV)} {j:Nat} (hv:b2a h v sz rows) (hj:b07 v j):z5s v j=false:=by
 rcases hv with ⟨rfl,_⟩|⟨id,rfl,_,_⟩
 ·rfl
 ·simpa [z5s,b07] using hj
end Go.Nw
namespace Go.Nw
def d05 (k:IntKind) (a b:Int):Int:=k.wrap (BitVec.ofInt k.bits a &&& BitVec.ofInt k.bits b).toNat
def d08 (k:IntKind) (a b:Int):Int:=k.wrap (BitVec.ofInt k.bits a ||| BitVec.ofInt k.bits b).toNat
def d53 (k:IntKind) (a b:Int):Int:=k.wrap (BitVec.ofInt k.bits a ^^^ BitVec.ofInt k.bits b).toNat
def d06 (k:IntKind) (a b:Int):Int:=k.wrap (BitVec.ofInt k.bits a &&& ~~~(BitVec.ofInt k.bits b)).toNat
def d51 (k:IntKind) (a:Int):Int:=k.wrap (BitVec.ofInt k.bits (if k.signed then -1 else k.max) ^^^ BitVec.ofInt k.bits a).toNat
def z6p (k:IntKind) (a b:Int):Int:=k.wrap (a * 2 ^ (Nat.min b.toNat k.bits))
def d45 (k:IntKind) (a b:Int):Int:=a.fdiv (2 ^ (Nat.min b.toNat k.bits))
def shl (k:IntKind) (a b:Int):Option Int:=if b<0 then none else some (z6p k a b)
def shr (k:IntKind) (a b:Int):Option Int:=if b<0 then none else some (d45 k a b)
def quo (k:IntKind) (a b:Int):Option Int:=if b=0 then none else some (k.wrap (a.tdiv b))
def rem (a b:Int):Option Int:=if b=0 then none else some (a.tmod b)
theorem g29 {k:IntKind} {a b:Int} (h:0<=b):shr k a b=some (d45 k a b):=by unfold shr; rw [if_neg (by omega)]
section
variable {k:AV->Prop} {e:EqK} {kd kd':IntKind} {a b:Int}
theorem d8m:@b2g .and e (.v (.int kd a)) (.v (.int kd b)) ⟨k⟩=k (.v (.int kd (d05 kd a b))):=b65 (by simp [b3m,b4d,d05])
theorem d87:@b2g .or e (.v (.int kd a)) (.v (.int kd b)) ⟨k⟩=k (.v (.int kd (d08 kd a b))):=b65 (by simp [b3m,b4d,d08])
theorem d9b:@b2g .xor e (.v (.int kd a)) (.v (.int kd b)) ⟨k⟩=k (.v (.int kd (d53 kd a b))):=b65 (by simp [b3m,b4d,d53])
theorem d8p:@b2g .andNot e (.v (.int kd a)) (.v (.int kd b)) ⟨k⟩=k (.v (.int kd (d06 kd a b))):=b65 (by simp [b3m,b4d,d06])
theorem c7d {r:Int} (h:shr kd a b=some r):@b2g .shr e (.v (.int kd a)) (.v (.int kd' b)) ⟨k⟩=k (.v (.int kd r)):=by
 unfold shr at h; split at h
 ·cases h
 ·rename_i hb; cases h
  show b1u _ _ _ _ _=_
  simp [b1u,b3f,b3m,c1g,hb,d45]
theorem g02:@iun .xor (.v (.int kd a)) ⟨k⟩=k (.v (.int kd (d51 kd a))):=by
 show unK _ _ _=_
 simp [unK,b7u,d51]
end
def d2a (kd:IntKind) (x:AV) [k:K1 AV]:Prop:=match x with | .v (.int _ n)=>k.k (.v (.int kd (kd.wrap n)))|_=>False
section
variable {O:Orac} {d:Option Nat} {g:Nat} {b0:Bool} {r:List XO} {K:Slots->Heap->Prop} {t:Slots} {h:Heap} {k:AV->Heap->Prop} {k1:AV->Prop}
theorem j4a {kd x}:b0d O (⟨d,none,.cvtI kd x⟩ :: r) K t h=@iop O (.cvtI kd x) t h ⟨fun v h'=>b0d O r K (b0l t d v) h'⟩:=b2n rfl
theorem j5b {kd x}:b0d O (⟨d,some (g,b0),.cvtI kd x⟩ :: r) K t h=@b2h (t g) b0 ⟨@iop O (.cvtI kd x) (upd t g (B b0)) h ⟨fun v h'=>b0d O r K (b0l (upd t g (B b0)) d v) h'⟩⟩ ⟨b0d O r K (b0l (upd t g (B (!b0))) d U) h⟩ ⟨b0d O r K (b0l t d U) h⟩:=b2l rfl
theorem j6b {kd x}:@iop O (.cvtI kd x) t h ⟨k⟩=@d2a kd (evT t x) ⟨fun v=>k v h⟩:=by
 simp only [iop,op1,d2a,eff]
 generalize evT t x=y
 cases y with
 | v z =>
  cases z with
  | int k' n=>exact ex1
  | _=>exact ex0
 | _=>exact ex0
theorem d9r {kd kd':IntKind} {n:Int}:@d2a kd (.v (.int kd' n)) ⟨k1⟩=k1 (.v (.int kd (kd.wrap n))):=rfl
end
attribute [go_sem ↓] j4a j5b j6b d9r d8m d87 d9b d8p g02
attribute [go_sem] d9r d8m d87 d9b d8p g02
end Go.Nw
namespace Go.Nw
theorem d8s {k:AV->Prop} {a b c d:Int}:@b2g .eql (.flat [.i,.i]) (.agg [I a,I b]) (.agg [I c,I d]) ⟨k⟩=k (B (decide (a=c) && decide (b=d))):=by
 show b1u _ _ _ _ _=_
 by_cases h1:a=c <;> by_cases h2:b=d <;> simp [b1u,b3f,b2z,r7h,h1,h2]
theorem d81 {k:AV->Prop} {a b c d:Int}:@b2g .neq (.flat [.i,.i]) (.agg [I a,I b]) (.agg [I c,I d]) ⟨k⟩=k (B (!(decide (a=c) && decide (b=d)))):=by
 show b1u _ _ _ _ _=_
 by_cases h1:a=c <;> by_cases h2:b=d <;> simp [b1u,b3f,b2z,r7h,h1,h2]
theorem d8t {k:AV->Prop} {a b c d x y:Int}:@b2g .eql (.flat [.i,.i,.i]) (.agg [I a,I b,I x]) (.agg [I c,I d,I y]) ⟨k⟩=k (B (decide (a=c) && decide (b=d) && decide (x=y))):=by
 show b1u _ _ _ _ _=_
 by_cases h1:a=c <;> by_cases h2:b=d <;> by_cases h3:x=y <;> simp [b1u,b3f,b2z,r7h,h1,h2,h3]
theorem d82 {k:AV->Prop} {a b c d x y:Int}:@b2g .neq (.flat [.i,.i,.i]) (.agg [I a,I b,I x]) (.agg [I c,I d,I y]) ⟨k⟩=k (B (!(decide (a=c) && decide (b=d) && decide (x=y)))):=by
 show b1u _ _ _ _ _=_
 by_cases h1:a=c <;> by_cases h2:b=d <;> by_cases h3:x=y <;> simp [b1u,b3f,b2z,r7h,h1,h2,h3]
theorem d83 {k:AV->Prop}:@b2g .eql .slice (.v (.slice none 0 0)) (.v (.slice none 0 0)) ⟨k⟩=k (B true):=by
 show b1u _ _ _ _ _=_
 simp [b1u,b3f,b2z,c0h]
theorem d85 {k:AV->Prop}:@b2g .neq .slice (.v (.slice none 0 0)) (.v (.slice none 0 0)) ⟨k⟩=k (B false):=by
 show b1u _ _ _ _ _=_
 simp [b1u,b3f,b2z,c0h]
theorem d84 {k:AV->Prop} {a b c:Nat}:@b2g .eql .slice (.rs a b c) (.v (.slice none 0 0)) ⟨k⟩=k (B false):=by
 show b1u _ _ _ _ _=_
 simp [b1u,b3f,b2z,c0h]
theorem d86 {k:AV->Prop} {a b c:Nat}:@b2g .neq .slice (.rs a b c) (.v (.slice none 0 0)) ⟨k⟩=k (B true):=by
 show b1u _ _ _ _ _=_
 simp [b1u,b3f,b2z,c0h]
attribute [go_sem ↓] d8s d81 d8t d82 d83 d85 d84 d86
attribute [go_sem] d8s d81 d8t d82 d83 d85 d84 d86
theorem r2x {O:Orac} {f:String} {as as':List AV} {r:AV} {h:Heap} {k:AV->Heap->Prop} (hz:FzL h as as') (ha:∀ a∈as,Frz a) (hf:Fn O f as' r) (hk:k r h):@K5x O f as h ⟨k⟩ :=
 ⟨r,h,⟨as',r,[],[],hz,hf.o,.inl ha,.frz r hf.r,rfl,fun k sz es hh=>by simp at hh,rfl⟩,hk⟩
attribute [go_sem] beq_self_eq_true eq_self
theorem nxa {a b:Nat}:(nxs a=nxs b)=(a=b):=by simp [nxs]
theorem nxb {a b:Nat}:(nxs a<nxs b)=(a<b):=by simp [nxs]
theorem l0q {n:Nat}:(n<nxs n)=True:=by simp only [nxs,eq_iff_iff,iff_true]; omega
theorem l06 {i n:Nat} (h:i<n):(i<nxs n)=True:=by simp only [nxs,eq_iff_iff,iff_true]; omega
theorem j8s {n:Nat}:(n=nxs n)=False:=by simp only [nxs,eq_iff_iff,iff_false]; omega
theorem j88 {n:Nat}:(nxs n=n)=False:=by simp only [nxs,eq_iff_iff,iff_false]; omega
theorem j9p {i n:Nat} (h:i<n):(i=nxs n)=False:=by simp only [nxs,eq_iff_iff,iff_false]; omega
theorem j96 {i n:Nat} (h:i<n):(nxs n=i)=False:=by simp only [nxs,eq_iff_iff,iff_false]; omega
theorem l0y {n:Nat}:(n<nxs (nxs n))=True:=by simp only [nxs,eq_iff_iff,iff_true]; omega
theorem l1e {i n:Nat} (h:i<n):(i<nxs (nxs n))=True:=by simp only [nxs,eq_iff_iff,iff_true]; omega
theorem j80 {n:Nat}:(n=nxs (nxs n))=False:=by simp only [nxs,eq_iff_iff,iff_false]; omega
theorem j9g {n:Nat}:(nxs (nxs n)=n)=False:=by simp only [nxs,eq_iff_iff,iff_false]; omega
theorem j9x {i n:Nat} (h:i<n):(i=nxs (nxs n))=False:=by simp only [nxs,eq_iff_iff,iff_false]; omega
theorem l0e {i n:Nat} (h:i<n):(nxs (nxs n)=i)=False:=by simp only [nxs,eq_iff_iff,iff_false]; omega
theorem l0z {n:Nat}:(n<nxs (nxs (nxs n)))=True:=by simp only [nxs,eq_iff_iff,iff_true]; omega
theorem l1f {i n:Nat} (h:i<n):(i<nxs (nxs (nxs n)))=True:=by simp only [nxs,eq_iff_iff,iff_true]; omega
theorem j81 {n:Nat}:(n=nxs (nxs (nxs n)))=False:=by simp only [nxs,eq_iff_iff,iff_false]; omega
theorem j9h {n:Nat}:(nxs (nxs (nxs n))=n)=False:=by simp only [nxs,eq_iff_iff,iff_false]; omega
theorem j9y {i n:Nat} (h:i<n):(i=nxs (nxs (nxs n)))=False:=by simp only [nxs,eq_iff_iff,iff_false]; omega
theorem l0f {i n:Nat} (h:i<n):(nxs (nxs (nxs n))=i)=False:=by simp only [nxs,eq_iff_iff,iff_false]; omega
theorem l00 {n:Nat}:(n<nxs (nxs (nxs (nxs n))))=True:=by simp only [nxs,eq_iff_iff,iff_true]; omega
theorem l1g {i n:Nat} (h:i<n):(i<nxs (nxs (nxs (nxs n))))=True:=by simp only [nxs,eq_iff_iff,iff_true]; omega
theorem j82 {n:Nat}:(n=nxs (nxs (nxs (nxs n))))=False:=by simp only [nxs,eq_iff_iff,iff_false]; omega
theorem j9i {n:Nat}:(nxs (nxs (nxs (nxs n)))=n)=False:=by simp only [nxs,eq_iff_iff,iff_false]; omega
theorem j9z {i n:Nat} (h:i<n):(i=nxs (nxs (nxs (nxs n))))=False:=by simp only [nxs,eq_iff_iff,iff_false]; omega
theorem l0g {i n:Nat} (h:i<n):(nxs (nxs (nxs (nxs n)))=i)=False:=by simp only [nxs,eq_iff_iff,iff_false]; omega
theorem l01 {n:Nat}:(n<nxs (nxs (nxs (nxs (nxs n)))))=True:=by simp only [nxs,eq_iff_iff,iff_true]; omega
theorem l1h {i n:Nat} (h:i<n):(i<nxs (nxs (nxs (nxs (nxs n)))))=True:=by simp only [nxs,eq_iff_iff,iff_true]; omega
theorem j83 {n:Nat}:(n=nxs (nxs (nxs (nxs (nxs n)))))=False:=by simp only [nxs,eq_iff_iff,iff_false]; omega
theorem j9j {n:Nat}:(nxs (nxs (nxs (nxs (nxs n))))=n)=False:=by simp only [nxs,eq_iff_iff,iff_false]; omega
theorem j90 {i n:Nat} (h:i<n):(i=nxs (nxs (nxs (nxs (nxs n)))))=False:=by simp only [nxs,eq_iff_iff,iff_false]; omega
theorem l0h {i n:Nat} (h:i<n):(nxs (nxs (nxs (nxs (nxs n))))=i)=False:=by simp only [nxs,eq_iff_iff,iff_false]; omega
theorem l02 {n:Nat}:(n<nxs (nxs (nxs (nxs (nxs (nxs n))))))=True:=by simp only [nxs,eq_iff_iff,iff_true]; omega
theorem l1i {i n:Nat} (h:i<n):(i<nxs (nxs (nxs (nxs (nxs (nxs n))))))=True:=by simp only [nxs,eq_iff_iff,iff_true]; omega
theorem j84 {n:Nat}:(n=nxs (nxs (nxs (nxs (nxs (nxs n))))))=False:=by simp only [nxs,eq_iff_iff,iff_false]; omega
theorem j9k {n:Nat}:(nxs (nxs (nxs (nxs (nxs (nxs n)))))=n)=False:=by simp only [nxs,eq_iff_iff,iff_false]; omega
theorem j91 {i n:Nat} (h:i<n):(i=nxs (nxs (nxs (nxs (nxs (nxs n))))))=False:=by simp only [nxs,eq_iff_iff,iff_false]; omega
theorem l0i {i n:Nat} (h:i<n):(nxs (nxs (nxs (nxs (nxs (nxs n)))))=i)=False:=by simp only [nxs,eq_iff_iff,iff_false]; omega
theorem l03 {n:Nat}:(n<nxs (nxs (nxs (nxs (nxs (nxs (nxs n)))))))=True:=by simp only [nxs,eq_iff_iff,iff_true]; omega
theorem l1j {i n:Nat} (h:i<n):(i<nxs (nxs (nxs (nxs (nxs (nxs (nxs n)))))))=True:=by simp only [nxs,eq_iff_iff,iff_true]; omega
theorem j85 {n:Nat}:(n=nxs (nxs (nxs (nxs (nxs (nxs (nxs n)))))))=False:=by simp only [nxs,eq_iff_iff,iff_false]; omega
theorem j9l {n:Nat}:(nxs (nxs (nxs (nxs (nxs (nxs (nxs n))))))=n)=False:=by simp only [nxs,eq_iff_iff,iff_false]; omega
theorem j92 {i n:Nat} (h:i<n):(i=nxs (nxs (nxs (nxs (nxs (nxs (nxs n)))))))=False:=by simp only [nxs,eq_iff_iff,iff_false]; omega
theorem l0j {i n:Nat} (h:i<n):(nxs (nxs (nxs (nxs (nxs (nxs (nxs n))))))=i)=False:=by simp only [nxs,eq_iff_iff,iff_false]; omega
theorem l04 {n:Nat}:(n<nxs (nxs (nxs (nxs (nxs (nxs (nxs (nxs n))))))))=True:=by simp only [nxs,eq_iff_iff,iff_true]; omega
theorem l1k {i n:Nat} (h:i<n):(i<nxs (nxs (nxs (nxs (nxs (nxs (nxs (nxs n))))))))=True:=by simp only [nxs,eq_iff_iff,iff_true]; omega
theorem j86 {n:Nat}:(n=nxs (nxs (nxs (nxs (nxs (nxs (nxs (nxs n))))))))=False:=by simp only [nxs,eq_iff_iff,iff_false]; omega
theorem j9m {n:Nat}:(nxs (nxs (nxs (nxs (nxs (nxs (nxs (nxs n)))))))=n)=False:=by simp only [nxs,eq_iff_iff,iff_false]; omega
theorem j93 {i n:Nat} (h:i<n):(i=nxs (nxs (nxs (nxs (nxs (nxs (nxs (nxs n))))))))=False:=by simp only [nxs,eq_iff_iff,iff_false]; omega
theorem l0k {i n:Nat} (h:i<n):(nxs (nxs (nxs (nxs (nxs (nxs (nxs (nxs n)))))))=i)=False:=by simp only [nxs,eq_iff_iff,iff_false]; omega
theorem l05 {n:Nat}:(n<nxs (nxs (nxs (nxs (nxs (nxs (nxs (nxs (nxs n)))))))))=True:=by simp only [nxs,eq_iff_iff,iff_true]; omega
theorem l1l {i n:Nat} (h:i<n):(i<nxs (nxs (nxs (nxs (nxs (nxs (nxs (nxs (nxs n)))))))))=True:=by simp only [nxs,eq_iff_iff,iff_true]; omega
theorem j87 {n:Nat}:(n=nxs (nxs (nxs (nxs (nxs (nxs (nxs (nxs (nxs n)))))))))=False:=by simp only [nxs,eq_iff_iff,iff_false]; omega
theorem j9n {n:Nat}:(nxs (nxs (nxs (nxs (nxs (nxs (nxs (nxs (nxs n))))))))=n)=False:=by simp only [nxs,eq_iff_iff,iff_false]; omega
theorem j94 {i n:Nat} (h:i<n):(i=nxs (nxs (nxs (nxs (nxs (nxs (nxs (nxs (nxs n)))))))))=False:=by simp only [nxs,eq_iff_iff,iff_false]; omega
theorem l0l {i n:Nat} (h:i<n):(nxs (nxs (nxs (nxs (nxs (nxs (nxs (nxs (nxs n))))))))=i)=False:=by simp only [nxs,eq_iff_iff,iff_false]; omega
theorem l0r {n:Nat}:(n<nxs (nxs (nxs (nxs (nxs (nxs (nxs (nxs (nxs (nxs n))))))))))=True:=by simp only [nxs,eq_iff_iff,iff_true]; omega
theorem l07 {i n:Nat} (h:i<n):(i<nxs (nxs (nxs (nxs (nxs (nxs (nxs (nxs (nxs (nxs n))))))))))=True:=by simp only [nxs,eq_iff_iff,iff_true]; omega
theorem j8t {n:Nat}:(n=nxs (nxs (nxs (nxs (nxs (nxs (nxs (nxs (nxs (nxs n))))))))))=False:=by simp only [nxs,eq_iff_iff,iff_false]; omega
theorem j89 {n:Nat}:(nxs (nxs (nxs (nxs (nxs (nxs (nxs (nxs (nxs (nxs n)))))))))=n)=False:=by simp only [nxs,eq_iff_iff,iff_false]; omega
theorem j9q {i n:Nat} (h:i<n):(i=nxs (nxs (nxs (nxs (nxs (nxs (nxs (nxs (nxs (nxs n))))))))))=False:=by simp only [nxs,eq_iff_iff,iff_false]; omega
theorem j97 {i n:Nat} (h:i<n):(nxs (nxs (nxs (nxs (nxs (nxs (nxs (nxs (nxs (nxs n)))))))))=i)=False:=by simp only [nxs,eq_iff_iff,iff_false]; omega
theorem l0s {n:Nat}:(n<nxs (nxs (nxs (nxs (nxs (nxs (nxs (nxs (nxs (nxs (nxs n)))))))))))=True:=by simp only [nxs,eq_iff_iff,iff_true]; omega
theorem l08 {i n:Nat} (h:i<n):(i<nxs (nxs (nxs (nxs (nxs (nxs (nxs (nxs (nxs (nxs (nxs n)))))))))))=True:=by simp only [nxs,eq_iff_iff,iff_true]; omega
theorem j8u {n:Nat}:(n=nxs (nxs (nxs (nxs (nxs (nxs (nxs (nxs (nxs (nxs (nxs n)))))))))))=False:=by simp only [nxs,eq_iff_iff,iff_false]; omega
theorem j9a {n:Nat}:(nxs (nxs (nxs (nxs (nxs (nxs (nxs (nxs (nxs (nxs (nxs n))))))))))=n)=False:=by simp only [nxs,eq_iff_iff,iff_false]; omega
theorem j9r {i n:Nat} (h:i<n):(i=nxs (nxs (nxs (nxs (nxs (nxs (nxs (nxs (nxs (nxs (nxs n)))))))))))=False:=by simp only [nxs,eq_iff_iff,iff_false]; omega
theorem j98 {i n:Nat} (h:i<n):(nxs (nxs (nxs (nxs (nxs (nxs (nxs (nxs (nxs (nxs (nxs n))))))))))=i)=False:=by simp only [nxs,eq_iff_iff,iff_false]; omega
theorem l0t {n:Nat}:(n<nxs (nxs (nxs (nxs (nxs (nxs (nxs (nxs (nxs (nxs (nxs (nxs n))))))))))))=True:=by simp only [nxs,eq_iff_iff,iff_true]; omega
theorem l09 {i n:Nat} (h:i<n):(i<nxs (nxs (nxs (nxs (nxs (nxs (nxs (nxs (nxs (nxs (nxs (nxs n))))))))))))=True:=by simp only [nxs,eq_iff_iff,iff_true]; omega
theorem j8v {n:Nat}:(n=nxs (nxs (nxs (nxs (nxs (nxs (nxs (nxs (nxs (nxs (nxs (nxs n))))))))))))=False:=by simp only [nxs,eq_iff_iff,iff_false]; omega
theorem j9b {n:Nat}:(nxs (nxs (nxs (nxs (nxs (nxs (nxs (nxs (nxs (nxs (nxs (nxs n)))))))))))=n)=False:=by simp only [nxs,eq_iff_iff,iff_false]; omega
theorem j9s {i n:Nat} (h:i<n):(i=nxs (nxs (nxs (nxs (nxs (nxs (nxs (nxs (nxs (nxs (nxs (nxs n))))))))))))=False:=by simp only [nxs,eq_iff_iff,iff_false]; omega
theorem j99 {i n:Nat} (h:i<n):(nxs (nxs (nxs (nxs (nxs (nxs (nxs (nxs (nxs (nxs (nxs (nxs n)))))))))))=i)=False:=by simp only [nxs,eq_iff_iff,iff_false]; omega
theorem l0u {n:Nat}:(n<nxs (nxs (nxs (nxs (nxs (nxs (nxs (nxs (nxs (nxs (nxs (nxs (nxs n)))))))))))))=True:=by simp only [nxs,eq_iff_iff,iff_true]; omega
theorem l1a {i n:Nat} (h:i<n):(i<nxs (nxs (nxs (nxs (nxs (nxs (nxs (nxs (nxs (nxs (nxs (nxs (nxs n)))))))))))))=True:=by simp only [nxs,eq_iff_iff,iff_true]; omega
theorem j8w {n:Nat}:(n=nxs (nxs (nxs (nxs (nxs (nxs (nxs (nxs (nxs (nxs (nxs (nxs (nxs n)))))))))))))=False:=by simp only [nxs,eq_iff_iff,iff_false]; omega
theorem j9c {n:Nat}:(nxs (nxs (nxs (nxs (nxs (nxs (nxs (nxs (nxs (nxs (nxs (nxs (nxs n))))))))))))=n)=False:=by simp only [nxs,eq_iff_iff,iff_false]; omega
theorem j9t {i n:Nat} (h:i<n):(i=nxs (nxs (nxs (nxs (nxs (nxs (nxs (nxs (nxs (nxs (nxs (nxs (nxs n)))))))))))))=False:=by simp only [nxs,eq_iff_iff,iff_false]; omega
theorem l0a {i n:Nat} (h:i<n):(nxs (nxs (nxs (nxs (nxs (nxs (nxs (nxs (nxs (nxs (nxs (nxs (nxs n))))))))))))=i)=False:=by simp only [nxs,eq_iff_iff,iff_false]; omega
theorem l0v {n:Nat}:(n<nxs (nxs (nxs (nxs (nxs (nxs (nxs (nxs (nxs (nxs (nxs (nxs (nxs (nxs n))))))))))))))=True:=by simp only [nxs,eq_iff_iff,iff_true]; omega
theorem l1b {i n:Nat} (h:i<n):(i<nxs (nxs (nxs (nxs (nxs (nxs (nxs (nxs (nxs (nxs (nxs (nxs (nxs (nxs n))))))))))))))=True:=by simp only [nxs,eq_iff_iff,iff_true]; omega
theorem j8x {n:Nat}:(n=nxs (nxs (nxs (nxs (nxs (nxs (nxs (nxs (nxs (nxs (nxs (nxs (nxs (nxs n))))))))))))))=False:=by simp only [nxs,eq_iff_iff,iff_false]; omega
theorem j9d {n:Nat}:(nxs (nxs (nxs (nxs (nxs (nxs (nxs (nxs (nxs (nxs (nxs (nxs (nxs (nxs n)))))))))))))=n)=False:=by simp only [nxs,eq_iff_iff,iff_false]; omega
theorem j9u {i n:Nat} (h:i<n):(i=nxs (nxs (nxs (nxs (nxs (nxs (nxs (nxs (nxs (nxs (nxs (nxs (nxs (nxs n))))))))))))))=False:=by simp only [nxs,eq_iff_iff,iff_false]; omega
theorem l0b {i n:Nat} (h:i<n):(nxs (nxs (nxs (nxs (nxs (nxs (nxs (nxs (nxs (nxs (nxs (nxs (nxs (nxs n)))))))))))))=i)=False:=by simp only [nxs,eq_iff_iff,iff_false]; omega
theorem l0w {n:Nat}:(n<nxs (nxs (nxs (nxs (nxs (nxs (nxs (nxs (nxs (nxs (nxs (nxs (nxs (nxs (nxs n)))))))))))))))=True:=by simp only [nxs,eq_iff_iff,iff_true]; omega
theorem l1c {i n:Nat} (h:i<n):(i<nxs (nxs (nxs (nxs (nxs (nxs (nxs (nxs (nxs (nxs (nxs (nxs (nxs (nxs (nxs n)))))))))))))))=True:=by simp only [nxs,eq_iff_iff,iff_true]; omega
theorem j8y {n:Nat}:(n=nxs (nxs (nxs (nxs (nxs (nxs (nxs (nxs (nxs (nxs (nxs (nxs (nxs (nxs (nxs n)))))))))))))))=False:=by simp only [nxs,eq_iff_iff,iff_false]; omega
theorem j9e {n:Nat}:(nxs (nxs (nxs (nxs (nxs (nxs (nxs (nxs (nxs (nxs (nxs (nxs (nxs (nxs (nxs n))))))))))))))=n)=False:=by simp only [nxs,eq_iff_iff,iff_false]; omega
theorem j9v {i n:Nat} (h:i<n):(i=nxs (nxs (nxs (nxs (nxs (nxs (nxs (nxs (nxs (nxs (nxs (nxs (nxs (nxs (nxs n)))))))))))))))=False:=by simp only [nxs,eq_iff_iff,iff_false]; omega
theorem l0c {i n:Nat} (h:i<n):(nxs (nxs (nxs (nxs (nxs (nxs (nxs (nxs (nxs (nxs (nxs (nxs (nxs (nxs (nxs n))))))))))))))=i)=False:=by simp only [nxs,eq_iff_iff,iff_false]; omega
theorem l0x {n:Nat}:(n<nxs (nxs (nxs (nxs (nxs (nxs (nxs (nxs (nxs (nxs (nxs (nxs (nxs (nxs (nxs (nxs n))))))))))))))))=True:=by simp only [nxs,eq_iff_iff,iff_true]; omega
theorem l1d {i n:Nat} (h:i<n):(i<nxs (nxs (nxs (nxs (nxs (nxs (nxs (nxs (nxs (nxs (nxs (nxs (nxs (nxs (nxs (nxs n))))))))))))))))=True:=by simp only [nxs,eq_iff_iff,iff_true]; omega
theorem j8z {n:Nat}:(n=nxs (nxs (nxs (nxs (nxs (nxs (nxs (nxs (nxs (nxs (nxs (nxs (nxs (nxs (nxs (nxs n))))))))))))))))=False:=by simp only [nxs,eq_iff_iff,iff_false]; omega
theorem j9f {n:Nat}:(nxs (nxs (nxs (nxs (nxs (nxs (nxs (nxs (nxs (nxs (nxs (nxs (nxs (nxs (nxs (nxs n)))))))))))))))=n)=False:=by simp only [nxs,eq_iff_iff,iff_false]; omega
theorem j9w {i n:Nat} (h:i<n):(i=nxs (nxs (nxs (nxs (nxs (nxs (nxs (nxs (nxs (nxs (nxs (nxs (nxs (nxs (nxs (nxs n))))))))))))))))=False:=by simp only [nxs,eq_iff_iff,iff_false]; omega
theorem l0d {i n:Nat} (h:i<n):(nxs (nxs (nxs (nxs (nxs (nxs (nxs (nxs (nxs (nxs (nxs (nxs (nxs (nxs (nxs (nxs n)))))))))))))))=i)=False:=by simp only [nxs,eq_iff_iff,iff_false]; omega
theorem j9o {i:Nat} {h:Heap} (hl:i<h.nx):(i=h.nx)=False:=by simp only [eq_iff_iff,iff_false]; omega
theorem j95 {i:Nat} {h:Heap} (hl:i<h.nx):(h.nx=i)=False:=by simp only [eq_iff_iff,iff_false]; omega
attribute [go_sem] nxa nxb l0q l06 j8s j88 j9p j96 l0y l1e j80 j9g j9x l0e l0z l1f j81 j9h j9y l0f l00 l1g j82 j9i j9z l0g l01 l1h j83 j9j j90 l0h l02 l1i j84 j9k j91 l0i l03 l1j j85 j9l j92 l0j l04 l1k j86 j9m j93 l0k l05 l1l j87 j9n j94 l0l l0r l07 j8t j89 j9q j97 l0s l08 j8u j9a j9r j98 l0t l09 j8v j9b j9s j99 l0u l1a j8w j9c j9t l0a l0v l1b j8x j9d j9u l0b l0w l1c j8y j9e j9v l0c l0x l1d j8z j9f j9w l0d j9o j95
end Go.Nw
