/- Rows of one's own: slices whose elements are slices of one's own, written in place. -/
import Derived.Test.YtojneiildpnpiaaNwOwn
set_option linter.all false
namespace Go.Nw
def eW (w:AV):List AV:=[w]
theorem y8e {l:List AV} {n:Nat} {v:AV}:(List.map eW l).set n [v]=List.map eW (l.set n v):=by rw [List.map_set]; rfl
attribute [go_sem] eW y8e
abbrev nilS:AV:=.v (.slice none 0 0)
def s8i (v:AV) (hs:List AV) (k:Nat):Prop:=b07 v k/\∀ w∈hs,b07 w k
structure RR {α:Type} (h:Heap) (v:AV) (hs:List AV) (sz:Nat) (f:α->List AV) (rows:List (List α)):Prop where
 top : b2a h v 1 (List.map eW hs)
 len : hs.length=rows.length
 row : ∀ (i:Nat) w r,hs[i]?=some w->rows[i]?=some r->b2a h w sz (List.map f r)
 off : ∀ (i:Nat) w,hs[i]?=some w->∀ k,¬ b07 v k->b07 w k
 apart : ∀ (i j:Nat) w u,i≠j->hs[i]?=some w->hs[j]?=some u->∀ k,¬ b07 w k->b07 u k
section
variable {α:Type} {h h':Heap} {v w:AV} {hs:List AV} {sz:Nat} {f:α->List AV} {rows:List (List α)} {i:Int} {x:List α}
theorem s8n {k:Nat} (hk:s8i v hs k):b07 v k:=hk.1
theorem r7k {k:Nat} (hk:s8i v hs k) (hw:get hs i=some w):b07 w k:=hk.2 w (mG9 (b8j hw))
theorem u1c {k ir lo n:Nat} (hk:s8i v hs k) (hw:get hs i=some (.rs ir lo n)):¬ ir=k:=r7k hk hw
theorem y8c {k iq lo n:Nat} (hk:s8i (.rs iq lo n) hs k):¬ iq=k:=hk.1
theorem s1l {k:Nat} (h1:b07 v k) (h2:∀ (i:Nat) w,hs[i]?=some w->b07 w k):s8i v hs k:=⟨h1,fun w hw=>by
 obtain ⟨i,hi,rfl⟩:=List.getElem_of_mem hw
 exact h2 i _ (gG9 hi)⟩
theorem s1c {k:Nat} (hk:¬ s8i v hs k):¬ b07 v k\/∃ (i:Nat) (w:AV),hs[i]?=some w/\¬ b07 w k:=by
 by_cases h1:b07 v k
 ·refine .inr (Classical.byContradiction fun hn=>hk (s1l h1 fun i w hw=>Classical.byContradiction fun h2=>hn ⟨i,w,hw,h2⟩))
 ·exact .inl h1
theorem r9y {rows:List (List AV)} (hv:b2a h v sz rows) {k:Nat} (hk:¬ b07 v k):k<h.nx:=by
 rcases hv with ⟨rfl,_⟩|⟨id,rfl,_,hlt⟩
 ·exact absurd trivial hk
 ·have : id=k:=by simpa [b07] using hk
  omega
theorem s1r (R:RR h v hs sz f rows) {k:Nat} (hk:¬ s8i v hs k):k<h.nx:=by
 rcases s1c hk with h1|⟨i,w,hw,h1⟩
 ·exact r9y R.top h1
 ·have hi:i<rows.length:=by rw [<- R.len]; exact (gS9.1 hw).1
  exact r9y (R.row i w _ hw (gG9 hi)) h1
theorem r7w (R:RR h v hs sz f rows) {k:Nat} (hk:h.nx<=k):s8i v hs k:=Classical.byContradiction fun hn=>by have:=s1r R hn; omega
theorem L0l {u:AV} {us:List AV} (hd:∀ j,¬ s8i u us j->s8i v hs j):∀ j,¬ s8i v hs j->s8i u us j:=fun j hj=>Classical.byContradiction fun hn=>hj (hd j hn)
theorem s1k {u:AV} (hd:∀ j,¬ b07 u j->s8i v hs j):∀ j,¬ s8i v hs j->b07 u j:=fun j hj=>Classical.byContradiction fun hn=>hj (hd j hn)
theorem s1t {k j:Nat} (hj:¬ s8i v hs j) (hk:s8i v hs k):¬ j=k:=fun e=>hj (e ▸ hk)
theorem H1l:RR h nilS [] sz f []:=⟨.inl ⟨rfl,rfl⟩,rfl,fun i w r hw=>by simp at hw,fun i w hw=>by simp at hw,fun i j w u _ hw=>by simp at hw⟩
theorem r8j (R:RR h v hs sz f rows) (hk:∀ j,¬ s8i v hs j->j<h.nx->h'.ob j=h.ob j) (hn:h.nx<=h'.nx):RR h' v hs sz f rows :=
 ⟨b3x R.top (fun j hj hl=>hk j (fun hh=>hj hh.1) hl) hn,R.len,
  fun i w r hw hr=>b3x (R.row i w r hw hr) (fun j hj hl=>hk j (fun hh=>hj (hh.2 w (mG9 hw))) hl) hn,R.off,R.apart⟩
theorem r96 (R:RR h v hs sz f rows) (hx:get rows i=some x):∃ w,get hs i=some w/\b2a h w sz (List.map f x):=by
 have h0:=b05 hx
 have h1:=b8j hx
 have hlt:i.toNat<hs.length:=by rw [R.len]; exact (gS9.1 h1).1
 exact ⟨hs[i.toNat],by simp [get,h0,hlt],R.row _ _ _ (gG9 hlt) h1⟩
theorem L0k (R:RR h v hs sz f rows) (hw:get hs i=some w) (hx:get rows i=some x):b2a h w sz (List.map f x):=R.row _ _ _ (b8j hw) (b8j hx)
theorem r97 (R:RR h v hs sz f rows) (hx:get rows i=some x):∃ iq,v = .rs iq 0 (List.length rows)/\h.ob iq=some (1,List.map eW hs)/\iq<h.nx:=by
 have hlt:=b06 hx
 have := b05 hx
 rcases R.top with ⟨_,h1⟩|⟨iq,h1,h2,h3⟩
 ·have : hs=[]:=by simpa using h1
  have := R.len; simp_all; omega
 ·exact ⟨iq,by rw [h1]; simp [R.len],h2,h3⟩
theorem s80 {iq ir lo n m lo':Nat} (R:RR h (.rs iq lo n) hs sz f rows) (hw:get hs i=some (.rs ir lo' m)):¬ ir=iq:=by
 have := R.off _ _ (b8j hw) iq (by simp [b07])
 simpa [b07] using this
theorem r8a {k:Int->Prop} (R:RR h v hs sz f rows):@l58 v ⟨k⟩=k (List.length rows:Int):=by
 rcases R.top with ⟨rfl,h1⟩|⟨iq,rfl,h2,h3⟩
 ·have : hs=[]:=by simpa using h1
  have := R.len
  have e:rows.length=0:=by simp_all
  rw [d2f,e]; rfl
 ·rw [d2g,List.length_map,R.len]
theorem l3r {α:Type} {f:α->List AV} {l:List α} {k:Int->Prop} (hv:b2a h v sz (List.map f l)):@l58 v ⟨k⟩=k (List.length l:Int):=by
 rcases hv with ⟨rfl,h1⟩|⟨iq,rfl,h2,h3⟩
 ·have e:l=[]:=by simpa using h1
  subst e; rw [d2f]; rfl
 ·rw [d2g,List.length_map]
theorem H1m {ir n:Nat} {y:List α} (R:RR h v hs sz f rows) (hx:get rows i=some x) (hw:get hs i=some (.rs ir 0 n)) (ho:h'.ob ir=some (sz,List.map f y)) (hl:y.length=x.length)
  (hk : ∀ j,¬ s8i v hs j->¬ j=ir->j<h.nx->h'.ob j=h.ob j) (hn:h.nx<=h'.nx):RR h' v hs sz f (List.set rows (Int.toNat i) y):=by
 have hwi:=b8j hw
 have hxi:=b8j hx
 have hrow:=R.row _ _ _ hwi hxi
 have hirlt:ir<h.nx:=r9y hrow (by simp [b07])
 refine ⟨b3x R.top (fun j hj hlt=>hk j (fun hh=>hj hh.1) (fun e=>?_) hlt) hn,by simp [R.len],fun k u r hu hr=>?_,R.off,R.apart⟩
 ·have := R.off _ _ hwi j hj
  rw [e] at this; simp [b07] at this
 ·by_cases e:k=i.toNat
  ·subst e
   rw [hwi] at hu; cases hu
   have hlt:i.toNat<rows.length:=(gS9.1 hxi).1
   rw [List.getElem?_set_self hlt] at hr; cases hr
   rcases hrow with ⟨h1,_⟩|⟨id,h1,h2,h3⟩
   ·cases h1
   ·cases h1
    exact .inr ⟨ir,by simp [hl],ho,by omega⟩
  ·rw [List.getElem?_set_ne (by omega)] at hr
   refine b3x (R.row k u r hu hr) (fun j hj hlt=>hk j (fun hh=>hj (hh.2 u (mG9 hu))) (fun e2=>?_) hlt) hn
   have := R.apart k i.toNat u _ e hu hwi j hj
   rw [e2] at this; simp [b07] at this
theorem s1u {iq lo n:Nat} {u:AV} {y:List α} (R:RR h (.rs iq lo n) hs sz f rows) (hx:get rows i=some x) (ho:h'.ob iq=some (1,List.map eW (List.set hs (Int.toNat i) u))) (hu:b2a h' u sz (List.map f y))
  (hd : ∀ k,¬ b07 u k->s8i (.rs iq lo n) hs k) (hk:∀ j,¬ s8i (.rs iq lo n) hs j->¬ j=iq->j<h.nx->h'.ob j=h.ob j) (hn:h.nx<=h'.nx) :
  RR h' (.rs iq lo n) (List.set hs (Int.toNat i) u) sz f (List.set rows (Int.toNat i) y):=by
 have hxi:=b8j hx
 have hlt:i.toNat<rows.length:=(gS9.1 hxi).1
 have hlt':i.toNat<hs.length:=by rw [R.len]; exact hlt
 obtain ⟨e1,e2,e3⟩:lo=0/\n=hs.length/\iq<h.nx:=by
  rcases R.top with ⟨h1,_⟩|⟨id,h1,h2,h3⟩
  ·cases h1
  ·cases h1; exact ⟨rfl,by simp,h3⟩
 subst e1 e2
 have hcase:∀ {k:Nat} {z:AV},(List.set hs (Int.toNat i) u)[k]?=some z->(k=i.toNat/\z=u)\/(k≠i.toNat/\hs[k]?=some z):=fun {k z} hz=>by
  by_cases e:k=i.toNat
  ·subst e; rw [List.getElem?_set_self hlt'] at hz; cases hz; exact .inl ⟨rfl,rfl⟩
  ·rw [List.getElem?_set_ne (by omega)] at hz; exact .inr ⟨e,hz⟩
 refine ⟨.inr ⟨iq,by simp,ho,by omega⟩,by simp [R.len],fun k z r hz hr=>?_,fun k z hz j hj=>?_,fun k m z z' hne hz hz' j hj=>?_⟩
 ·rcases hcase hz with ⟨rfl,rfl⟩|⟨e,hz⟩
  ·rw [List.getElem?_set_self hlt] at hr; cases hr; exact hu
  ·rw [List.getElem?_set_ne (by omega)] at hr
   refine b3x (R.row k z r hz hr) (fun j hj hl=>hk j (fun hh=>hj (hh.2 z (mG9 hz))) (fun e2=>?_) hl) hn
   subst e2
   exact hj (R.off k z hz _ (by simp [b07]))
 ·rcases hcase hz with ⟨rfl,rfl⟩|⟨e,hz⟩
  ·exact Classical.byContradiction fun hc=>hj (hd j hc).1
  ·exact R.off k z hz j hj
 ·rcases hcase hz with ⟨rfl,rfl⟩|⟨e,hz1⟩ <;> rcases hcase hz' with ⟨rfl,rfl⟩|⟨e',hz2⟩
  ·exact absurd rfl hne
  ·exact (hd j hj).2 z' (mG9 hz2)
  ·exact Classical.byContradiction fun hc=>hj ((hd j hc).2 z (mG9 hz1))
  ·exact R.apart k m z z' hne hz1 hz2 j hj
theorem s1s {l:List (List α)} {id n:Nat} (ho:h.ob id=some (1,List.map eW (List.map (fun _=>nilS) l))) (hn:n=List.length l) (hl:id<h.nx) (hz:∀ r∈l,r=[]):RR h (.rs id 0 n) (List.map (fun _=>nilS) l) sz f l:=by
 subst hn
 have hc:∀ {i:Nat} {w:AV},(List.map (fun _:List α=>nilS) l)[i]?=some w->w=nilS:=fun {i w} hw=>by
  rw [List.getElem?_map] at hw
  cases e:l[i]? with
  | none=>rw [e] at hw; cases hw
  | some a=>rw [e] at hw; cases hw; rfl
 refine ⟨.inr ⟨id,by simp,ho,hl⟩,by simp,fun i w r hw hr=>?_,fun i w hw k _=>?_,fun i j w u _ hw hu k hk=>?_⟩
 ·rw [hc hw,hz r (mG9 hr)]; exact s1h
 ·rw [hc hw]; trivial
 ·rw [hc hu]; trivial
theorem s1b {b:Nat} {n:Int} {l:List (List α)} (h:mks b n []=some l):∀ r∈l,r=[]:=by
 obtain ⟨_,_,_,rfl⟩:=j8a h
 intro r hr
 exact (List.mem_replicate.1 hr).2
theorem s0z {α:Type} {b:Nat} {n:Int} {l:List (List α)} {h:Heap} {k:AV->Heap->Prop} (hm:mks b n []=some l)
  (hk : k (.rs h.nx 0 (List.length l)) (h.new (1,List.map eW (List.map (fun _=>nilS) l)))):@d2j 1 [.slice none 0 0] b (I n) (I n) h ⟨k⟩:=by
 obtain ⟨h0,h1,h2,rfl⟩:=j8a hm
 refine d2k (f:=eW) (z:=nilS) (l:=List.replicate n.toNat nilS) rfl (j8b h0 h1 h2) ?_
 rw [List.length_replicate] at hk ⊢
 rw [List.map_replicate] at hk
 exact hk
theorem u8j {b id2:Nat} {r:List (List α)} {y:List α} {u:AV} {k:AV->Heap->Prop} (R:RR h v hs sz f rows) (hx:h.ob id2=some (1,[[u]])) (hd:s8i v hs id2) (ha:ap b rows [y]=some r)
  (hk : k (.rs h.nx 0 (List.length r)) (b5y h v (1,List.map eW (hs++[u])))):@b8k 1 b v (.rs id2 0 1) h ⟨k⟩:=by
 obtain ⟨hb,rfl⟩:=r9o ha
 refine j3y (f:=eW) (a:=u) (l:=hs) (raw:=[u]) (r:=hs++[u]) R.top hx hd.1 (b9k (by simpa [R.len] using hb)) ?_
 rw [List.length_append] at hk ⊢
 rw [List.map_append] at hk
 rw [R.len]
 exact hk
theorem u9g {b id n:Nat} {r:List (List α)} {y:List α} {u:AV} (R:RR h v hs sz f rows) (ha:ap b rows [y]=some r) (ho:h'.ob id=some (1,List.map eW (hs++[u]))) (hl:n=List.length r) (hi:id<h'.nx) (hu:b2a h' u sz (List.map f y))
  (hd : ∀ k,¬ b07 u k->s8i v hs k) (hf:h.nx<=id) (hun:b07 u id) (hk:∀ j,¬ s8i v hs j->b07 v j->j<h.nx->h'.ob j=h.ob j) (hn:h.nx<=h'.nx):RR h' (.rs id 0 n) (hs++[u]) sz f r:=by
 obtain ⟨_,rfl⟩:=r9o ha
 subst hl
 have hcase:∀ {k:Nat} {z:AV},(hs++[u])[k]?=some z->(k=hs.length/\z=u)\/(k<hs.length/\hs[k]?=some z):=fun {k z} hz=>by
  by_cases e:k<hs.length
  ·rw [List.getElem?_append_left e] at hz; exact .inr ⟨e,hz⟩
  ·rw [List.getElem?_append_right (by omega)] at hz
   cases e2:k - hs.length with
   | zero=>rw [e2] at hz; simp at hz; exact .inl ⟨by omega,hz.symm⟩
   | succ m=>rw [e2] at hz; simp at hz
 have hrl:∀ {k:Nat} {z:AV},hs[k]?=some z->∃ q,rows[k]?=some q:=fun {k z} hz=>by
  have : k<rows.length:=by rw [<- R.len]; exact (gS9.1 hz).1
  exact ⟨_,gG9 this⟩
 refine ⟨.inr ⟨id,by simp [R.len],ho,hi⟩,by simp [R.len],fun k z q hz hr=>?_,fun k z hz j hj=>?_,fun k m z z' hne hz hz' j hj=>?_⟩
 ·rcases hcase hz with ⟨rfl,rfl⟩|⟨e,hz⟩
  ·rw [R.len,List.getElem?_append_right (Nat.le_refl _)] at hr
   simp at hr; subst hr; exact hu
  ·rw [List.getElem?_append_left (by rw [<- R.len]; exact e)] at hr
   refine b3x (R.row k z q hz hr) (fun j hj hl=>hk j (fun hh=>hj (hh.2 z (mG9 hz))) (Classical.byContradiction fun h2=>hj (R.off k z hz j h2)) hl) hn
 ·have e:id=j:=by simpa [b07] using hj
  subst e
  rcases hcase hz with ⟨rfl,rfl⟩|⟨e,hz⟩
  ·exact hun
  ·obtain ⟨q,hq⟩:=hrl hz
   exact Classical.byContradiction fun hc=>by have:=r9y (R.row k z q hz hq) hc; omega
 ·rcases hcase hz with ⟨rfl,rfl⟩|⟨e,hz1⟩ <;> rcases hcase hz' with ⟨rfl,rfl⟩|⟨e',hz2⟩
  ·exact absurd rfl hne
  ·exact (hd j hj).2 z' (mG9 hz2)
  ·exact Classical.byContradiction fun hc=>hj ((hd j hc).2 z (mG9 hz1))
  ·exact R.apart k m z z' hne hz1 hz2 j hj
theorem s1q {e:List α->List AV} (R:RR h v hs sz f rows) (he:∀ r,e r=[.fs sz (List.map f r)]) (hf:∀ a,∀ c∈f a,Frz c) (hl:∀ a,(f a).length=sz):Fz h v (.fs 1 (List.map e rows)):=by
 rcases R.top with ⟨rfl,h1⟩|⟨iq,rfl,h2,h3⟩
 ·have e1:hs=[]:=by simpa using h1
  have := R.len
  have e2:rows=[]:=by cases rows with|nil=>rfl|cons=>simp_all
  rw [e2]; exact .nil 1
 ·refine .rs iq 0 _ 1 _ _ h2 (by simp) (by simp [R.len]) (fun d hd=>?_) (fun i j c d h1 h2=>?_)
  ·obtain ⟨a,_,rfl⟩:=List.mem_map.1 hd; rw [he]; rfl
  ·rw [Nat.zero_add] at h1
   obtain ⟨e1,he1,hc⟩:=b9m h1
   obtain ⟨e2,he2,hd⟩:=b9m h2
   rw [List.getElem?_map] at he1 he2
   cases hw:hs[i]? with
   | none=>rw [hw] at he1; cases he1
   | some w =>
    cases hr:rows[i]? with
    | none=>rw [hr] at he2; cases he2
    | some r =>
     rw [hw] at he1; rw [hr] at he2
     simp only [Option.map_some,iE9] at he1 he2
     subst he1 he2
     rw [he] at hd
     cases j with
     | zero=>simp [eW] at hc hd; subst hc hd; exact r8x (R.row i w r hw hr) hf hl
     | succ j=>simp [eW] at hc
end
theorem r9d {v:AV} {hs:List AV} {id lo n:Nat} (h:s8i v hs id):∀ k,¬ b07 (.rs id lo n) k->s8i v hs k:=fun k hk=>by
 have e:id=k:=by simpa [b07] using hk
 exact e ▸ h
theorem r94 {α:Type} {id lo n k:Nat} {l:List α} (h:¬ id=k):s8i (.rs id lo n) (List.map (fun _=>nilS) l) k:=⟨h,fun w hw=>by
 obtain ⟨_,_,rfl⟩:=List.mem_map.1 hw; trivial⟩
theorem r86 {v u:AV} {hs:List AV} {i k:Nat} (h:s8i v hs k) (hu:b07 u k):s8i v (List.set hs i u) k:=⟨h.1,fun w hw=>by
 rcases List.mem_or_eq_of_mem_set hw with h1|rfl
 ·exact h.2 w h1
 ·exact hu⟩
theorem b8s {h:Heap} {v:AV} {sz:Nat} {rows:List (List AV)} (hv:b2a h v sz rows):∀ i,h.nx<=i->b07 v i:=fun _ hi=>b1v hv hi
theorem r7i {α:Type} {h:Heap} {v:AV} {hs:List AV} {sz:Nat} {f:α->List AV} {rows:List (List α)} (R:RR h v hs sz f rows):∀ i,h.nx<=i->b07 v i:=fun _ hi=>(r7w R hi).1
theorem l1m {n:Nat}:(n<=n)=True:=by simp
theorem l1n {n:Nat}:(n<=nxs n)=True:=by simp only [nxs,eq_iff_iff,iff_true]; omega
theorem l1r {n:Nat}:(n<=nxs (nxs n))=True:=by simp only [nxs,eq_iff_iff,iff_true]; omega
theorem l1s {n:Nat}:(n<=nxs (nxs (nxs n)))=True:=by simp only [nxs,eq_iff_iff,iff_true]; omega
theorem l1t {n:Nat}:(n<=nxs (nxs (nxs (nxs n))))=True:=by simp only [nxs,eq_iff_iff,iff_true]; omega
theorem l1u {n:Nat}:(n<=nxs (nxs (nxs (nxs (nxs n)))))=True:=by simp only [nxs,eq_iff_iff,iff_true]; omega
theorem l1v {n:Nat}:(n<=nxs (nxs (nxs (nxs (nxs (nxs n))))))=True:=by simp only [nxs,eq_iff_iff,iff_true]; omega
theorem l1w {n:Nat}:(n<=nxs (nxs (nxs (nxs (nxs (nxs (nxs n)))))))=True:=by simp only [nxs,eq_iff_iff,iff_true]; omega
theorem l1x {n:Nat}:(n<=nxs (nxs (nxs (nxs (nxs (nxs (nxs (nxs n))))))))=True:=by simp only [nxs,eq_iff_iff,iff_true]; omega
theorem l1y {n:Nat}:(n<=nxs (nxs (nxs (nxs (nxs (nxs (nxs (nxs (nxs n)))))))))=True:=by simp only [nxs,eq_iff_iff,iff_true]; omega
theorem l1o {n:Nat}:(n<=nxs (nxs (nxs (nxs (nxs (nxs (nxs (nxs (nxs (nxs n))))))))))=True:=by simp only [nxs,eq_iff_iff,iff_true]; omega
theorem l1p {n:Nat}:(n<=nxs (nxs (nxs (nxs (nxs (nxs (nxs (nxs (nxs (nxs (nxs n)))))))))))=True:=by simp only [nxs,eq_iff_iff,iff_true]; omega
theorem l1q {n:Nat}:(n<=nxs (nxs (nxs (nxs (nxs (nxs (nxs (nxs (nxs (nxs (nxs (nxs n))))))))))))=True:=by simp only [nxs,eq_iff_iff,iff_true]; omega
attribute [go_sem] l1m l1n l1r l1s l1t l1u l1v l1w l1x l1y l1o l1p l1q
theorem l2f {a b}:b2d (.fp a b)=true:=rfl
theorem g84 {a b}:cellsOf (.fp a b)=[.fp a b]:=rfl
theorem l2i {a b c}:b2d (.rp a b c)=true:=rfl
theorem g86 {a b c}:cellsOf (.rp a b c)=[.rp a b c]:=rfl
theorem l2e {a b c}:b2d (.fn a b c)=true:=rfl
theorem g83 {a b c}:cellsOf (.fn a b c)=[.fn a b c]:=rfl
theorem l2l {a}:b2d (.v (.string a))=true:=rfl
attribute [go_sem] l2f g84 l2i g86 l2e g83 l2l
theorem G6w {id lo n i:Nat} (h:b07 (.rs id lo n) i):¬ id=i:=h
end Go.Nw
