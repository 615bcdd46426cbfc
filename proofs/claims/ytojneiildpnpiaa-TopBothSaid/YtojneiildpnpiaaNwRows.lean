/- Rows of one's own: slices whose elements are slices of one's own, written in place. -/
import Derived.Test.YtojneiildpnpiaaNwOwn
set_option linter.all false
namespace Go.Nw
def eW (w:AV):List AV:=[w]
theorem y8e {l:List AV} {n:Nat} {v:AV}:(List.map eW l).set n [v]=List.map eW (l.set n v):=by rw [List.map_set]; rfl
attribute [go_sem] eW y8e
abbrev nilS:AV:=.v (.slice none 0 0)
def s8i (v:AV) (hs:List AV) (k:Nat):Prop:=b07 v k/\∀ w∈hs,b07 w k
structure RR {α:Type} (h:Heap) (v:AV) (hs:List AV) (sz:Nat) (f:α->List AV) (rows:List (List α)):Prop where
 top : b2a h v 1 (List.map eW hs)
 len : hs.length=rows.length
 row : ∀ (i:Nat) w r,hs[i]?=some w->rows[i]?=some r->b2a h w sz (List.map f r)
 off : ∀ (i:Nat) w,hs[i]?=some w->∀ k,¬ b07 v k->b07 w k
 apart : ∀ (i j:Nat) w u,i≠j->hs[i]?=some w->hs[j]?=some u->∀ k,¬ b07 w k->b07 u k
section
variable {α:Type} {h h':Heap} {v w:AV} {hs:List AV} {sz:Nat} {f:α->List AV} {rows:List (List α)} {i:Int} {x:List α}
theorem r7k {k:Nat} (hk:s8i v hs k) (hw:get hs i=some w):b07 w k:=hk.2 w (mG9 (b8j hw))
theorem s1l {k:Nat} (h1:b07 v k) (h2:∀ (i:Nat) w,hs[i]?=some w->b07 w k):s8i v hs k:=⟨h1,fun w hw=>by
 obtain ⟨i,hi,rfl⟩:=List.getElem_of_mem hw
 exact h2 i _ (gG9 hi)⟩
theorem s1c {k:Nat} (hk:¬ s8i v hs k):¬ b07 v k\/∃ (i:Nat) (w:AV),hs[i]?=some w/\¬ b07 w k:=by
 by_cases h1:b07 v k
 ·refine .inr (Classical.byContradiction fun hn=>hk (s1l h1 fun i w hw=>Classical.byContradiction fun h2=>hn ⟨i,w,hw,h2⟩))
 ·exact .inl h1
theorem r9y {rows:List (List AV)} (hv:b2a h v sz rows) {k:Nat} (hk:¬ b07 v k):k<h.nx:=by
 rcases hv with ⟨rfl,_⟩|⟨id,rfl,_,hlt⟩
 ·exact absurd trivial hk
 ·have : id=k:=by simpa [b07] using hk
  omega
theorem s1r (R:RR h v hs sz f rows) {k:Nat} (hk:¬ s8i v hs k):k<h.nx:=by
 rcases s1c hk with h1|⟨i,w,hw,h1⟩
 ·exact r9y R.top h1
 ·have hi:i<rows.length:=by rw [<- R.len]; exact (gS9.1 hw).1
  exact r9y (R.row i w _ hw (gG9 hi)) h1
theorem r7w (R:RR h v hs sz f rows) {k:Nat} (hk:h.nx<=k):s8i v hs k:=Classical.byContradiction fun hn=>by have:=s1r R hn; omega
theorem r8j (R:RR h v hs sz f rows) (hk:∀ j,¬ s8i v hs j->j<h.nx->h'.ob j=h.ob j) (hn:h.nx<=h'.nx):RR h' v hs sz f rows :=
 ⟨b3x R.top (fun j hj hl=>hk j (fun hh=>hj hh.1) hl) hn,R.len,
  fun i w r hw hr=>b3x (R.row i w r hw hr) (fun j hj hl=>hk j (fun hh=>hj (hh.2 w (mG9 hw))) hl) hn,R.off,R.apart⟩
theorem r96 (R:RR h v hs sz f rows) (hx:get rows i=some x):∃ w,get hs i=some w/\b2a h w sz (List.map f x):=by
 have h0:=b05 hx
 have h1:=b8j hx
 have hlt:i.toNat<hs.length:=by rw [R.len]; exact (gS9.1 h1).1
 exact ⟨hs[i.toNat],by simp [get,h0,hlt],R.row _ _ _ (gG9 hlt) h1⟩
theorem r97 (R:RR h v hs sz f rows) (hx:get rows i=some x):∃ iq,v = .rs iq 0 (List.length rows)/\h.ob iq=some (1,List.map eW hs)/\iq<h.nx:=by
 have hlt:=b06 hx
 have := b05 hx
 rcases R.top with ⟨_,h1⟩|⟨iq,h1,h2,h3⟩
 ·have : hs=[]:=by simpa using h1
  have := R.len; simp_all; omega
 ·exact ⟨iq,by rw [h1]; simp [R.len],h2,h3⟩
theorem r8a {k:Int->Prop} (R:RR h v hs sz f rows):@l58 v ⟨k⟩=k (List.length rows:Int):=by
 rcases R.top with ⟨rfl,h1⟩|⟨iq,rfl,h2,h3⟩
 ·have : hs=[]:=by simpa using h1
  have := R.len
  have e:rows.length=0:=by simp_all
  rw [d2f,e]; rfl
 ·rw [d2g,List.length_map,R.len]
theorem l3r {α:Type} {f:α->List AV} {l:List α} {k:Int->Prop} (hv:b2a h v sz (List.map f l)):@l58 v ⟨k⟩=k (List.length l:Int):=by
 rcases hv with ⟨rfl,h1⟩|⟨iq,rfl,h2,h3⟩
 ·have e:l=[]:=by simpa using h1
  subst e; rw [d2f]; rfl
 ·rw [d2g,List.length_map]
theorem H1m {ir n:Nat} {y:List α} (R:RR h v hs sz f rows) (hx:get rows i=some x) (hw:get hs i=some (.rs ir 0 n)) (ho:h'.ob ir=some (sz,List.map f y)) (hl:y.length=x.length)
  (hk : ∀ j,¬ s8i v hs j->¬ j=ir->j<h.nx->h'.ob j=h.ob j) (hn:h.nx<=h'.nx):RR h' v hs sz f (List.set rows (Int.toNat i) y):=by
 have hwi:=b8j hw
 have hxi:=b8j hx
 have hrow:=R.row _ _ _ hwi hxi
 have hirlt:ir<h.nx:=r9y hrow (by simp [b07])
 refine ⟨b3x R.top (fun j hj hlt=>hk j (fun hh=>hj hh.1) (fun e=>?_) hlt) hn,by simp [R.len],fun k u r hu hr=>?_,R.off,R.apart⟩
 ·have := R.off _ _ hwi j hj
  rw [e] at this; simp [b07] at this
 ·by_cases e:k=i.toNat
  ·subst e
   rw [hwi] at hu; cases hu
   have hlt:i.toNat<rows.length:=(gS9.1 hxi).1
   rw [List.getElem?_set_self hlt] at hr; cases hr
   rcases hrow with ⟨h1,_⟩|⟨id,h1,h2,h3⟩
   ·cases h1
   ·cases h1
    exact .inr ⟨ir,by simp [hl],ho,by omega⟩
  ·rw [List.getElem?_set_ne (by omega)] at hr
   refine b3x (R.row k u r hu hr) (fun j hj hlt=>hk j (fun hh=>hj (hh.2 u (mG9 hu))) (fun e2=>?_) hlt) hn
   have := R.apart k i.toNat u _ e hu hwi j hj
   rw [e2] at this; simp [b07] at this
theorem s1s {l:List (List α)} {id n:Nat} (ho:h.ob id=some (1,List.map eW (List.map (fun _=>nilS) l))) (hn:n=List.length l) (hl:id<h.nx) (hz:∀ r∈l,r=[]):RR h (.rs id 0 n) (List.map (fun _=>nilS) l) sz f l:=by
 subst hn
 have hc:∀ {i:Nat} {w:AV},(List.map (fun _:List α=>nilS) l)[i]?=some w->w=nilS:=fun {i w} hw=>by
  rw [List.getElem?_map] at hw
  cases e:l[i]? with
  | none=>rw [e] at hw; cases hw
  | some a=>rw [e] at hw; cases hw; rfl
 refine ⟨.inr ⟨id,by simp,ho,hl⟩,by simp,fun i w r hw hr=>?_,fun i w hw k _=>?_,fun i j w u _ hw hu k hk=>?_⟩
 ·rw [hc hw,hz r (mG9 hr)]; exact s1h
 ·rw [hc hw]; trivial
 ·rw [hc hu]; trivial
theorem s0z {α:Type} {b:Nat} {n:Int} {l:List (List α)} {h:Heap} {k:AV->Heap->Prop} (hm:mks b n []=some l)
  (hk : k (.rs h.nx 0 (List.length l)) (h.new (1,List.map eW (List.map (fun _=>nilS) l)))):@d2j 1 [.slice none 0 0] b (I n) (I n) h ⟨k⟩:=by
 obtain ⟨h0,h1,h2,rfl⟩:=j8a hm
 refine d2k (f:=eW) (z:=nilS) (l:=List.replicate n.toNat nilS) rfl (j8b h0 h1 h2) ?_
 rw [List.length_replicate] at hk ⊢
 rw [List.map_replicate] at hk
 exact hk
end
theorem r94 {α:Type} {id lo n k:Nat} {l:List α} (h:¬ id=k):s8i (.rs id lo n) (List.map (fun _=>nilS) l) k:=⟨h,fun w hw=>by
 obtain ⟨_,_,rfl⟩:=List.mem_map.1 hw; trivial⟩
theorem r86 {v u:AV} {hs:List AV} {i k:Nat} (h:s8i v hs k) (hu:b07 u k):s8i v (List.set hs i u) k:=⟨h.1,fun w hw=>by
 rcases List.mem_or_eq_of_mem_set hw with h1|rfl
 ·exact h.2 w h1
 ·exact hu⟩
theorem b8s {h:Heap} {v:AV} {sz:Nat} {rows:List (List AV)} (hv:b2a h v sz rows):∀ i,h.nx<=i->b07 v i:=fun _ hi=>b1v hv hi
theorem l1m {n:Nat}:(n<=n)=True:=by simp
theorem l1n {n:Nat}:(n<=nxs n)=True:=by simp only [nxs,eq_iff_iff,iff_true]; omega
theorem l1r {n:Nat}:(n<=nxs (nxs n))=True:=by simp only [nxs,eq_iff_iff,iff_true]; omega
theorem l1s {n:Nat}:(n<=nxs (nxs (nxs n)))=True:=by simp only [nxs,eq_iff_iff,iff_true]; omega
theorem l1t {n:Nat}:(n<=nxs (nxs (nxs (nxs n))))=True:=by simp only [nxs,eq_iff_iff,iff_true]; omega
theorem l1u {n:Nat}:(n<=nxs (nxs (nxs (nxs (nxs n)))))=True:=by simp only [nxs,eq_iff_iff,iff_true]; omega
theorem l1v {n:Nat}:(n<=nxs (nxs (nxs (nxs (nxs (nxs n))))))=True:=by simp only [nxs,eq_iff_iff,iff_true]; omega
theorem l1w {n:Nat}:(n<=nxs (nxs (nxs (nxs (nxs (nxs (nxs n)))))))=True:=by simp only [nxs,eq_iff_iff,iff_true]; omega
theorem l1x {n:Nat}:(n<=nxs (nxs (nxs (nxs (nxs (nxs (nxs (nxs n))))))))=True:=by simp only [nxs,eq_iff_iff,iff_true]; omega
theorem l1y {n:Nat}:(n<=nxs (nxs (nxs (nxs (nxs (nxs (nxs (nxs (nxs n)))))))))=True:=by simp only [nxs,eq_iff_iff,iff_true]; omega
theorem l1o {n:Nat}:(n<=nxs (nxs (nxs (nxs (nxs (nxs (nxs (nxs (nxs (nxs n))))))))))=True:=by simp only [nxs,eq_iff_iff,iff_true]; omega
theorem l1p {n:Nat}:(n<=nxs (nxs (nxs (nxs (nxs (nxs (nxs (nxs (nxs (nxs (nxs n)))))))))))=True:=by simp only [nxs,eq_iff_iff,iff_true]; omega
theorem l1q {n:Nat}:(n<=nxs (nxs (nxs (nxs (nxs (nxs (nxs (nxs (nxs (nxs (nxs (nxs n))))))))))))=True:=by simp only [nxs,eq_iff_iff,iff_true]; omega
attribute [go_sem] l1m l1n l1r l1s l1t l1u l1v l1w l1x l1y l1o l1p l1q
theorem l2f {a b}:b2d (.fp a b)=true:=rfl
theorem g84 {a b}:cellsOf (.fp a b)=[.fp a b]:=rfl
theorem l2i {a b c}:b2d (.rp a b c)=true:=rfl
theorem g86 {a b c}:cellsOf (.rp a b c)=[.rp a b c]:=rfl
theorem l2e {a b c}:b2d (.fn a b c)=true:=rfl
theorem g83 {a b c}:cellsOf (.fn a b c)=[.fn a b c]:=rfl
theorem l2l {a}:b2d (.v (.string a))=true:=rfl
attribute [go_sem] l2f g84 l2i g86 l2e g83 l2l
theorem G6w {id lo n i:Nat} (h:b07 (.rs id lo n) i):¬ id=i:=h
end Go.Nw
