/- Two operations more: the tail of an own slice, under a new number; a row copied into an own slice. -/
import Derived.Test.YtojneiildpnpiaaNwOps3
import Derived.Laws.CopyRow
set_option linter.all false
namespace Go.Nw
open Go.RowKit
section
variable {P:Program} {B:Nat} {S:Nat->Prop} {loc:Loc} {h:Heap} {w:World}
theorem N67 (H:HSim P B S loc h w) (hnx:¬ h.us h.nx) {t e n:Nat} (ht:P.underlying t=some (.slice e)) (hn:b1x P e=some n) {id lo len sz:Nat} {es:List (List AV)} {v:Value} (hx:SimV P w S h loc (.rs id lo len) v) (ho:h.ob id=some (sz,es)) (hszn:sz=n) (hsz:sz≠0) (hwin:lo+len<=es.length)
  {x : AV} {ul:Value} (hu:SimV P w S h loc x ul) {l:Nat} (hlb:b5d 0 (some x)=some l) (hll:l<=len) :
  b1m P B S loc h w (Instr.sliceAt t v (some ul) none none) (.rs h.nx 0 (len - l)) ((h.upd id none).new (sz,((es.drop lo).take len).drop l)):=by
 subst hszn
 cases hx with
 | rs _ _ _ _ hid hss hx =>
  obtain ⟨_,cap,nn,rfl,hcap,hmx,hsh,hfit⟩:=hx sz es ho
  obtain ⟨⟨arr,ety,hbk,hfa⟩,hlo,val,hv⟩:=H.objs id sz es ho hsz
  have hnn:nn=arr.size:=by rw [c1f hbk] at hsh; exact (Option.some.inj hsh).symm
  subst hnn
  obtain ⟨hrun,_⟩:=c4s (P:=P) (w:=w) ht hn (.some hu) .none (len:=len) (l:=l) (r:=len) (cap:=cap) (by simp [b5i]) hlb hll hcap (some ⟨(loc id).1,(loc id).2+lo * sz,none⟩)
  have hel:(((es.drop lo).take len).drop l).length=len - l:=by simp; omega
  have hat:∀ i j c,at2 (((es.drop lo).take len).drop l) i j=some c->i<len - l/\at2 es (lo+l+i) j=some c:=fun i j c hh=>by
   obtain ⟨ee,h1,h2⟩:=P1m hh
   have hi:=(gS9.1 h1).1
   rw [hel] at hi
   rw [List.getElem?_drop,List.getElem?_take,if_pos (by omega),List.getElem?_drop] at h1
   refine ⟨hi,?_⟩
   unfold at2
   rw [show lo+l+i=lo+(l+i) by omega,h1]; exact h2
  have hfit':(loc id).2+lo * sz+cap * sz<=arr.size:=by rw [Nat.add_mul] at hfit; omega
  have hcl:l * sz+(len - l) * sz<=cap * sz:=by
   rw [<- Nat.add_mul]
   exact Nat.mul_le_mul_right _ (by omega)
  have hself:w.setRow (loc id).1 arr=w:=setRow_self w (loc id).1 arr ety (0,0) hbk
  have u1:=Upd.rewrite H hnx ho hbk arr rfl (if cap=l then (loc id).2+lo * sz else (loc id).2+lo * sz+l * sz) sz (((es.drop lo).take len).drop l) hsz
   (fun e he=>hlo e (List.mem_of_mem_drop (List.mem_of_mem_take (List.mem_of_mem_drop he)))) (by
    rw [hel]
    split
    ·have : len - l=0:=by omega
     rw [this]; omega
    ·omega) (fun i j=>val (lo+l+i) j) (fun i j c hh=>by
    obtain ⟨hi,ha⟩:=hat i j c hh
    obtain ⟨q1,q2,q3⟩:=hv _ _ _ ha
    rw [if_neg (by omega)]
    refine ⟨?_,q2,q3⟩
    rw [b8a hbk] at q1
    rw [show (loc id).2+lo * sz+l * sz+i * sz+j=(loc id).2+(lo+l+i) * sz+j by rw [Nat.add_mul,Nat.add_mul]; omega]
    exact q1)
  rw [hself] at u1
  refine ⟨_,w,_,_,hrun,u1,.rs _ _ _ _ (.inl rfl) ?_ fun sz' es' ho'=>?_⟩
  ·by_cases hc:cap=l
   ·exact ⟨_,_,by rw [if_pos hc]⟩
   ·exact ⟨_,_,by rw [if_neg hc]; rfl⟩
  ·have : (sz',es')=(sz,((es.drop lo).take len).drop l):=by simp [Heap.new,Heap.upd] at ho'; rw [<- ho'.1,<- ho'.2]
   cases this
   refine ⟨hsz,cap - l,arr.size,?_,by omega,by omega,by rw [b62]; exact c1f hbk,?_⟩
   ·rw [b62]
    by_cases hc:cap=l
    ·rw [if_pos hc,if_pos hc]; simp
    ·rw [if_neg hc,if_neg hc,Option.map_some,p8n]; simp
   ·rw [b62]
    have : (0+(cap - l)) * sz+l * sz=cap * sz\/cap<l:=by
     by_cases hlt:cap<l
     ·exact .inr hlt
     ·left; rw [<- Nat.add_mul]; congr 1; omega
    by_cases hc:cap=l
    ·rw [if_pos hc]
     have : cap - l=0:=by omega
     rw [this]; simp; omega
    ·rw [if_neg hc]
     show (loc id).2+lo * sz+l * sz+(0+(cap - l)) * sz<=arr.size
     omega
def N1d (P:Program) (w:World) (S:Nat->Prop) (h:Heap) (loc:Loc) (rows:List (List AV)) (v:Value):Prop :=
 ∃ (b o cap:Nat) (val:Nat->Value),v = .slice (some ⟨b,o,none⟩) rows.length cap/\(∀ r∈rows,r.length=1)/\∀ (j:Nat) c,rows[j]?=some [c]->w.cell? ⟨b,o+j,none⟩=some (val j)/\(val j).oneCell'=true/\SimV P w S h loc c (val j)
theorem N0q {rows:List (List AV)} (hl:∀ r∈rows,r.length=1) {i j:Nat} {c:AV}:at2 rows i j=some c ↔ j=0/\rows[i]?=some [c]:=by
 constructor
 ·intro hh
  obtain ⟨e,h1,h2⟩:=P1m hh
  have he:=hl e (mG9 h1)
  match e,he,h2 with
  | [x],_,h2 =>
   cases j with
   | zero=>simp at h2; subst h2; exact ⟨rfl,h1⟩
   | succ j=>simp at h2
 ·rintro ⟨rfl,h1⟩
  unfold at2
  rw [h1]; rfl
theorem N4y {es:List (List AV)} {v:Value} (hx:SimV P w S h loc (.fs 1 es) v) (h0:0<es.length):N1d P w S h loc es v:=by
 cases hx with
 | fsNil=>simp at h0
 | fsE=>simp at h0
 | fs _ _ b o cap hcap hS hsz val hc h1 hv =>
  refine ⟨b,o,cap,fun j=>val j 0,rfl,hsz,fun j c hj=>?_⟩
  have ha:=(N0q hsz).2 ⟨rfl,hj⟩
  have := hc j 0 c ha
  rw [Nat.mul_one,Nat.add_zero] at this
  exact ⟨this,h1 j 0 c ha,hv j 0 c ha⟩
theorem N40 (H:HSim P B S loc h w) {id lo len:Nat} {es:List (List AV)} {v:Value} (hx:SimV P w S h loc (.rs id lo len) v) (ho:h.ob id=some (1,es)) (hb:lo+len<=es.length):N1d P w S h loc ((es.drop lo).take len) v:=by
 cases hx with
 | rs _ _ _ _ hid hs hx =>
  obtain ⟨hnz,cap,n,rfl,hcap,hmx,hsh,hfit⟩:=hx 1 es ho
  obtain ⟨_,hl,val,hv⟩:=H.objs id 1 es ho hnz
  have hlen:((es.drop lo).take len).length=len:=by simp; omega
  refine ⟨(loc id).1,(loc id).2+lo * 1,cap,fun j=>val (lo+j) 0,by rw [hlen],fun r hr=>hl r (List.mem_of_mem_drop (List.mem_of_mem_take hr)),fun j c hj=>?_⟩
  have hj':es[lo+j]?=some [c]:=by
   rw [List.getElem?_take] at hj
   split at hj
   ·rw [List.getElem?_drop] at hj; exact hj
   ·cases hj
  obtain ⟨q1,q2,q3⟩:=hv (lo+j) 0 c ((N0q hl).2 ⟨rfl,hj'⟩)
  refine ⟨?_,q2,q3⟩
  rw [show (loc id).2+lo * 1+j=(loc id).2+(lo+j) * 1+0 by omega]
  exact q1
theorem N65 (H:HSim P B S loc h w) {t u ty e:Nat} (ht:P.underlying t=some (.slice e)) (hn:b1x P e=some 1) {id lo len:Nat} {es rows:List (List AV)} {v vs:Value} (hx:SimV P w S h loc (.rs id lo len) v) (ho:h.ob id=some (1,es)) (hwin:lo+len<=es.length)
  (hs : N1d P w S h loc rows vs) :
  b1m P B S loc h w (Builtin.copy_ #[t,u] ty #[v,vs]) (.v (.int .i64 (Nat.min rows.length len:Nat))) (h.upd id (some (1,es.take lo++rows.take (Nat.min rows.length len)++es.drop (lo+Nat.min rows.length len)))):=by
 obtain ⟨b,o,scap,vsv,rfl,hrl,hrc⟩:=hs
 cases hx with
 | rs _ _ _ _ hid hss hx =>
  obtain ⟨_,cap,nn,rfl,hcap,hmx,hsh,hfit⟩:=hx 1 es ho
  obtain ⟨⟨arr,ety,hbk,hfa⟩,hlo,val,hv⟩:=H.objs id 1 es ho (by decide)
  generalize hm:Nat.min rows.length len=m
  have hm1:m<=rows.length:=hm ▸ Nat.min_le_left _ _
  have hm2:m<=len:=hm ▸ Nat.min_le_right _ _
  have hrow:∀ j,j<m->∃ c,rows[j]?=some [c]:=fun j hj=>by
   have hlt:j<rows.length:=by omega
   have := hrl rows[j] (List.getElem_mem hlt)
   match hq:rows[j],this with
   | [c],_=>exact ⟨c,by rw [gG9 hlt,hq]⟩
  let cs:List Value:=(List.range m).map vsv
  have hcl:cs.length=m:=by simp [cs]
  have hcj:∀ j x,cs[j]?=some x->j<m/\x=vsv j:=fun j x hj=>by
   have hlt:=(gS9.1 hj).1
   rw [hcl] at hlt
   refine ⟨hlt,?_⟩
   simp only [cs,List.getElem?_map,List.getElem?_range hlt,Option.map_some,iE9] at hj
   exact hj.symm
  have hone:∀ x∈cs,x.oneCell'=true:=fun x hxm=>by
   obtain ⟨j,hj⟩:=List.mem_iff_getElem?.1 hxm
   obtain ⟨hlt,rfl⟩:=hcj j x hj
   obtain ⟨c,hc⟩:=hrow j hlt
   exact (hrc j c hc).2.1
  have hfit2:(loc id).2+lo * 1+cs.length<=arr.size:=by rw [hcl]; omega
  have hrun:=run_copy_row (P:=P) w t u ty e (loc id).1 ((loc id).2+lo * 1) len cap ⟨b,o,none⟩ rows.length scap arr ety cs ht (by unfold b1x at hn; exact hn) hbk (by rw [hcl,hm]) (fun j x hj=>by
   obtain ⟨hlt,rfl⟩:=hcj j x hj
   obtain ⟨c,hc⟩:=hrow j hlt
   rw [p8n]
   exact (hrc j c hc).1) hfit2 hone
  rw [hcl] at hrun
  have hel:(es.take lo++rows.take m++es.drop (lo+m)).length=es.length:=by simp; omega
  have hget:=fun p=>c4p es (rows.take m) lo p (by simp; omega)
  have htl:(rows.take m).length=m:=by simp; omega
  rw [htl] at hget
  have hlen1:∀ r∈es.take lo++rows.take m++es.drop (lo+m),r.length=1:=fun r hr=>by
   rcases List.mem_append.1 hr with hr|hr
   ·rcases List.mem_append.1 hr with hr|hr
    ·exact hlo r (List.mem_of_mem_take hr)
    ·exact hrl r (List.mem_of_mem_take hr)
   ·exact hlo r (List.mem_of_mem_drop hr)
  have u1:=Upd.write H ho hbk (arr.toList.take ((loc id).2+lo * 1)++cs++arr.toList.drop ((loc id).2+lo * 1+m)).toArray (by simp [hcl]; omega) (es.take lo++rows.take m++es.drop (lo+m)) (by decide) hlen1 (by rw [hel]; exact hfa)
   (fun i j=>if lo<=i/\i<lo+m then vsv (i - lo) else val i j) (fun i j c hh=>by
    obtain ⟨rfl,hi⟩:=(N0q hlen1).1 hh
    rw [hget] at hi
    have hr:=c4p arr.toList cs ((loc id).2+lo * 1) ((loc id).2+i * 1+0) (by rw [hcl]; simp; omega)
    rw [hcl] at hr
    rw [List.getElem?_toArray,hr]
    by_cases c1:i<lo
    ·rw [if_pos c1] at hi
     obtain ⟨q1,q2,q3⟩:=hv i 0 c ((N0q hlo).2 ⟨rfl,hi⟩)
     rw [b8a hbk] at q1
     rw [if_pos (by omega),if_neg (by omega),Array.getElem?_toList]
     exact ⟨q1,q2,q3⟩
    ·rw [if_neg c1] at hi
     by_cases c2:i<lo+m
     ·rw [if_pos c2,List.getElem?_take,if_pos (by omega)] at hi
      obtain ⟨q1,q2,q3⟩:=hrc _ c hi
      rw [if_neg (by omega),if_pos (by omega),if_pos ⟨by omega,c2⟩]
      refine ⟨?_,q2,q3⟩
      rw [show (loc id).2+i * 1+0 - ((loc id).2+lo * 1)=i - lo by omega]
      simp only [cs,List.getElem?_map,List.getElem?_range (show i - lo<m by omega),Option.map_some]
     ·rw [if_neg c2] at hi
      obtain ⟨q1,q2,q3⟩:=hv i 0 c ((N0q hlo).2 ⟨rfl,hi⟩)
      rw [b8a hbk] at q1
      rw [if_neg (by omega),if_neg (by omega),if_neg (by omega),Array.getElem?_toList]
      exact ⟨q1,q2,q3⟩)
  exact ⟨_,_,_,_,hrun,u1,.v _⟩
end
end Go.Nw
