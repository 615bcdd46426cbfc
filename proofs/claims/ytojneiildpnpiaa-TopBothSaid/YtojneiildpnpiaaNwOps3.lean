/- append. -/
import Derived.Test.YtojneiildpnpiaaNwOps2
set_option linter.all false
namespace Go.Nw
open Go.RowKit
section
variable {P:Program} {B:Nat} {S:Nat->Prop} {loc:Loc} {h:Heap} {w:World}
theorem g2y {t u ty e e2:Nat} {i:TypeInfo} {z:Value} (ht:P.underlying t=some (.slice e)) (hu:P.underlying u=some (.slice e2)) (hi:P.info? e=some i) (hz:i.zero=some z)
  (base : Option Addr) (sLen sCap n:Nat) (x:Value) (olds news:List Value) (hlen:(Builtin.lenOf x).run P w = .ok n w)
  (hold : (Builtin.firstCells i.size sLen (.slice base sLen sCap)).run P w.drew = .ok olds.toArray w.drew) (hnew:(Builtin.firstCells i.size n x).run P w.drew = .ok news.toArray w.drew)
  (hg : sCap<sLen+n) (h63:((sLen+n:Nat):Int)<=9223372036854775807) (hfit:Builtin.nextslicecap (sLen+n) sCap * i.bytes<=281474976710656) :
  (Builtin.append_ #[t,u] ty #[.slice base sLen sCap,x]).run P w =
   .ok (.slice (some ⟨w.heap.size,0,none⟩) (sLen+n) (grownCap w (sLen+n) sCap e))
    (w.drew.alloc (.cells (olds.toArray++news.toArray++Builtin.zeroCells z.cells (grownCap w (sLen+n) sCap e - (sLen+n))) e)):=by
 have hn:¬ (sLen+n<=sCap):=by omega
 have h63':¬ (9223372036854775807<((sLen:Int)+(n:Int))):=by omega
 have h48':¬ (281474976710656<Builtin.nextslicecap (sLen+n) sCap * i.bytes):=by omega
 simp [Builtin.append_,run_underlying ht,run_underlying hu,sizeOf,typeInfo,zeroValue,hi,hz,hlen,hn,h63',h48',Question.forced,hnew,hold,newRow,grownCap]
 congr 2
 apply Array.ext'
 simp [List.append_assoc]
theorem l4x {t u ty e e2:Nat} {i:TypeInfo} (ht:P.underlying t=some (.slice e)) (hu:P.underlying u=some (.slice e2)) (hi:P.info? e=some i)
  (b o sLen sCap n:Nat) (x:Value) (news:List Value) (hlen:(Builtin.lenOf x).run P w = .ok n w) (hnew:(Builtin.firstCells i.size n x).run P w = .ok news.toArray w)
  (hroom : sLen+n<=sCap) {cur:Array Value} {ety:TypeId} (hb:w.heap[b]?=some (.cells cur ety (0,0))) (hfit:o+sLen * i.size+news.length<=cur.size) (h1:∀ v∈news,v.oneCell'=true) :
  (Builtin.append_ #[t,u] ty #[.slice (some ⟨b,o,none⟩) sLen sCap,x]).run P w =
   .ok (.slice (some ⟨b,o,none⟩) (sLen+n) sCap) (w.setRow b (cur.toList.take (o+sLen * i.size)++news++cur.toList.drop (o+sLen * i.size+news.length)).toArray):=by
 have hst:=run_storeCells_at P b (o+sLen * i.size) ety news 0 cur w hb (by simpa using hfit) h1
 simp only [Nat.add_zero] at hst
 simp [Builtin.append_,run_underlying ht,run_underlying hu,sizeOf,typeInfo,hi,hlen,hroom,hnew,p8n,hst]
structure Src (P:Program) (w:World) (S:Nat->Prop) (h:Heap) (loc:Loc) (sz:Nat) (es:List (List AV)) (v:Value):Prop where
 len : ∀ w:World,(Builtin.lenOf v).run P w = .ok es.length w
 hl : ∀ e∈es,e.length=sz
 news : ∃ news:List Value,(Builtin.firstCells sz es.length v).run P w = .ok news.toArray w/\(Builtin.firstCells sz es.length v).run P w.drew = .ok news.toArray w.drew/\b2t P w S h loc es.flatten news
theorem g3h {sz b o cap:Nat} {es:List (List AV)} (hl:∀ e∈es,e.length=sz) (val:Nat->Nat->Value)
  (hc : ∀ i j c,at2 es i j=some c->w.cell? ⟨b,o+i * sz+j,none⟩=some (val i j)) (h1:∀ i j c,at2 es i j=some c->(val i j).oneCell'=true) (hv:∀ i j c,at2 es i j=some c->SimV P w S h loc c (val i j)) :
  Src P w S h loc sz es (.slice (some ⟨b,o,none⟩) es.length cap):=by
 have key:∀ k,k<es.length * sz->∃ c,at2 es (k / sz) (k % sz)=some c/\es.flatten[k]?=some c:=fun k hk=>by
  have hs:0<sz:=by rcases Nat.eq_zero_or_pos sz with h|h; · subst h; simp at hk
                   ·exact h
  have hi:k / sz<es.length:=Nat.div_lt_of_lt_mul (by rwa [Nat.mul_comm] at hk)
  have hj:k % sz<sz:=Nat.mod_lt _ hs
  have hlen:=hl _ (List.getElem_mem hi)
  have ha:at2 es (k / sz) (k % sz)=some (es[k / sz][k % sz]'(by rw [hlen]; exact hj)):=by simp [at2,hi,hlen,hj]
  refine ⟨_,ha,?_⟩
  have := c2u es hl _ _ _ ha
  rw [Nat.mul_comm,Nat.div_add_mod] at this
  exact this
 have hcell:∀ k,k<es.length * sz->w.cell? ⟨b,o+k,none⟩=some (val (k / sz) (k % sz)):=fun k hk=>by
  obtain ⟨c,hc1,_⟩:=key k hk
  have := hc _ _ _ hc1
  rw [Nat.add_assoc,Nat.mul_comm (k / sz),Nat.div_add_mod] at this
  exact this
 refine ⟨fun w=>by simp [Builtin.lenOf],hl,(List.range (es.length * sz)).map fun k=>val (k / sz) (k % sz),?_,?_,?_⟩
 ·simp only [Builtin.firstCells]; exact c7p (fun k=>val (k / sz) (k % sz)) hcell
 ·simp only [Builtin.firstCells]; exact c7p (w:=w.drew) (fun k=>val (k / sz) (k % sz)) (fun j hj=>by rw [World.cell?_drew]; exact hcell j hj)
 ·refine ⟨by rw [H82 es hl]; simp,fun k c hk=>?_⟩
  have hlt:k<es.length * sz:=by rw [<- H82 es hl]; exact (gS9.1 hk).1
  obtain ⟨c',h2,h3⟩:=key k hlt
  rw [hk] at h3; cases h3
  exact ⟨_,by simp [hlt],h1 _ _ _ h2,hv _ _ _ h2⟩
theorem l5p (sz:Nat):Src P w S h loc sz [] (.slice none 0 0) :=
 ⟨fun w=>by simp [Builtin.lenOf],by simp,[],by simp [Builtin.firstCells],by simp [Builtin.firstCells],by simp [b2t]⟩
theorem c5a {es:List (List AV)} {lo len i j:Nat} {c:AV} (hh:at2 ((es.drop lo).take len) i j=some c):at2 es (lo+i) j=some c/\i<len:=by
 obtain ⟨ee,h1,h2⟩:=P1m hh
 rw [List.getElem?_take] at h1
 split at h1
 ·rename_i hlt
  rw [List.getElem?_drop] at h1
  exact ⟨by simp [at2,h1,h2],hlt⟩
 ·cases h1
theorem g3g {sz:Nat} {es:List (List AV)} {v:Value} (hx:SimV P w S h loc (.fs sz es) v):Src P w S h loc sz es v:=by
 cases hx with
 | fsNil=>exact l5p _
 | fsE _ a cap=>exact ⟨fun w=>by simp [Builtin.lenOf],by simp,[],by simp [Builtin.firstCells,loadCells,loadCellsFrom],by simp [Builtin.firstCells,loadCells,loadCellsFrom],by simp [b2t]⟩
 | fs _ _ b o cap hcap hS hsz val hc h1 hv=>exact g3h hsz val hc h1 hv
theorem d5g (H:HSim P B S loc h w) {id lo len sz:Nat} {es:List (List AV)} {v:Value} (hx:SimV P w S h loc (.rs id lo len) v) (ho:h.ob id=some (sz,es)) (hb:lo+len<=es.length) :
  Src P w S h loc sz ((es.drop lo).take len) v:=by
 cases hx with
 | rs _ _ _ _ hid hs hx =>
  obtain ⟨hnz,cap,n,rfl,hcap,hmx,hsh,hfit⟩:=hx sz es ho
  obtain ⟨_,hl,val,hv⟩:=H.objs id sz es ho hnz
  have hlen:((es.drop lo).take len).length=len:=by simp; omega
  have := g3h (P:=P) (w:=w) (S:=S) (h:=h) (loc:=loc) (sz:=sz) (b:=(loc id).1) (o:=(loc id).2+lo * sz) (cap:=cap) (es:=(es.drop lo).take len)
   (fun e he=>hl e (List.mem_of_mem_drop (List.mem_of_mem_take he))) (fun i j=>val (lo+i) j) (fun i j c hh=>by
    have := (hv _ _ _ (c5a hh).1).1
    rw [Nat.add_mul,<- Nat.add_assoc] at this; exact this)
   (fun i j c hh=>(hv _ _ _ (c5a hh).1).2.1) (fun i j c hh=>(hv _ _ _ (c5a hh).1).2.2)
  rw [hlen] at this; exact this
theorem b2t.carry {w':World} {S':Nat->Prop} {h':Heap} {loc':Loc} (hc:∀ x v,SimV P w S h loc x v->SimV P w' S' h' loc' x v) {cs:List AV} {vs:List Value} (hr:b2t P w S h loc cs vs):b2t P w' S' h' loc' cs vs :=
 ⟨hr.1,fun j c hj=>by obtain ⟨y,a,b,d⟩:=hr.2 j c hj; exact ⟨y,a,b,hc _ _ d⟩⟩
theorem g3j {e n:Nat} {zs:List Value} (hn:b1x P e=some n) (hz:b3v P e=some zs) (hzl:zs.length=n):∃ i z,P.info? e=some i/\i.size=n/\i.zero=some z/\z.cells.size=n:=by
 obtain ⟨i,z,hi,his,hzo,rfl,_⟩:=E96 hn hz
 exact ⟨i,z,hi,his,hzo,by simpa using hzl⟩
theorem g2f (H:HSim P B S loc h w) (hnx:¬ h.us h.nx) (hB:B<=w.heap.size) {sz ety n need cap:Nat} (es:List (List AV)) (hs0:sz≠0) (hl:∀ e∈es,e.length=sz) (hlen:es.length=need) (arr:Array Value) (vs:List Value) (hr:b2t P w S h loc es.flatten vs)
  (harr : arr.toList.take (need * sz)=vs) (hsz:arr.size=cap * sz) (hcap:need<=cap) (hmx:cap<=maxLen) (_hn:n=need) :
  ∃ S' loc',Upd P B S loc h w S' loc' (h.new (sz,es)) (w.alloc (.cells arr ety))/\SimV P (w.alloc (.cells arr ety)) S' (h.new (sz,es)) loc' (.rs h.nx 0 need) (.slice (some ⟨w.heap.size,0,none⟩) need cap):=by
 have hvs:vs.length=need * sz:=by rw [<- hr.1,H82 es hl,hlen]
 obtain ⟨S',loc',u,hloc,hsh⟩:=c0n H hnx hB ety sz es arr hs0 hl (by rw [hsz,hlen]; exact Nat.mul_le_mul_right _ hcap) (fun i j c hh=>by
  have hf:=c2u es hl i j c hh
  obtain ⟨y,hy,h1,h2⟩:=hr.2 _ c hf
  have hlt:i * sz+j<need * sz:=by rw [<- hvs]; exact (gS9.1 hy).1
  rw [<- harr,List.getElem?_take,if_pos hlt] at hy
  obtain ⟨e1,e2⟩:=J7o (arr:=arr) rfl hy
  exact ⟨e1,by rw [e2]; exact h1,by rw [e2]; exact h2⟩)
 refine ⟨S',loc',u,.rs _ _ _ _ (by simp [Heap.new]) ⟨_,_,rfl⟩ fun sz' es' ho=>?_⟩
 have : (sz',es')=(sz,es):=by simp [Heap.new] at ho; rw [<- ho.1,<- ho.2]
 cases this
 exact ⟨hs0,cap,arr.size,by simp [hloc],hcap,hmx,by rw [hloc]; exact hsh,by rw [hloc,hsz]; simp⟩
theorem d1z {need old bytes:Nat} (h:old<need) (hb:need * bytes<=2 ^ 40):Builtin.nextslicecap need old * bytes<=281474976710656 :=
 growslice_fits h (by omega)
theorem g2d (H:HSim P B S loc h w) (hnx:¬ h.us h.nx) (hB:B<=w.heap.size) {t u ty e e2 sz bytes:Nat} {zs:List Value} (ht:P.underlying t=some (.slice e)) (hu:P.underlying u=some (.slice e2)) (hn:b1x P e=some sz) (hz:b3v P e=some zs) (hzl:zs.length=sz) (hs0:sz≠0)
  (hb : b5e P e=some bytes) {es:List (List AV)} {v:Value} (hs:Src P w S h loc sz es v) (hby:es.length * bytes<=2 ^ 40) (hmx:es.length<=maxLen) (h0:0<es.length) :
  b1m P B S loc h w (Builtin.append_ #[t,u] ty #[.slice none 0 0,v]) (.rs h.nx 0 es.length) (h.new (sz,es)):=by
 obtain ⟨i,z,hi,his,hzo,hzs⟩:=g3j hn hz hzl
 have hbi:i.bytes=bytes:=by simpa [b5e,hi] using hb
 obtain ⟨hlen,hl,news,hn1,hn2,hrow⟩:=hs
 have hrun:=g2y (w:=w) (ty:=ty) ht hu hi hzo none 0 0 es.length v [] news (hlen w) (by simp [Builtin.firstCells]) (by rw [his]; exact hn2) (by omega) (by unfold maxLen at hmx; omega) (by rw [hbi,Nat.zero_add]; exact d1z h0 hby)
 simp only [Nat.zero_add] at hrun
 have u1:=Upd.drew H
 have hgc:=grownCap_ge w es.length 0 e
 have hgm:=grownCap_le_maxLen w es.length 0 e hmx
 have hvl:news.length=es.length * sz:=by rw [<- hrow.1,H82 es hl]
 obtain ⟨S',loc',u2,hv⟩:=g2f (n:=es.length) (cap:=grownCap w es.length 0 e) (ety:=e) u1.hs (w:=w.drew) hnx hB es hs0 hl rfl ((#[]:Array Value)++news.toArray++Builtin.zeroCells z.cells (grownCap w es.length 0 e - es.length)) news (hrow.carry u1.carry)
  (by simp [<- hvl]) (by simp [size_zeroCells,hvl,hzs,<- Nat.add_mul]; rw [Nat.add_sub_cancel' hgc]) hgc hgm rfl
 exact ⟨_,_,S',loc',hrun,u1.trans u2,hv⟩
theorem d4i (H:HSim P B S loc h w) (hnx:¬ h.us h.nx) (hB:B<=w.heap.size) {t u ty e e2 sz bytes:Nat} {zs:List Value} (ht:P.underlying t=some (.slice e)) (hu:P.underlying u=some (.slice e2)) (hn:b1x P e=some sz) (hz:b3v P e=some zs) (hzl:zs.length=sz) (hs0:sz≠0)
  (hb : b5e P e=some bytes) {id lo len:Nat} {ob:List (List AV)} {vb:Value} (hx:SimV P w S h loc (.rs id lo len) vb) (ho:h.ob id=some (sz,ob)) (hwin:lo+len<=ob.length)
  {es : List (List AV)} {v:Value} (hs:Src P w S h loc sz es v) (hby:(len+es.length) * bytes<=2 ^ 40) (hmx:len+es.length<=maxLen) :
  b1m P B S loc h w (Builtin.append_ #[t,u] ty #[vb,v]) (.rs h.nx 0 (len+es.length)) ((h.upd id none).new (sz,(ob.drop lo).take len++es)):=by
 obtain ⟨i,z,hi,his,hzo,hzs⟩:=g3j hn hz hzl
 have hbi:i.bytes=bytes:=by simpa [b5e,hi] using hb
 have hbase:=d5g H hx ho hwin
 have hwl:((ob.drop lo).take len).length=len:=by simp; omega
 obtain ⟨hlen,hl,news,hn1,hn2,hrow⟩:=hs
 obtain ⟨_,hlb,olds,ho1,ho2,hrowb⟩:=hbase
 have hall:∀ e∈(ob.drop lo).take len++es,e.length=sz:=fun e he=>(List.mem_append.1 he).elim (hlb e) (hl e)
 have hnl:news.length=es.length * sz:=by rw [<- hrow.1,H82 es hl]
 have hol:olds.length=len * sz:=by rw [<- hrowb.1,H82 _ hlb,hwl]
 cases hx with
 | rs _ _ _ _ hid hss hx =>
  obtain ⟨_,cap,nn,rfl,hcap,hmx',hsh,hfit⟩:=hx sz ob ho
  obtain ⟨⟨arr,ety,hbk,hfa⟩,hlo,val,hv⟩:=H.objs id sz ob ho hs0
  have hnn:nn=arr.size:=by rw [c1f hbk] at hsh; exact (Option.some.inj hsh).symm
  subst hnn
  have hfit':(loc id).2+lo * sz+cap * sz<=arr.size:=by rw [Nat.add_mul] at hfit; omega
  by_cases hroom:len+es.length<=cap
  ·have hone:∀ v∈news,v.oneCell'=true:=fun v hv=>by
    obtain ⟨j,hj,rfl⟩:=List.getElem_of_mem hv
    have hj':j<es.flatten.length:=by rw [hrow.1]; exact hj
    obtain ⟨y,hy,h1,_⟩:=hrow.2 j _ (gG9 hj')
    rw [gG9 hj] at hy; cases hy; exact h1
   have hle:(len+es.length) * sz<=cap * sz:=Nat.mul_le_mul_right _ hroom
   rw [Nat.add_mul] at hle
   have hfitn:(loc id).2+lo * sz+len * sz+news.length<=arr.size:=by rw [hnl]; omega
   have hrun:=l4x (w:=w) (ty:=ty) ht hu hi (loc id).1 ((loc id).2+lo * sz) len cap es.length v news (hlen w) (by rw [his]; exact hn1) hroom hbk (by rw [his]; exact hfitn) hone
   rw [his] at hrun
   have hrowall:=hrowb.app hrow
   rw [<- List.flatten_append] at hrowall
   have hget:∀ p,p<(len+es.length) * sz->(arr.toList.take ((loc id).2+lo * sz+len * sz)++news++arr.toList.drop ((loc id).2+lo * sz+len * sz+news.length))[(loc id).2+lo * sz+p]?=(olds++news)[p]?:=fun p hp=>by
    rw [Nat.add_mul] at hp
    have hr:=c4p arr.toList news ((loc id).2+lo * sz+len * sz) ((loc id).2+lo * sz+p) (by simpa using hfitn)
    rw [hr]
    by_cases hlt:p<len * sz
    ·rw [if_pos (by omega),List.getElem?_append_left (by omega)]
     have hlt':p<olds.length:=by omega
     have hs:0<sz:=Nat.pos_of_ne_zero hs0
     have hi':p / sz<len:=Nat.div_lt_of_lt_mul (by rwa [Nat.mul_comm] at hlt)
     have hj':p % sz<sz:=Nat.mod_lt _ hs
     have hee:=hlb _ (List.getElem_mem (show p / sz<((ob.drop lo).take len).length by rw [hwl]; exact hi'))
     have ha:at2 ((ob.drop lo).take len) (p / sz) (p % sz)=some (((ob.drop lo).take len)[p / sz]'(by rw [hwl]; exact hi'))[p % sz]:=by
      unfold at2
      rw [gG9 (by rw [hwl]; exact hi')]
      exact gG9 (by rw [hee]; exact hj')
     have hw2:=(c5a ha).1
     have hcell:=(hv _ _ _ hw2).1
     rw [b8a hbk] at hcell
     have hval:arr.toList[(loc id).2+lo * sz+p]?=some (val (lo+p / sz) (p % sz)):=by
      rw [Array.getElem?_toList]
      rw [show (loc id).2+lo * sz+p=(loc id).2+(lo+p / sz) * sz+p % sz by
       have := Nat.div_add_mod p sz
       rw [Nat.add_mul,Nat.mul_comm (p / sz)]; omega]
      exact hcell
     rw [hval]
     have hload:=ho1
     have hl2:=c7p (P:=P) (w:=w) (b:=(loc id).1) (o:=(loc id).2+lo * sz) (n:=len * sz) (fun k=>val (lo+k / sz) (k % sz)) (fun k hk=>by
      have hik:k / sz<len:=Nat.div_lt_of_lt_mul (by rwa [Nat.mul_comm] at hk)
      have hjk:k % sz<sz:=Nat.mod_lt _ hs
      have hee:=hlb _ (List.getElem_mem (show k / sz<((ob.drop lo).take len).length by rw [hwl]; exact hik))
      have ha:at2 ((ob.drop lo).take len) (k / sz) (k % sz)=some (((ob.drop lo).take len)[k / sz]'(by rw [hwl]; exact hik))[k % sz]:=by
       unfold at2
       rw [gG9 (by rw [hwl]; exact hik)]
       exact gG9 (by rw [hee]; exact hjk)
      have := (hv _ _ _ (c5a ha).1).1
      rw [show (loc id).2+lo * sz+k=(loc id).2+(lo+k / sz) * sz+k % sz by
       have := Nat.div_add_mod k sz
       rw [Nat.add_mul,Nat.mul_comm (k / sz)]; omega]
      exact this)
     simp only [Builtin.firstCells,hwl] at hload
     rw [hl2] at hload
     have holds:olds=(List.range (len * sz)).map fun k=>val (lo+k / sz) (k % sz):=by
      simp at hload; exact hload.symm
     rw [holds]; simp [hlt]
    ·rw [if_neg (by omega),if_pos (by omega),List.getElem?_append_right (by omega),hol]
     congr 1; omega
   have u1:=Upd.rewrite H hnx ho hbk (arr.toList.take ((loc id).2+lo * sz+len * sz)++news++arr.toList.drop ((loc id).2+lo * sz+len * sz+news.length)).toArray (by simp; omega)
    ((loc id).2+lo * sz) sz ((ob.drop lo).take len++es) hs0 hall (by rw [List.length_append,hwl,Nat.add_mul]; omega) (fun i j=>(olds++news).getD (i * sz+j) undef) (fun i j c hh=>by
     have hf:=c2u _ hall i j c hh
     obtain ⟨y,hy,h1,h2⟩:=hrowall.2 _ c hf
     have hlt:i * sz+j<(len+es.length) * sz:=by
      have := (gS9.1 hy).1
      rw [List.length_append,hol,hnl,<- Nat.add_mul] at this; exact this
     have e1:(olds++news).getD (i * sz+j) undef=y:=by simp [List.getD,hy]
     rw [e1]
     refine ⟨?_,h1,h2⟩
     have hg2:=hget _ hlt
     rw [<- Nat.add_assoc] at hg2
     rw [List.getElem?_toArray,hg2]; exact hy)
   refine ⟨_,_,_,_,hrun,u1,.rs _ _ _ _ (by simp [Heap.new,Heap.upd]) ⟨_,_,rfl⟩ fun sz' es' ho'=>?_⟩
   have : (sz',es')=(sz,(ob.drop lo).take len++es):=by simp [Heap.new,Heap.upd] at ho'; rw [<- ho'.1,<- ho'.2]
   cases this
   refine ⟨hs0,cap,arr.size,?_,hroom,hmx',?_,?_⟩
   ·rw [b62]; simp
   ·rw [b62,c1f (setRow_heap w _ arr _ ety _ hbk)]
    simp; omega
   ·rw [b62,Nat.zero_add]; exact hfit'
  ·have hg:cap<len+es.length:=by omega
   have hrun:=g2y (w:=w) (ty:=ty) ht hu hi hzo (some ⟨(loc id).1,(loc id).2+lo * sz,none⟩) len cap es.length v olds news (hlen w) (by
     rw [his]; have:=ho2; simp only [Builtin.firstCells,hwl] at this ⊢; exact this) (by rw [his]; exact hn2) hg (by unfold maxLen at hmx; omega) (by rw [hbi]; exact d1z hg hby)
   have u0:=Upd.kill H id
   have u1:=Upd.drew u0.hs
   have hgc:=grownCap_ge w (len+es.length) cap e
   have hgm:=grownCap_le_maxLen w (len+es.length) cap e hmx
   have hrowall:=((hrowb.app hrow).carry u0.carry).carry u1.carry
   rw [<- List.flatten_append] at hrowall
   obtain ⟨S',loc',u2,hv2⟩:=g2f (n:=len+es.length) (need:=len+es.length) (cap:=grownCap w (len+es.length) cap e) (ety:=e) u1.hs (w:=w.drew) hnx hB ((ob.drop lo).take len++es) hs0 hall (by rw [List.length_append,hwl])
    (olds.toArray ++ news.toArray++Builtin.zeroCells z.cells (grownCap w (len+es.length) cap e - (len+es.length))) (olds++news) hrowall
    (by
     have e1:(len+es.length) * sz=(olds++news).length:=by rw [List.length_append,hol,hnl,Nat.add_mul]
     have e2:(olds.toArray++news.toArray++Builtin.zeroCells z.cells (grownCap w (len+es.length) cap e - (len+es.length))).toList=(olds++news)++(Builtin.zeroCells z.cells (grownCap w (len+es.length) cap e - (len+es.length))).toList:=by simp
     rw [e1,e2,List.take_left]) (by
     simp [size_zeroCells,hol,hnl,hzs]
     rw [<- Nat.add_mul,<- Nat.add_mul,Nat.add_sub_cancel' hgc]) hgc hgm rfl
   exact ⟨_,_,S',loc',hrun,(u0.trans u1).trans u2,hv2⟩
end
end Go.Nw
