/- Building structs, arrays and slices; append. -/
import Derived.Test.YtojneiildpnpiaaNwOps
import Derived.Laws.AppendOwn
set_option linter.all false
namespace Go.Nw
open Go.RowKit
section
variable {P:Program} {B:Nat} {S:Nat->Prop} {loc:Loc} {h:Heap} {w:World}
def b2t (P:Program) (w:World) (S:Nat->Prop) (h:Heap) (loc:Loc) (cs:List AV) (vs:List Value):Prop :=
 cs.length = vs.length/\∀ (j:Nat) c,cs[j]?=some c->∃ y,vs[j]?=some y/\y.oneCell'=true/\SimV P w S h loc c y
theorem b2t.app {a b:List AV} {u v:List Value} (h1:b2t P w S h loc a u) (h2:b2t P w S h loc b v):b2t P w S h loc (a++b) (u++v):=by
 refine ⟨by simp [h1.1,h2.1],fun j c hj=>?_⟩
 by_cases hlt:j<a.length
 ·rw [List.getElem?_append_left hlt] at hj
  obtain ⟨y,hy,r⟩:=h1.2 j c hj
  exact ⟨y,by rw [List.getElem?_append_left (by rw [<- h1.1]; exact hlt)]; exact hy,r⟩
 ·rw [List.getElem?_append_right (by omega)] at hj
  obtain ⟨y,hy,r⟩:=h2.2 _ c hj
  exact ⟨y,by rw [List.getElem?_append_right (by rw [<- h1.1]; omega),<- h1.1]; exact hy,r⟩
theorem b2t.take {a:List AV} {u:List Value} (h1:b2t P w S h loc a u) (n:Nat):b2t P w S h loc (a.take n) (u.take n):=by
 refine ⟨by simp [h1.1],fun j c hj=>?_⟩
 rw [List.getElem?_take] at hj ⊢
 split at hj
 ·rename_i hlt; rw [if_pos hlt]; exact h1.2 j c hj
 ·cases hj
theorem b2t.drop {a:List AV} {u:List Value} (h1:b2t P w S h loc a u) (n:Nat):b2t P w S h loc (a.drop n) (u.drop n):=by
 refine ⟨by simp [h1.1],fun j c hj=>?_⟩
 rw [List.getElem?_drop] at hj ⊢
 exact h1.2 _ c hj
theorem d6q {x:AV} {v:Value} (hx:SimV P w S h loc x v) (ho:b2d x=true):b2t P w S h loc (cellsOf x) v.cells.toList:=by
 obtain ⟨hs,hc⟩:=c6o hx ho
 refine ⟨by simp [hs],fun j c hj=>?_⟩
 obtain ⟨h1,h2,h3⟩:=hc j c hj
 exact ⟨_,by rw [Array.getElem?_toList]; exact h1,h2,h3⟩
theorem g27 (off:Nat):∀ (l:List Value) (k:Nat) (cells:Array Value),off+k+l.length<=cells.size ->
  ((l.zipIdx k).foldl (fun cs (p:Value × Nat)=>cs.setIfInBounds (off+p.2) p.1) cells).toList=cells.toList.take (off+k)++l++cells.toList.drop (off+k+l.length)
 | [],k,cells,_=>by simp
 | v :: l,k,cells,hl=>by
  simp only [List.zipIdx_cons,List.foldl_cons]
  rw [g27 off l (k+1) _ (by simp at hl ⊢; omega)]
  simp only [Array.toList_setIfInBounds,List.length_cons]
  have hlt:off+k<cells.toList.length:=by simp at hl ⊢; omega
  apply List.ext_getElem?
  intro j
  have e1:=c4p (cells.toList.set (off+k) v) l (off+(k+1)) j (by simp at hl ⊢; omega)
  have e2:=c4p cells.toList (v :: l) (off+k) j (by simpa using hl)
  simp only [List.length_cons] at e2
  rw [e1,e2]
  by_cases h1:j<off+k
  ·rw [if_pos (by omega),if_pos h1,List.getElem?_set_ne (by omega)]
  ·rw [if_neg h1]
   by_cases h2:j=off+k
   ·subst h2
    rw [if_pos (by omega),if_pos (by omega),List.getElem?_set_self hlt]; simp
   ·rw [if_neg (by omega)]
    by_cases h3:j<off+k+(l.length+1)
    ·rw [if_pos (by omega),if_pos h3]
     have : j - (off+k)=(j - (off+(k+1)))+1:=by omega
     rw [this]; simp
    ·rw [if_neg (by omega),if_neg h3,List.getElem?_set_ne (by omega)]
theorem d1v (place:Nat->Option (Nat × Nat)):∀ (ps:List (Nat × List AV)) (parts:List (Nat × Value)) (cs:List AV) (cells:Array Value),
  b2t P w S h loc cs cells.toList->ps.length=parts.length ->
  (∀ (k:Nat) off ds i v,ps[k]?=some (off,ds)->parts[k]?=some (i,v)->place i=some (off,ds.length)/\b2t P w S h loc ds v.cells.toList/\off+ds.length<=cs.length) ->
  ∃ cells',Instr.fill place cells parts=some cells'/\b2t P w S h loc (Nw.place cs ps) cells'.toList
 | [],[],cs,cells,hr,_,_=>⟨cells,rfl,hr⟩
 | (off,ds) :: ps,(i,v) :: parts,cs,cells,hr,hl,hp=>by
  obtain ⟨h1,h2,h3⟩:=hp 0 off ds i v rfl rfl
  have hvs:v.cells.size=ds.length:=by rw [h2.1]; simp
  have hcs:cells.size=cs.length:=by rw [hr.1]; simp
  have hsf:=g27 off v.cells.toList 0 cells (by simp; omega)
  simp only [Nat.add_zero,Array.length_toList,hvs] at hsf
  have hr':b2t P w S h loc (cs.take off++ds++cs.drop (off+ds.length)) (v.cells.toList.zipIdx.foldl (fun cs (p:Value × Nat)=>cs.setIfInBounds (off+p.2) p.1) cells).toList:=by
   rw [hsf]; exact ((hr.take off).app h2).app (hr.drop _)
  obtain ⟨cells',hf,hrow⟩:=d1v place ps parts _ _ hr' (by simpa using hl) (fun k o d j u hk hk'=>by
   obtain ⟨a1,a2,a3⟩:=hp (k+1) o d j u (by simpa using hk) (by simpa using hk')
   exact ⟨a1,a2,by simp; omega⟩)
  refine ⟨cells',?_,hrow⟩
  simp only [Instr.fill,h1,hvs]
  rw [if_neg (by simp; omega),<- hf]
  congr 1
  rw [<- Array.foldl_toList,Array.toList_zipIdx]
 | [],_ :: _,_,_,_,hl,_=>by simp at hl
 | _ :: _,[],_,_,_,hl,_=>by simp at hl
theorem b2t.zero {zs:List Value} (hone:∀ y∈zs,y.oneCell'=true):b2t P w S h loc (zs.map .v) zs:=by
 refine ⟨by simp,fun j c hj=>?_⟩
 simp only [List.getElem?_map,mE9] at hj
 obtain ⟨y,hy,rfl⟩:=hj
 exact ⟨y,hy,hone y (mG9 hy),.v y⟩
theorem b2t.agg {cs:List AV} {vs:Array Value} (hr:b2t P w S h loc cs vs.toList):SimV P w S h loc (.agg cs) (.agg vs):=by
 have hget:∀ (i:Nat) c,cs[i]?=some c->(vs.getD i undef).oneCell'=true/\SimV P w S h loc c (vs.getD i undef):=fun i c hi=>by
  obtain ⟨y,hy,h1,h2⟩:=hr.2 i c hi
  obtain ⟨_,e2⟩:=J7o (arr:=vs) rfl hy
  rw [e2]; exact ⟨h1,h2⟩
 refine .agg cs vs (by rw [hr.1]; simp) (fun i hi=>?_) fun i c hi=>(hget i c hi).2
 have hlt:i<cs.length:=by rw [hr.1]; simpa using hi
 exact (hget i _ (gG9 hlt)).1
theorem l3u:∀ (l:List (Nat × Nat × AV)) (ps:List (Nat × List AV)),b6q l=some ps->ps.length=l.length/\∀ (k:Nat) off sz x,l[k]?=some (off,sz,x)->ps[k]?=some (off,cellsOf x)/\b2d x=true/\(cellsOf x).length=sz:=by
 intro l ps hp
 obtain ⟨hl,hi⟩:=c7v _ l ps hp
 refine ⟨hl,fun k off sz x hk=>?_⟩
 have hlt:k<ps.length:=by rw [hl]; exact (gS9.1 hk).1
 obtain ⟨y,hy,hf⟩:=hi k _ (gG9 hlt)
 rw [hk] at hy; cases hy
 simp only at hf
 split at hf
 ·rename_i hc
  simp at hf
  exact ⟨by rw [gG9 hlt,<- hf],hc.1,hc.2⟩
 ·cases hf
theorem l3c (H:HSim P B S loc h w) {t:Nat} {zs:List Value} (hz:b3v P t=some zs) (place:Nat->Option (Nat × Nat)) (hbuilt:∀ parts cells z,(P.info? t).bind (·.zero)=some z->Instr.fill place z.cells parts=some cells->P.built t parts=some cells)
  (l : List (Nat × Nat × AV)) (parts:List (Nat × Value)) (hl:l.length=parts.length) (hp:∀ (k:Nat) off sz x i v,l[k]?=some (off,sz,x)->parts[k]?=some (i,v)->place i=some (off,sz)/\SimV P w S h loc x v)
  {ps : List (Nat × List AV)} (hps:b6q l=some ps) (hb:∀ p∈ps,p.1+p.2.length<=zs.length) :
  b1m P B S loc h w (Instr.build t parts.toArray) (.agg (Nw.place (zs.map .v) ps)) h:=by
 obtain ⟨i,z,hi,hzo,rfl,hone⟩:=c7g hz
 obtain ⟨hpl,hpk⟩:=l3u l ps hps
 obtain ⟨cells,hf,hrow⟩:=d1v (P:=P) (w:=w) (S:=S) (h:=h) (loc:=loc) place ps parts (z.cells.toList.map .v) z.cells (b2t.zero hone) (by rw [hpl,hl]) (fun k off ds j v hk hk'=>by
  have hlt:k<l.length:=by rw [<- hpl]; exact (gS9.1 hk).1
  obtain ⟨⟨o,s,x⟩,hlk⟩:∃ y,l[k]?=some y:=⟨_,gG9 hlt⟩
  obtain ⟨e1,e2,e3⟩:=hpk k o s x hlk
  rw [hk] at e1; cases e1
  obtain ⟨a1,a2⟩:=hp k _ _ _ _ _ hlk hk'
  refine ⟨by rw [a1,e3],d6q a2 e2,?_⟩
  have := hb _ (mG9 hk)
  simpa using this)
 refine b1m.same H (run_build w t _ cells ?_) hrow.agg
 exact hbuilt _ _ z (by rw [hi]; exact hzo) (by simpa using hf)
theorem c2u {sz:Nat}:∀ (es:List (List AV)),(∀ e∈es,e.length=sz)->∀ i j c,at2 es i j=some c->es.flatten[i * sz+j]?=some c
 | [],_,i,j,c,h=>by simp [at2] at h
 | e :: es,hl,i,j,c,h=>by
  have he:e.length=sz:=hl e (by simp)
  cases i with
  | zero =>
   simp [at2] at h
   have hj:j<e.length:=(gS9.1 h).1
   simp only [List.flatten_cons,Nat.zero_mul,Nat.zero_add]
   rw [List.getElem?_append_left hj]; exact h
  | succ i =>
   have h':at2 es i j=some c:=by simpa [at2] using h
   have := c2u es (fun e he=>hl e (by simp [he])) i j c h'
   simp only [List.flatten_cons]
   rw [List.getElem?_append_right (by rw [he,Nat.succ_mul]; omega),he,Nat.succ_mul]
   rw [show i * sz+sz+j - sz=i * sz+j by omega]; exact this
theorem H82 {sz:Nat}:∀ (es:List (List AV)),(∀ e∈es,e.length=sz)->es.flatten.length=es.length * sz
 | [],_=>by simp
 | e :: es,hl=>by
  simp only [List.flatten_cons,List.length_append,List.length_cons,hl e (by simp),H82 es (fun e he=>hl e (by simp [he])),Nat.succ_mul]; omega
theorem g2m {sz:Nat}:∀ (es done:List (List AV)) (rest:List AV) (k:Nat),(∀ e∈es,e.length=sz)->done.flatten.length=k * sz->es.length * sz<=rest.length ->
  Nw.place (done.flatten++rest) ((es.zipIdx k).map fun p=>(p.2 * sz,p.1))=done.flatten++es.flatten++rest.drop (es.length * sz)
 | [],done,rest,k,_,_,_=>by simp [Nw.place]
 | e :: es,done,rest,k,hl,hd,hr=>by
  have he:e.length=sz:=hl e (by simp)
  simp only [List.length_cons,Nat.succ_mul] at hr
  simp only [List.zipIdx_cons,List.map_cons,Nw.place]
  have e1:(done.flatten++rest).take (k * sz)=done.flatten:=by rw [<- hd,List.take_left]
  have e2:(done.flatten++rest).drop (k * sz+e.length)=rest.drop sz:=by rw [<- hd,he,<- List.drop_drop,List.drop_left]
  rw [e1,e2]
  have := g2m es (done++[e]) (rest.drop sz) (k+1) (fun e he=>hl e (by simp [he])) (by simp [hd,he,Nat.succ_mul]) (by simp; omega)
  simp only [List.flatten_append,List.flatten_cons,List.flatten_nil,List.append_nil] at this
  rw [this]
  simp only [List.flatten_cons,List.append_assoc,List.length_cons,List.drop_drop,Nat.succ_mul]
  rw [Nat.add_comm sz]
theorem l3b (H:HSim P B S loc h w) (hnx:¬ h.us h.nx) (hB:B<=w.heap.size) {t e sz:Nat} {zs:List Value} (ht:P.underlying t=some (.slice e)) (hn:b1x P e=some sz) (hz:b3v P e=some zs) (hzl:zs.length=sz) (hs0:sz≠0)
  {xs : List AV} {vs:List Value} (hl:b3j P w S h loc xs vs) (hfit:vs.length * sz<=2 ^ 24) (hok:∀ x∈xs,b2d x=true/\(cellsOf x).length=sz) :
  b1m P B S loc h w (Instr.buildSlice t vs.length ((vs.zipIdx.map fun p=>(p.2,p.1)).toArray)) (.rs h.nx 0 xs.length) (h.new (sz,xs.map cellsOf)):=by
 obtain ⟨i,z,hi,his,hzo,rfl,hone⟩:=E96 hn hz
 have hzs:z.cells.size=sz:=by simpa using hzl
 have hes:∀ e∈xs.map cellsOf,e.length=sz:=fun e he=>by
  obtain ⟨x,hx,rfl⟩:=List.mem_map.1 he; exact (hok x hx).2
 have hrow0:b2t P w S h loc ((List.range (vs.length * sz)).map fun k=>AV.v (z.cells[k % z.cells.size]!)) ((Array.range (vs.length * sz)).map (z.cells[· % z.cells.size]!)).toList:=by
  refine ⟨by simp,fun j c hj=>?_⟩
  simp only [List.getElem?_map,mE9] at hj
  obtain ⟨k,hk,rfl⟩:=hj
  refine ⟨z.cells[k % z.cells.size]!,?_,?_,.v _⟩
  ·rw [Array.toList_map,Array.toList_range,List.getElem?_map,hk]; rfl
  ·have hm:k % z.cells.size<z.cells.size:=Nat.mod_lt _ (by omega)
   rw [getElem!_pos z.cells _ hm]
   exact hone _ (by simp)
 obtain ⟨cells,hf,hrow⟩:=d1v (P:=P) (w:=w) (S:=S) (h:=h) (loc:=loc) (fun i=>some (i * sz,sz)) (((xs.map cellsOf).zipIdx).map fun p=>(p.2 * sz,p.1)) (vs.zipIdx.map fun p=>(p.2,p.1)) _ _ hrow0 (by simp [hl.1]) (fun k off ds j v hk hk'=>by
  simp only [List.getElem?_map,List.getElem?_zipIdx,mE9,Prod.mk.injEq,Nat.zero_add] at hk hk'
  obtain ⟨⟨d,k0⟩,⟨c,⟨x,hx,hc⟩,hpair⟩,h1,h2⟩:=hk
  obtain ⟨⟨v0,k1⟩,⟨v1,hv1,hpair'⟩,h1',h2'⟩:=hk'
  cases hpair; cases hpair'
  simp only at h1 h2 h1' h2'
  subst h1 h2 h1' h2' hc
  obtain ⟨o1,o2⟩:=hok x (mG9 hx)
  refine ⟨by rw [o2],d6q (hl.2 k x _ hx hv1) o1,?_⟩
  have hklt:k<vs.length:=(gS9.1 hv1).1
  rw [o2]
  simp only [List.length_map,List.length_range]
  have := Nat.mul_le_mul_right sz (show k+1<=vs.length from hklt)
  rw [Nat.succ_mul] at this; omega)
 have hpf:=g2m (sz:=sz) (xs.map cellsOf) [] ((List.range (vs.length * sz)).map fun k=>AV.v (z.cells[k % z.cells.size]!)) 0 hes (by simp) (by simp [hl.1])
 simp only [List.flatten_nil,List.nil_append] at hpf
 rw [hpf] at hrow
 have hdrop:((List.range (vs.length * sz)).map fun k=>AV.v (z.cells[k % z.cells.size]!)).drop ((xs.map cellsOf).length * sz)=[]:=by
  apply List.drop_eq_nil_of_le; simp [hl.1]
 rw [hdrop,List.append_nil] at hrow
 have hsz:cells.size=xs.length * sz:=by
  have := hrow.1; rw [H82 _ hes] at this; simpa using this.symm
 obtain ⟨S',loc',u,hloc,hsh⟩:=c0n H hnx hB e sz (xs.map cellsOf) cells hs0 hes (by simp [hsz]) (fun i j c hh=>by
  have := c2u _ hes i j c hh
  obtain ⟨y,hy,h1,h2⟩:=hrow.2 _ c this
  obtain ⟨e1,e2⟩:=J7o (arr:=cells) rfl hy
  exact ⟨e1,by rw [e2]; exact h1,by rw [e2]; exact h2⟩)
 refine ⟨.slice (some ⟨w.heap.size,0,none⟩) vs.length vs.length,_,S',loc',?_,u,?_⟩
 ·simp only [Instr.buildSlice,Sem.run_bind,run_underlying ht,Result.andThen_ok,b3s hn,Sem.run_ite]
  rw [if_neg (by omega)]
  by_cases h0:vs.length * sz=0
  ·rw [if_pos h0]
   simp only [Sem.run_pure,Result.andThen_ok]
   have hv0:vs=[]:=by
    rcases Nat.mul_eq_zero.1 h0 with h|h
    ·exact List.eq_nil_of_length_eq_zero h
    ·exact absurd h hs0
   subst hv0
   simp only [List.zipIdx_nil,List.map_nil,Instr.fill] at hf ⊢
   cases hf
   have er:∀ f:Nat->Value,(Array.range (([]:List Value).length * sz)).map f=#[]:=fun f=>by
    apply Array.eq_empty_of_size_eq_zero; simp
   simp only [er,Sem.run_bind,newRow,Sem.run_pure,Result.andThen_ok,run_newObj_alloc]
  ·rw [if_neg h0]
   simp only [Sem.run_bind,zeroValue,typeInfo,run_program,Result.andThen_ok,hi,Sem.run_pure,hzo]
   rw [hf]
   simp [newRow]
 ·rw [<- hl.1]
  refine .rs _ _ _ _ (by simp [Heap.new]) ⟨_,_,rfl⟩ fun sz' es' ho=>?_
  have : (sz',es')=(sz,xs.map cellsOf):=by simp [Heap.new] at ho; rw [<- ho.1,<- ho.2]
  cases this
  refine ⟨hs0,xs.length,xs.length * sz,by simp [hloc],Nat.le_refl _,?_,by rw [hloc]; simpa [hsz] using hsh,by rw [hloc]; simp⟩
  have h1:xs.length<=xs.length * sz:=Nat.le_mul_of_pos_right _ (by omega)
  rw [<- hl.1] at hfit
  unfold maxLen; omega
theorem J4g (H:HSim P B S loc h w) (hB:B<=w.heap.size) {t e sz:Nat} {zs:List Value} (ht:P.underlying t=some (.slice e)) (hn:b1x P e=some sz) (hz:b3v P e=some zs) (hzl:zs.length=sz) (hs0:sz≠0)
  {xs : List AV} {vs:List Value} (hl:b3j P w S h loc xs vs) (hfit:vs.length * sz<=2 ^ 24) (hok:∀ x∈xs,b2d x=true/\(cellsOf x).length=sz) :
  b1m P B S loc h w (Instr.buildSlice t vs.length ((vs.zipIdx.map fun p=>(p.2,p.1)).toArray)) (.fs sz (xs.map cellsOf)) h:=by
 obtain ⟨i,z,hi,his,hzo,rfl,hone⟩:=E96 hn hz
 have hzs:z.cells.size=sz:=by simpa using hzl
 have hes:∀ e∈xs.map cellsOf,e.length=sz:=fun e he=>by
  obtain ⟨x,hx,rfl⟩:=List.mem_map.1 he; exact (hok x hx).2
 have hrow0:b2t P w S h loc ((List.range (vs.length * sz)).map fun k=>AV.v (z.cells[k % z.cells.size]!)) ((Array.range (vs.length * sz)).map (z.cells[· % z.cells.size]!)).toList:=by
  refine ⟨by simp,fun j c hj=>?_⟩
  simp only [List.getElem?_map,mE9] at hj
  obtain ⟨k,hk,rfl⟩:=hj
  refine ⟨z.cells[k % z.cells.size]!,?_,?_,.v _⟩
  ·rw [Array.toList_map,Array.toList_range,List.getElem?_map,hk]; rfl
  ·have hm:k % z.cells.size<z.cells.size:=Nat.mod_lt _ (by omega)
   rw [getElem!_pos z.cells _ hm]
   exact hone _ (by simp)
 obtain ⟨cells,hf,hrow⟩:=d1v (P:=P) (w:=w) (S:=S) (h:=h) (loc:=loc) (fun i=>some (i * sz,sz)) (((xs.map cellsOf).zipIdx).map fun p=>(p.2 * sz,p.1)) (vs.zipIdx.map fun p=>(p.2,p.1)) _ _ hrow0 (by simp [hl.1]) (fun k off ds j v hk hk'=>by
  simp only [List.getElem?_map,List.getElem?_zipIdx,mE9,Prod.mk.injEq,Nat.zero_add] at hk hk'
  obtain ⟨⟨d,k0⟩,⟨c,⟨x,hx,hc⟩,hpair⟩,h1,h2⟩:=hk
  obtain ⟨⟨v0,k1⟩,⟨v1,hv1,hpair'⟩,h1',h2'⟩:=hk'
  cases hpair; cases hpair'
  simp only at h1 h2 h1' h2'
  subst h1 h2 h1' h2' hc
  obtain ⟨o1,o2⟩:=hok x (mG9 hx)
  refine ⟨by rw [o2],d6q (hl.2 k x _ hx hv1) o1,?_⟩
  have hklt:k<vs.length:=(gS9.1 hv1).1
  rw [o2]
  simp only [List.length_map,List.length_range]
  have := Nat.mul_le_mul_right sz (show k+1<=vs.length from hklt)
  rw [Nat.succ_mul] at this; omega)
 have hpf:=g2m (sz:=sz) (xs.map cellsOf) [] ((List.range (vs.length * sz)).map fun k=>AV.v (z.cells[k % z.cells.size]!)) 0 hes (by simp) (by simp [hl.1])
 simp only [List.flatten_nil,List.nil_append] at hpf
 rw [hpf] at hrow
 have hdrop:((List.range (vs.length * sz)).map fun k=>AV.v (z.cells[k % z.cells.size]!)).drop ((xs.map cellsOf).length * sz)=[]:=by
  apply List.drop_eq_nil_of_le; simp [hl.1]
 rw [hdrop,List.append_nil] at hrow
 have hsz:cells.size=xs.length * sz:=by
  have := hrow.1; rw [H82 _ hes] at this; simpa using this.symm
 have hv:∀ i j c,at2 (xs.map cellsOf) i j=some c->cells[i * sz+j]?=some (cells.getD (i * sz+j) undef)/\(cells.getD (i * sz+j) undef).oneCell'=true/\SimV P w S h loc c (cells.getD (i * sz+j) undef):=fun i j c hh=>by
  have := c2u _ hes i j c hh
  obtain ⟨y,hy,h1,h2⟩:=hrow.2 _ c this
  obtain ⟨e1,e2⟩:=J7o (arr:=cells) rfl hy
  exact ⟨e1,by rw [e2]; exact h1,by rw [e2]; exact h2⟩
 have u:=Upd.newF H hB (.cells cells e)
 refine ⟨.slice (some ⟨w.heap.size,0,none⟩) vs.length vs.length,_,_,_,?_,u,?_⟩
 ·simp only [Instr.buildSlice,Sem.run_bind,run_underlying ht,Result.andThen_ok,b3s hn,Sem.run_ite]
  rw [if_neg (by omega)]
  by_cases h0:vs.length * sz=0
  ·rw [if_pos h0]
   simp only [Sem.run_pure,Result.andThen_ok]
   have hv0:vs=[]:=by
    rcases Nat.mul_eq_zero.1 h0 with h|h
    ·exact List.eq_nil_of_length_eq_zero h
    ·exact absurd h hs0
   subst hv0
   simp only [List.zipIdx_nil,List.map_nil,Instr.fill] at hf ⊢
   cases hf
   have er:∀ f:Nat->Value,(Array.range (([]:List Value).length * sz)).map f=#[]:=fun f=>by
    apply Array.eq_empty_of_size_eq_zero; simp
   simp only [er,Sem.run_bind,newRow,Sem.run_pure,Result.andThen_ok,run_newObj_alloc]
  ·rw [if_neg h0]
   simp only [Sem.run_bind,zeroValue,typeInfo,run_program,Result.andThen_ok,hi,Sem.run_pure,hzo]
   rw [hf]
   simp [newRow]
 ·rw [<- hl.1]
  have el:xs.length=(xs.map cellsOf).length:=by simp
  rw [el]
  refine .fs sz (xs.map cellsOf) w.heap.size 0 _ (Nat.le_refl _) (.inr rfl) hes (fun i j=>cells.getD (i * sz+j) undef) (fun i j c hh=>?_) (fun i j c hh=>(hv i j c hh).2.1) fun i j c hh=>u.carry _ _ (hv i j c hh).2.2
  rw [b8a (c6j w _),Nat.zero_add]
  exact (hv i j c hh).1
end
end Go.Nw
