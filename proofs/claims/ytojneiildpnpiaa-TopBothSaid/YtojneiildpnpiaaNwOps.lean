/- What each operation of the abstract machine says of the model's operation. -/
import Derived.Test.YtojneiildpnpiaaNwSim
import Derived.WalkSpells
import Derived.WalkLawsBesides
import Derived.Laws.Cover3
import Derived.Laws.Pointers
set_option linter.all false
namespace Go.Nw
open Go.RowKit
def b1m (P:Program) (B:Nat) (S:Nat->Prop) (loc:Loc) (h:Heap) (w:World) (m:Sem Value) (r:AV) (h':Heap):Prop :=
 ∃ v w' S' loc',m.run P w = .ok v w'/\Upd P B S loc h w S' loc' h' w'/\SimV P w' S' h' loc' r v
section
variable {P:Program} {B:Nat} {S:Nat->Prop} {loc:Loc} {h:Heap} {w:World}
theorem b1m.same (H:HSim P B S loc h w) {m:Sem Value} {r:AV} {v:Value} (hr:m.run P w = .ok v w) (hv:SimV P w S h loc r v):b1m P B S loc h w m r h :=
 ⟨v,w,S,loc,hr,.refl H,hv⟩
def b9c (P:Program) (S:Nat->Prop) (loc:Loc) (h:Heap) (w:World) (m:Sem Value) (r:AV):Prop :=
 ∃ v,m.run P w = .ok v w/\SimV P w S h loc r v
theorem b9c.out (H:HSim P B S loc h w) {m:Sem Value} {r:AV} (ho:b9c P S loc h w m r):b1m P B S loc h w m r h:=by
 obtain ⟨v,hr,hv⟩:=ho; exact b1m.same H hr hv
theorem getD_some {vs:Array Value} {i:Nat} (h:i<vs.size):vs[i]?=some (vs.getD i undef):=by
 simp [Array.getD,h]
theorem c6o {x:AV} {v:Value} (hx:SimV P w S h loc x v) (ho:b2d x=true) :
  v.cells.size = (cellsOf x).length/\∀ j c,(cellsOf x)[j]?=some c->v.cells[j]?=some (v.cells.getD j undef)/\(v.cells.getD j undef).oneCell'=true/\SimV P w S h loc c (v.cells.getD j undef):=by
 have one:∀ {x:AV} {v:Value},cellsOf x=[x]->SimV P w S h loc x v->v.oneCell'=true ->
   v.cells.size = (cellsOf x).length/\∀ j c,(cellsOf x)[j]?=some c->v.cells[j]?=some (v.cells.getD j undef)/\(v.cells.getD j undef).oneCell'=true/\SimV P w S h loc c (v.cells.getD j undef):=by
  intro x v hx hs ho
  have hc:v.cells=#[v]:=by cases v <;> simp_all [Value.cells,Value.oneCell']
  rw [hc,hx]
  refine ⟨rfl,fun j c hj=>?_⟩
  cases j with
  | zero=>simp at hj; subst hj; exact ⟨rfl,ho,hs⟩
  | succ j=>simp at hj
 cases hx with
 | v=>exact one rfl (.v v) ho
 | dead=>cases ho
 | agg cs vs hl h1 hc =>
  refine ⟨hl,fun j c hj=>?_⟩
  have hlt:j<vs.size:=by rw [hl]; exact (gS9.1 hj).1
  exact ⟨getD_some hlt,h1 j hlt,hc j c hj⟩
 | tup=>cases ho
 | fsNil sz=>exact one rfl (.fsNil sz) rfl
 | fsE sz a cap=>exact one rfl (.fsE sz a cap) rfl
 | fs sz es b o cap hcap hS hsz val hc h1 hv=>exact one rfl (.fs sz es b o cap hcap hS hsz val hc h1 hv) rfl
 | fp cs off b o hS val hc h1 hv=>exact one rfl (.fp cs off b o hS val hc h1 hv) rfl
 | fn f as cs id fn0 vs us hf hn hb hg hl hc hl' hc'=>exact one rfl (.fn f as cs id fn0 vs us hf hn hb hg hl hc hl' hc') rfl
 | rs id lo len _ hid hs hx=>exact one rfl (.rs id lo len _ hid hs hx) (by obtain ⟨a,c,rfl⟩:=hs; rfl)
 | rp id i off _ hid hs hx=>exact one rfl (.rp id i off _ hid hs hx) (by obtain ⟨a,rfl⟩:=hs; rfl)
 | mp id _ hid hs hx=>exact one rfl (.mp id _ hid hs hx) (by obtain ⟨a,rfl⟩:=hs; rfl)
theorem c0n (H:HSim P B S loc h w) (hnx:¬ h.us h.nx) (hB:B<=w.heap.size) (ty sz:Nat) (es:List (List AV)) (arr:Array Value) (hsz:sz≠0) (hl:∀ e∈es,e.length=sz) (hfit:es.length * sz<=arr.size)
  (hv : ∀ i j c,at2 es i j=some c->arr[i * sz+j]?=some (arr.getD (i * sz+j) undef)/\(arr.getD (i * sz+j) undef).oneCell'=true/\SimV P w S h loc c (arr.getD (i * sz+j) undef)) :
  ∃ S' loc',Upd P B S loc h w S' loc' (h.new (sz,es)) (w.alloc (.cells arr ty))/\loc' h.nx=(w.heap.size,0)/\P1d (w.alloc (.cells arr ty)) w.heap.size=some arr.size :=
 ⟨S,b4z loc h.nx (w.heap.size,0),Upd.new H hnx hB arr ty sz es hsz hl hfit (fun i j=>arr.getD (i * sz+j) undef) hv,b62 _ _ _,
  by unfold P1d; rw [c6j]⟩
theorem d5z {e:List AV} {i j:Nat} {c:AV} (h:at2 [e] i j=some c):i=0/\e[j]?=some c:=by
 obtain ⟨e',he,hj⟩:=P1m h
 cases i with
 | zero=>simp at he; subst he; exact ⟨rfl,hj⟩
 | succ i=>simp at he
theorem l3a (H:HSim P B S loc h w) (hnx:¬ h.us h.nx) (hB:B<=w.heap.size) (ty:Nat) {x:AV} {v:Value} (hx:SimV P w S h loc x v) (ho:b2d x=true) (hne:(cellsOf x).isEmpty=false) :
  b1m P B S loc h w (Instr.box ty v) (.rp h.nx 0 0) (h.new ((cellsOf x).length,[cellsOf x])):=by
 obtain ⟨hs,hc⟩:=c6o hx ho
 have hnz:(cellsOf x).length≠0:=fun e=>by rw [List.length_eq_zero_iff.1 e] at hne; cases hne
 obtain ⟨S',loc',u,hloc,_⟩:=c0n H hnx hB ty (cellsOf x).length [cellsOf x] v.cells hnz (by simp) (by simp [hs]) (fun i j c hh=>by
  obtain ⟨rfl,hj⟩:=d5z hh; simpa using hc j c hj)
 refine ⟨.pointer (some ⟨w.heap.size,0,none⟩),_,S',loc',?_,u,.rp _ _ _ _ (by simp [Heap.new]) ⟨_,rfl⟩ fun sz es he=>⟨?_,by simp [hloc]⟩⟩
 rotate_left
 ·simp [Heap.new] at he; rw [<- he.1]; exact hnz
 simp [Instr.box,newVar,newRow]
theorem c7g {ty:Nat} {zs:List Value} (hz:b3v P ty=some zs):∃ i z,P.info? ty=some i/\i.zero=some z/\zs=z.cells.toList/\∀ y∈zs,y.oneCell'=true:=by
 unfold b3v at hz
 cases hi:P.info? ty with
 | none=>simp [hi] at hz
 | some i =>
  cases hzo:i.zero with
  | none=>simp [hi,hzo] at hz
  | some z =>
   simp only [hi,hzo,bS9] at hz
   split at hz
   ·rename_i h1
    cases hz
    exact ⟨i,z,rfl,hzo,rfl,fun y hy=>List.all_eq_true.1 h1 y hy⟩
   ·cases hz
theorem J7o {arr:Array Value} {l:List Value} (h:arr.toList=l) {j:Nat} {y:Value} (hy:l[j]?=some y):arr[j]?=some (arr.getD j undef)/\arr.getD j undef=y:=by
 have hlt:j<arr.size:=by rw [<- Array.length_toList,h]; exact (gS9.1 hy).1
 have := getD_some hlt
 refine ⟨this,?_⟩
 rw [<- Array.getElem?_toList,h,hy] at this
 exact (Option.some.inj this).symm
theorem l28 (H:HSim P B S loc h w) (hnx:¬ h.us h.nx) (hB:B<=w.heap.size) (ty:Nat) {zs:List Value} (hz:b3v P ty=some zs) (hne:zs.isEmpty=false) :
  b1m P B S loc h w (Instr.alloc ty true (.tuple #[])) (.rp h.nx 0 0) (h.new (zs.length,[zs.map .v])):=by
 obtain ⟨i,z,hi,hzo,rfl,h1⟩:=c7g hz
 have hnz:z.cells.toList.length≠0:=fun e=>by rw [List.length_eq_zero_iff.1 e] at hne; cases hne
 obtain ⟨S',loc',u,hloc,_⟩:=c0n H hnx hB ty z.cells.toList.length [z.cells.toList.map AV.v] z.cells hnz (by simp) (by simp) (fun i j c hh=>by
  obtain ⟨rfl,hj⟩:=d5z hh
  simp only [List.getElem?_map,mE9] at hj
  obtain ⟨y,hy,rfl⟩:=hj
  obtain ⟨e1,e2⟩:=J7o (arr:=z.cells) rfl hy
  simp only [Nat.zero_mul,Nat.zero_add]
  exact ⟨e1,by rw [e2]; exact h1 y (mG9 hy),by rw [e2]; exact .v y⟩)
 refine ⟨.pointer (some ⟨w.heap.size,0,none⟩),_,S',loc',?_,u,.rp _ _ _ _ (by simp [Heap.new]) ⟨_,rfl⟩ fun sz es he=>⟨?_,by simp [hloc]⟩⟩
 rotate_left
 ·simp only [Heap.new,if_true,iE9,Prod.mk.injEq] at he; rw [<- he.1]; exact hnz
 simp [Instr.alloc,zeroValue,typeInfo,hi,hzo,newVar,newRow]
theorem c7p {w:World} {b o n:Nat} (vals:Nat->Value) (hv:∀ j,j<n->w.cell? ⟨b,o+j,none⟩=some (vals j)) :
  (loadCells ⟨b,o,none⟩ n).run P w = .ok ((List.range n).map vals).toArray w:=by
 refine run_loadCells w _ n vals fun j hj=>?_
 have : (⟨b,o,none⟩:Addr).add j=⟨b,o+j,none⟩:=by unfold Addr.add; split <;> simp_all
 rw [this]; exact hv j hj
theorem c4r {t:TypeId} (ht:(P.underlying t).isSome):(isAgg t).run P w = .ok (b2c P t) w:=by
 obtain ⟨d,hd⟩:=Option.isSome_iff_exists.1 ht
 unfold isAgg b2c
 simp only [Sem.run_bind,run_underlying hd,Result.andThen_ok,hd]
 cases d <;> simp
theorem b3s {t n:Nat} (hn:b1x P t=some n):(sizeOf t).run P w = .ok n w:=by
 unfold b1x at hn
 cases hi:P.info? t with
 | none=>simp [hi] at hn
 | some i=>simp [hi] at hn; simp [sizeOf,typeInfo,hi,hn]
theorem g2h {t n b o off:Nat} (ht:(P.underlying t).isSome) (hn:b1x P t=some n) (cs:List AV)
  (val : Nat->Value) (hc:∀ j c,cs[j]?=some c->w.cell? ⟨b,o+j,none⟩=some (val j)) (h1:∀ j c,cs[j]?=some c->(val j).oneCell'=true)
  (hv : ∀ j c,cs[j]?=some c->SimV P w S h loc c (val j)) {r:AV}
  (he : (if b2c P t then (if off+n<=cs.length then some (.agg ((cs.drop off).take n),h) else none) else (cs[off]?).map fun x=>(x,h))=some (r,h)) :
  b9c P S loc h w (loadVar t ⟨b,o+off,none⟩) r:=by
 have key:∀ j,off+j<cs.length->w.cell? ⟨b,o+off+j,none⟩=some (val (off+j)):=fun j hj=>by
  rw [Nat.add_assoc]; exact hc (off+j) _ (gG9 hj)
 by_cases ha:b2c P t=true
 ·simp only [ha,if_true] at he
  split at he
  ·rename_i hle
   simp at he; subst he
   refine ⟨.agg ((List.range n).map fun j=>val (off+j)).toArray,?_,?_⟩
   ·unfold loadVar
    simp only [Sem.run_bind,c4r ht,Result.andThen_ok,ha,if_true,b3s hn]
    rw [c7p (fun j=>val (off+j)) fun j hj=>key j (by omega)]
    simp
   ·have hsz:((List.range n).map fun j=>val (off+j)).toArray.size=n:=by simp
    have hg:∀ i,i<n->((List.range n).map fun j=>val (off+j)).toArray.getD i undef=val (off+i):=fun i hi=>by simp [Array.getD,hi]
    have hk:∀ i,i<n->∃ c,cs[off+i]?=some c:=fun i hi=>⟨_,gG9 (by omega)⟩
    refine .agg _ _ (by rw [hsz]; simp; omega) (fun i hi=>?_) fun i c hc'=>?_
    ·rw [hsz] at hi; rw [hg i hi]; obtain ⟨c,hc'⟩:=hk i hi; exact h1 _ c hc'
    ·have hi:i<n:=by
      have := (gS9.1 hc').1; simp at this; omega
     rw [hg i hi]
     refine hv _ c ?_
     simpa [List.getElem?_take,hi,List.getElem?_drop] using hc'
  ·cases he
 ·simp only [ha] at he
  cases hx:cs[off]? with
  | none=>simp [hx] at he
  | some c =>
   simp [hx] at he; subst he
   refine ⟨val off,?_,hv _ _ hx⟩
   unfold loadVar
   simp only [Sem.run_bind,c4r ht,Result.andThen_ok,ha,if_false,fT9,run_load,hc _ _ hx]
theorem g16 {id sz:Nat} {es:List (List AV)} (H:HSim P B S loc h w) (ho:h.ob id=some (sz,es)) (hsz:sz≠0) {i:Nat} {cs:List AV} (hi:es[i]?=some cs) :
  ∃ val:Nat->Value,(∀ j c,cs[j]?=some c->w.cell? ⟨(loc id).1,(loc id).2+i * sz+j,none⟩=some (val j))/\(∀ j c,cs[j]?=some c->(val j).oneCell'=true)/\∀ j c,cs[j]?=some c->SimV P w S h loc c (val j):=by
 obtain ⟨_,_,val,hv⟩:=H.objs id sz es ho hsz
 have h2:∀ j c,cs[j]?=some c->at2 es i j=some c:=fun j c hj=>by simp [at2,hi,hj]
 exact ⟨val i,fun j c hj=>(hv i j c (h2 j c hj)).1,fun j c hj=>(hv i j c (h2 j c hj)).2.1,fun j c hj=>(hv i j c (h2 j c hj)).2.2⟩
theorem g2g (H:HSim P B S loc h w) {t n:Nat} (ht:(P.underlying t).isSome) (hn:b1x P t=some n) {x:AV} {v:Value} (hx:SimV P w S h loc x v) {r:AV} {h':Heap}
  (he : (match (generalizing:=false) x with
  | .fp cs off=>if b2c P t then (if off+n<=cs.length then some (.agg ((cs.drop off).take n),h) else none) else (cs[off]?).map fun x=>(x,h)
  | .rp id i off=>(h.ob id).bind fun o=>(o.2[i]?).bind fun cs =>
    if b2c P t then (if off+n<=cs.length then some (.agg ((cs.drop off).take n),h) else none) else (cs[off]?).map fun x=>(x,h)
  | _=>none)=some (r,h')):h'=h/\b9c P S loc h w (Instr.loadAt t v) r/\∃ a,v = .pointer (some a):=by
 cases hx with
 | fp cs off b o hS val hc h1 hv =>
  have e:h'=h:=by
   simp only at he
   split at he
   ·split at he
    ·simp at he; exact he.2.symm
    ·cases he
   ·cases hcs:cs[off]? <;> simp [hcs] at he; exact he.2.symm
  subst e
  have := g2h (h:=h') ht hn cs val hc h1 hv he
  exact ⟨rfl,by simpa [b9c,Instr.loadAt,Instr.sureAddr] using this,_,rfl⟩
 | rp id i off x hid hs hx =>
  simp only at he
  cases ho:h.ob id with
  | none=>simp [ho] at he
  | some o =>
   obtain ⟨sz,es⟩:=o
   simp only [ho,bS9] at he
   cases hi:es[i]? with
   | none=>simp [hi] at he
   | some cs =>
    simp only [hi,bS9] at he
    have e:h'=h:=by
     split at he
     ·split at he
      ·simp at he; exact he.2.symm
      ·cases he
     ·cases hcs:cs[off]? <;> simp [hcs] at he; exact he.2.symm
    subst e
    obtain ⟨val,hc,h1,hv⟩:=g16 H ho (hx sz es ho).1 hi
    have := g2h (h:=h') ht hn cs val hc h1 hv he
    rw [(hx sz es ho).2]
    exact ⟨rfl,by simpa [b9c,Instr.loadAt,Instr.sureAddr] using this,_,rfl⟩
 | _=>simp at he
theorem c4p {α:Type} (l xs:List α) (o p:Nat) (h:o+xs.length<=l.length) :
  (l.take o++xs++l.drop (o+xs.length))[p]?=if p<o then l[p]? else if p<o+xs.length then xs[p - o]? else l[p]?:=by
 have h1:(l.take o).length=o:=by simp; omega
 by_cases hp:p<o
 ·rw [if_pos hp,List.append_assoc,List.getElem?_append_left (by omega),List.getElem?_take,if_pos hp]
 ·rw [if_neg hp]
  by_cases hq:p<o+xs.length
  ·rw [if_pos hq,List.getElem?_append_left (by simp; omega),List.getElem?_append_right (by omega),h1]
  ·rw [if_neg hq,List.getElem?_append_right (by simp; omega),List.getElem?_drop]
   congr 1
   simp; omega
theorem g8x {sz i k j off n:Nat} (hj:j<sz) (hn:off+n<=sz) (hne:k≠i):¬ (i * sz+off<=k * sz+j/\k * sz+j<i * sz+off+n):=by
 rintro ⟨h1,h2⟩
 rcases Nat.lt_or_gt_of_ne hne with h|h
 ·have := Nat.mul_le_mul_right sz (show k+1<=i from h)
  rw [Nat.succ_mul] at this; omega
 ·have := Nat.mul_le_mul_right sz (show i+1<=k from h)
  rw [Nat.succ_mul] at this; omega
theorem c6l {es:List (List AV)} {i j sz:Nat} {c:AV} (h:at2 es i j=some c) (hl:∀ e∈es,e.length=sz):i<es.length/\j<sz:=by
 obtain ⟨e,he,hj⟩:=P1m h
 refine ⟨(gS9.1 he).1,?_⟩
 rw [<- hl e (mG9 he)]
 exact (gS9.1 hj).1
theorem g59 {es:List (List AV)} {i k j:Nat} {e:List AV} (hi:i<es.length):at2 (es.set i e) k j=if k=i then e[j]? else at2 es k j:=by
 unfold at2
 by_cases hk:k=i
 ·subst hk; rw [if_pos rfl,List.getElem?_set_self hi]; rfl
 ·rw [if_neg hk,List.getElem?_set_ne (by omega)]
theorem l3p (H:HSim P B S loc h w) {t n:Nat} (hn:b1x P t=some n) {a x:AV} {va vx:Value} (ha:SimV P w S h loc a va) (hx:SimV P w S h loc x vx) {h':Heap}
  (he : (match (generalizing:=false) a with
  | .rp id i off=>(h.ob id).bind fun o=>(o.2[i]?).bind fun cs =>
    if b2d x/\(cellsOf x).length=n/\off+n<=cs.length then
     some (AV.dead,h.upd id (some (o.1,o.2.set i (cs.take off++cellsOf x++cs.drop (off+n)))))
    else none
  | _=>none)=some (AV.dead,h')) :
  ∃ w' S' loc',(Instr.storeAt t va vx).run P w = .ok () w'/\Upd P B S loc h w S' loc' h' w':=by
 cases ha with
 | rp id i off va hid hs ha =>
  simp only at he
  cases ho:h.ob id with
  | none=>simp [ho] at he
  | some o =>
   obtain ⟨sz,es⟩:=o
   simp only [ho,bS9] at he
   cases hi:es[i]? with
   | none=>simp [hi] at he
   | some cs =>
    simp only [hi,bS9] at he
    split at he
    ·rename_i hcond
     obtain ⟨hok,hlen,hle⟩:=hcond
     simp only [iE9,Prod.mk.injEq,true_and] at he
     subst he
     obtain ⟨hcs,hcv⟩:=c6o hx hok
     have hsz:=(ha sz es ho).1
     obtain ⟨⟨arr,ty,hb,hfit⟩,hl,val,hv⟩:=H.objs id sz es ho hsz
     have hilt:i<es.length:=(gS9.1 hi).1
     have hcsz:cs.length=sz:=hl cs (mG9 hi)
     have hxl:vx.cells.toList.length=n:=by rw [Array.length_toList,hcs,hlen]
     have hmul:(i+1) * sz<=es.length * sz:=Nat.mul_le_mul_right sz hilt
     rw [Nat.succ_mul] at hmul
     have hroom:(loc id).2+i * sz+off+vx.cells.toList.length<=arr.size:=by rw [hxl]; omega
     have hone:∀ v∈vx.cells.toList,v.oneCell'=true:=fun v hv=>by
      obtain ⟨j,hj,rfl⟩:=List.getElem_of_mem hv
      have hj':j<(cellsOf x).length:=by rw [hlen,<- hxl]; exact hj
      have := hcv j _ (gG9 hj')
      obtain ⟨e1,e2,_⟩:=this
      have e3:vx.cells.getD j undef=vx.cells.toList[j]:=by
       rw [<- Array.getElem?_toList,gG9 hj] at e1; exact (Option.some.inj e1).symm
      rw [<- e3]; exact e2
     have hrun:=run_storeCells_at P (loc id).1 ((loc id).2+i * sz+off) ty vx.cells.toList 0 arr w hb (by simpa using hroom) hone
     simp only [Nat.add_zero,hxl] at hrun
     refine ⟨_,S,loc,?_,Upd.write H ho hb (arr.toList.take ((loc id).2+i * sz+off)++vx.cells.toList++arr.toList.drop ((loc id).2+i * sz+off+n)).toArray ?_ _ hsz ?_ ?_ (fun k j=>if k=i/\off<=j/\j<off+n then vx.cells.getD (j - off) undef else val k j) ?_⟩
     ·rw [(ha sz es ho).2]
      simp only [Instr.storeAt,Instr.sureAddr,Sem.run_bind,Sem.run_pure,Result.andThen_ok,storeVar,b3s hn,hcs,hlen,ne_eq,not_true,if_false]
      simpa using hrun
     ·simp; omega
     ·intro e he
      rcases List.mem_or_eq_of_mem_set he with he|rfl
      ·exact hl e he
      ·simp; omega
     ·simpa using hfit
     ·intro k j c hk
      rw [g59 hilt] at hk
      have hrow:=c4p arr.toList vx.cells.toList ((loc id).2+i * sz+off) ((loc id).2+k * sz+j) (by simpa using hroom)
      rw [hxl] at hrow
      rw [<- Array.getElem?_toList]
      simp only []
      by_cases hki:k=i
      ·subst hki
       rw [if_pos rfl] at hk
       have hk2:=c4p cs (cellsOf x) off j (by omega)
       rw [hlen,hk] at hk2
       rw [hrow]
       by_cases hj1:j<off
       ·rw [if_pos hj1] at hk2
        have h2:at2 es k j=some c:=by simp [at2,hi,hk2.symm]
        obtain ⟨e1,e2,e3⟩:=hv k j c h2
        rw [b8a hb] at e1
        rw [if_pos (by omega),Array.getElem?_toList,e1,if_neg (by omega)]
        exact ⟨rfl,e2,e3⟩
       ·rw [if_neg hj1] at hk2
        by_cases hj2:j<off+n
        ·rw [if_pos hj2] at hk2
         obtain ⟨e1,e2,e3⟩:=hcv (j - off) c hk2.symm
         rw [if_neg (by omega),if_pos (by omega),show (loc id).2+k * sz+j - ((loc id).2+k * sz+off)=j - off by omega,if_pos ⟨rfl,by omega,hj2⟩,Array.getElem?_toList]
         exact ⟨e1,e2,e3⟩
        ·rw [if_neg hj2] at hk2
         have h2:at2 es k j=some c:=by simp [at2,hi,hk2.symm]
         obtain ⟨e1,e2,e3⟩:=hv k j c h2
         rw [b8a hb] at e1
         rw [if_neg (by omega),if_neg (by omega),Array.getElem?_toList,e1,if_neg (by omega)]
         exact ⟨rfl,e2,e3⟩
      ·rw [if_neg hki] at hk
       obtain ⟨e1,e2,e3⟩:=hv k j c hk
       rw [b8a hb] at e1
       obtain ⟨hk1,hj1⟩:=c6l hk hl
       have hap:=g8x (sz:=sz) (i:=i) (k:=k) (j:=j) (off:=off) (n:=n) hj1 (by omega) hki
       rw [if_neg (show ¬ (k=i/\off<=j/\j<off+n) from fun hh=>hki hh.1),hrow]
       have e4:arr.toList[(loc id).2+k * sz+j]?=some (val k j):=by rw [Array.getElem?_toList]; exact e1
       refine ⟨?_,e2,e3⟩
       by_cases hlt:(loc id).2+k * sz+j<(loc id).2+i * sz+off
       ·rw [if_pos hlt]; exact e4
       ·rw [if_neg hlt,if_neg (by omega)]; exact e4
    ·cases he
 | _=>simp at he
theorem l3n {x:AV} {v:Value} (hx:SimV P w S h loc x v) {o:Oper} {ρ:Operand->Value} {y:Operand} (hv:ρ y=v) {r:AV} {h':Heap}
  (he : (match (generalizing:=false) x with | .fp cs off=>some (AV.fp cs off,h) | .rp id i off=>(h.ob id).bind fun _=>some (AV.rp id i off,h) | .fn f a b=>some (AV.fn f a b,h)|_=>none)=some (r,h'))
  (hop : o.op = .nilCheck y):h'=h/\(execOp ρ o).run P w = .ok (.value v) w/\SimV P w S h loc r v:=by
 cases hx with
 | fp cs off b o' hS val hc h1 hv' =>
  simp at he; obtain ⟨rfl,rfl⟩:=he
  exact ⟨rfl,by simp [execOp,hop,hv],.fp cs off b o' hS val hc h1 hv'⟩
 | rp id i off _ hid hs hx =>
  simp only at he
  cases ho:h.ob id with
  | none=>simp [ho] at he
  | some ob =>
   simp [ho] at he; obtain ⟨rfl,rfl⟩:=he
   have := hx ob.1 ob.2 ho
   refine ⟨rfl,?_,.rp id i off _ hid hs hx⟩
   simp [execOp,hop,hv,this]
 | fn f as cs id fn0 vs us hf hn hb hg hl hc hl' hc' =>
  simp at he; obtain ⟨rfl,rfl⟩:=he
  exact ⟨rfl,by simp [execOp,hop,hv],.fn f as cs id fn0 vs us hf hn hb hg hl hc hl' hc'⟩
 | _=>simp at he
theorem l4z {op:BinOp} {k:IntKind} {a b:Int} {r:Value} (t:TypeId) (hop:op≠.shl/\op≠.shr) (he:b4d op k a b=some r) :
  (binOp op t (.int k a) (.int k b)).run P w = .ok r w:=by
 cases op <;> simp only [b4d,iE9,reduceCtorEq] at he <;> (try subst he) <;> (try (exact absurd rfl hop.1)) <;> (try (exact absurd rfl hop.2)) <;>
  (try simp [binOp,Op.intArith,Op.intBits,Op.intCmp])
 ·split at he
  ·cases he
  ·rename_i h0; cases he; simp [Op.intDiv,h0]
 ·split at he
  ·cases he
  ·rename_i h0; cases he; simp [Op.intDiv,h0]
theorem g23 {op:BinOp} {k yk:IntKind} {a b:Int} {r:Value} (t:TypeId) (hop:op = .shl\/op = .shr) (he:c1g op k a b=some r) :
  (binOp op t (.int k a) (.int yk b)).run P w = .ok r w:=by
 unfold c1g at he
 split at he
 ·cases he
 ·rename_i hb
  rcases hop with rfl|rfl
  ·simp at he; subst he; simp [binOp,Op.shift,hb,Nat.min_def]
  ·simp at he; subst he; simp [binOp,Op.shift,hb,Nat.min_def]
theorem p9x {op:BinOp} {a b:ByteArray} {r:Value} (t:TypeId) (he:p2d op a b=some r) :
  (binOp op t (.string a) (.string b)).run P w = .ok r w:=by
 cases op
 case add =>
  simp only [p2d] at he
  split at he
  ·cases he
   have h0:¬ (((a.size+b.size:Nat):Int) > IntKind.i64.max):=by show ¬ (((a.size+b.size:Nat):Int) > 9223372036854775807); omega
   show (Op.stringOp .add a b).run P w=_
   simp only [Op.stringOp,h0,if_false]
   rfl
  ·cases he
 all_goals simp only [p2d,iE9,reduceCtorEq] at he <;> subst he <;> simp [binOp,Op.stringOp]
theorem r4j {op:UnOp} {x:AV} {v:Value} (hx:SimV P w S h loc x v) {r:AV} (he:b7u op x=some r):∃ y,r = .v y/\(Op.unary op v).run P w = .ok y w:=by
 unfold b7u at he
 split at he
 ·cases hx; cases he; exact ⟨_,rfl,by simp [Op.unary,Op.intArith]⟩
 ·cases hx; cases he; exact ⟨_,rfl,by simp [Op.unary]⟩
 ·cases hx; cases he; exact ⟨_,rfl,by simp [Op.unary,Op.intBits]⟩
 ·cases he
theorem l5l {t e:Nat} (ht:P.underlying t=some (.slice e)) (a:Option Addr) (n c:Nat) (b:Bool) :
  (binOp (if b then .eql else .neq) t (.slice a n c) (.slice none 0 0)).run P w = .ok (.bool (if b then a.isNone else !a.isNone)) w:=by
 cases b <;> simp [binOp,run_equal_slice_nil w t e a n c ht]
theorem l3z {t e:Nat} (ht:P.underlying t=some (.pointer e)) (a:Option Addr) (b:Bool) :
  (binOp (if b then .eql else .neq) t (.pointer a) (.pointer none)).run P w = .ok (.bool (if b then a.isNone else !a.isNone)) w:=by
 have hq0:∀ d,(Op.equalIn (d+1) t (.pointer a) (.pointer none)).run P w = .ok a.isNone w:=fun d=>by
  cases a <;> simp [Op.equalIn,run_underlying ht]
 have hq:(Op.equal t (.pointer a) (.pointer none)).run P w = .ok a.isNone w:=hq0 9999
 cases b
 ·show ((Op.equal t (.pointer a) (.pointer none) >>= fun r=>Pure.pure (Value.bool (!r)):Sem Value)).run P w=_
  simp only [Sem.run_bind,hq,Result.andThen_ok,Sem.run_pure]; rfl
 ·show ((Op.equal t (.pointer a) (.pointer none) >>= fun r=>Pure.pure (Value.bool r):Sem Value)).run P w=_
  simp only [Sem.run_bind,hq,Result.andThen_ok,Sem.run_pure]; rfl
theorem p8n (b o n:Nat):(⟨b,o,none⟩:Addr).add n=⟨b,o+n,none⟩:=by unfold Addr.add; split <;> simp_all
theorem l3e (H:HSim P B S loc h w) {t f:Nat} {fs:Array Field} {fl:Field} (ht:P.underlying t=some (.struct fs)) (hf:fs[f]?=some fl) (hsz:(b1x P fl.type).getD 0≠0)
  {x : AV} {v:Value} (hx:SimV P w S h loc x v) {r:AV} {h':Heap}
  (he : (match (generalizing:=false) x with | .fp cs o=>some (AV.fp cs (o+fl.offset),h) | .rp id i o=>(h.ob id).bind fun _=>some (AV.rp id i (o+fl.offset),h)|_=>none)=some (r,h')) :
  h' = h/\b1m P B S loc h w (Instr.fieldAt t v f) r h:=by
 have hz:∃ n,b1x P fl.type=some n/\n≠0:=by
  cases hh:b1x P fl.type with
  | none=>simp [hh] at hsz
  | some n=>exact ⟨n,rfl,by simpa [hh] using hsz⟩
 obtain ⟨n,hn,hn0⟩:=hz
 have run:∀ b o,(Instr.fieldAt t (.pointer (some ⟨b,o,none⟩)) f).run P w = .ok (.pointer (some ⟨b,o+fl.offset,none⟩)) w:=fun b o=>by
  simp [Instr.fieldAt,run_underlying ht,hf,Instr.sureAddr,fieldPlace,b3s hn,hn0,p8n]
 cases hx with
 | fp cs off b o' hS val hc h1 hv' =>
  simp at he; obtain ⟨rfl,rfl⟩:=he
  exact ⟨rfl,b1m.same H (run _ _) (by rw [Nat.add_assoc]; exact .fp cs _ b o' hS val hc h1 hv')⟩
 | rp id i off _ hid hs hx =>
  simp only at he
  cases ho:h.ob id with
  | none=>simp [ho] at he
  | some ob =>
   simp [ho] at he; obtain ⟨rfl,rfl⟩:=he
   have := (hx ob.1 ob.2 ho).2
   subst this
   refine ⟨rfl,b1m.same H (run _ _) (.rp id i _ _ hid ⟨_,rfl⟩ fun sz es he=>⟨(hx sz es he).1,?_⟩)⟩
   have := (hx sz es he).2
   simp at this
   simp [this,Nat.add_assoc]
 | _=>simp at he
theorem g2j (H:HSim P B S loc h w) {t n off:Nat} (ht:(P.underlying t).isSome) (hn:b1x P t=some n) {cs:List AV} {vs:Array Value} (hl:vs.size=cs.length)
  (h1 : ∀ i,i<vs.size->(vs.getD i undef).oneCell'=true) (hc:∀ (i:Nat) c,cs[i]?=some c->SimV P w S h loc c (vs.getD i undef)) {r:AV} {h':Heap}
  (he : (if b2c P t then (if off+n<=cs.length then some (AV.agg ((cs.drop off).take n),h) else none) else (cs[off]?).map fun x=>(x,h))=some (r,h')) :
  h' = h/\b1m P B S loc h w (part t vs off) r h:=by
 by_cases ha:b2c P t=true
 ·simp only [ha,if_true] at he
  split at he
  ·rename_i hle
   simp at he; obtain ⟨rfl,rfl⟩:=he
   refine ⟨rfl,b1m.same H (v:=.agg (vs.extract off (off+n))) ?_ ?_⟩
   ·simp [part,c4r ht,ha,b3s hn]
   ·have hs:(vs.extract off (off+n)).size=n:=by simp; omega
    have hg:∀ i,i<n->(vs.extract off (off+n)).getD i undef=vs.getD (off+i) undef:=fun i hi=>by
     simp [Array.getD,hl,show off+i<cs.length by omega,show i<min (off+n) cs.length - off by omega]
    refine .agg _ _ (by rw [hs]; simp; omega) (fun i hi=>by rw [hs] at hi; rw [hg i hi]; exact h1 _ (by omega)) fun i c hci=>?_
    have hi:i<n:=by have:=(gS9.1 hci).1; simp at this; omega
    rw [hg i hi]
    exact hc _ c (by simpa [List.getElem?_take,hi,List.getElem?_drop] using hci)
  ·cases he
 ·simp only [ha] at he
  cases hx:cs[off]? with
  | none=>simp [hx] at he
  | some c =>
   simp [hx] at he; obtain ⟨rfl,rfl⟩:=he
   have hlt:off<vs.size:=by rw [hl]; exact (gS9.1 hx).1
   refine ⟨rfl,b1m.same H (v:=vs.getD off undef) ?_ (hc _ _ hx)⟩
   unfold part
   simp only [Sem.run_bind,c4r ht,Result.andThen_ok,ha,fT9,if_false]
   rw [getD_some hlt]; rfl
theorem l3f (H:HSim P B S loc h w) {t e n:Nat} (ht:P.underlying t=some (.slice e)) (hn:b1x P e=some n) {x i:AV} {v u:Value}
  (hx : SimV P w S h loc x v) (hi:SimV P w S h loc i u) {r:AV} {h':Heap}
  (he : (match (generalizing:=false) x,i with
  | .fs sz es,.v (.int _ k)=>if sz=n/\0<=k then (es[k.toNat]?).map fun cs=>(AV.fp cs 0,h) else none
  | .rs id lo len,.v (.int _ k)=>(h.ob id).bind fun o=>if o.1=n/\0<=k/\k<len then some (AV.rp id (lo+k.toNat) 0,h) else none
  | _,_=>none)=some (r,h')):h'=h/\b1m P B S loc h w (Instr.indexAt t v u) r h:=by
 have run:∀ b o (len:Nat) cap q (k:Int),0<=k->k<len->(Instr.indexAt t (.slice (some ⟨b,o,none⟩) len cap) (.int q k)).run P w = .ok (.pointer (some ⟨b,o+k.toNat * n,none⟩)) w:=fun b o len cap q k h0 h1=>by
  simp [Instr.indexAt,run_underlying ht,asIntOf,h0,h1,b3s hn,p8n]
 cases hx with
 | fs sz es b o cap hcap hS hsz val hc h1 hv =>
  cases hi with
  | v u =>
   cases u with
   | int q k =>
    simp only at he
    split at he
    ·rename_i hk
     obtain ⟨rfl,hk⟩:=hk
     cases hes:es[k.toNat]? with
     | none=>simp [hes] at he
     | some cs =>
      simp [hes] at he; obtain ⟨rfl,rfl⟩:=he
      have hlt:=(gS9.1 hes).1
      have hat:∀ j c,cs[j]?=some c->at2 es k.toNat j=some c:=fun j c hj=>by simp [at2,hes,hj]
      refine ⟨rfl,b1m.same H (run b o _ cap q k hk (by omega)) ?_⟩
      exact .fp cs 0 b (o+k.toNat * sz) hS (val k.toNat) (fun j c hj=>by have:=hc _ _ _ (hat j c hj); simpa using this) (fun j c hj=>h1 _ _ _ (hat j c hj)) (fun j c hj=>hv _ _ _ (hat j c hj))
    ·cases he
   | _=>simp at he
  | _=>simp at he
 | rs id lo len _ hid hs hx =>
  cases hi with
  | v u =>
   cases u with
   | int q k =>
    simp only at he
    cases ho:h.ob id with
    | none=>simp [ho] at he
    | some ob =>
     simp only [ho,bS9] at he
     split at he
     ·rename_i hk
      obtain ⟨hk1,hk2,hk3⟩:=hk
      simp at he; obtain ⟨rfl,rfl⟩:=he
      obtain ⟨hnz,cap,nn,rfl,hcap,_,hsh,hfit⟩:=hx ob.1 ob.2 ho
      refine ⟨rfl,b1m.same H (run _ _ _ _ q k hk2 hk3) (.rp id _ _ _ hid ⟨_,rfl⟩ fun sz es he=>?_)⟩
      have e1:ob=(sz,es):=by rw [ho] at he; exact Option.some.inj he
      subst e1
      refine ⟨hnz,?_⟩
      simp at hk1; subst hk1
      simp only [Nat.add_mul,Nat.add_zero,Nat.add_assoc]
     ·cases he
   | _=>simp at he
  | _=>simp at he
 | fsNil sz =>
  cases hi with
  | v u=>cases u <;> simp at he
  | _=>simp at he
 | fsE sz a cap =>
  cases hi with
  | v u=>cases u <;> simp at he
  | _=>simp at he
 | _=>simp at he
theorem l3g (H:HSim P B S loc h w) {t e n len:Nat} (ht:P.underlying t=some (.array len e)) (hn:b1x P e=some n) {x i:AV} {v u:Value}
  (hx : SimV P w S h loc x v) (hi:SimV P w S h loc i u) {r:AV} {h':Heap}
  (he : (match (generalizing:=false) x,i with
  | .fp cs off,.v (.int _ k)=>if 0<=k/\k<len then some (AV.fp cs (off+k.toNat * n),h) else none
  | .rp id m off,.v (.int _ k)=>(h.ob id).bind fun _=>if 0<=k/\k<len then some (AV.rp id m (off+k.toNat * n),h) else none
  | _,_=>none)=some (r,h')):h'=h/\b1m P B S loc h w (Instr.indexAt t v u) r h:=by
 have run:∀ b o q (k:Int),0<=k->k<len->(Instr.indexAt t (.pointer (some ⟨b,o,none⟩)) (.int q k)).run P w = .ok (.pointer (some ⟨b,o+k.toNat * n,none⟩)) w:=fun b o q k h0 h1=>by
  simp [Instr.indexAt,run_underlying ht,asIntOf,h0,h1,b3s hn,p8n,Instr.sureAddr]
 cases hx with
 | fp cs off b o hS val hc h1 hv =>
  cases hi with
  | v u =>
   cases u with
   | int q k =>
    simp only at he
    split at he
    ·rename_i hk
     simp at he; obtain ⟨rfl,rfl⟩:=he
     exact ⟨rfl,b1m.same H (run _ _ q k hk.1 hk.2) (by rw [Nat.add_assoc]; exact .fp cs _ b o hS val hc h1 hv)⟩
    ·cases he
   | _=>simp at he
  | _=>simp at he
 | rp id m off _ hid hs hx =>
  cases hi with
  | v u =>
   cases u with
   | int q k =>
    simp only at he
    cases ho:h.ob id with
    | none=>simp [ho] at he
    | some ob =>
     simp only [ho,bS9] at he
     split at he
     ·rename_i hk
      simp at he; obtain ⟨rfl,rfl⟩:=he
      have := (hx ob.1 ob.2 ho).2
      subst this
      refine ⟨rfl,b1m.same H (run _ _ q k hk.1 hk.2) (.rp id m _ _ hid ⟨_,rfl⟩ fun sz es he=>⟨(hx sz es he).1,?_⟩)⟩
      have := (hx sz es he).2
      simp at this
      simp [this,Nat.add_assoc]
     ·cases he
   | _=>simp at he
  | _=>simp at he
 | _=>simp at he
theorem c7v {α β:Type} (f:α->Option β):∀ (l:List α) (l':List β),l.mapM f=some l'->l'.length=l.length/\∀ (i:Nat) y,l'[i]?=some y->∃ x,l[i]?=some x/\f x=some y
 | [],l',h=>by simp at h; subst h; simp
 | a :: l,l',h=>by
  rw [List.mapM_cons] at h
  simp only [bind,bE9,pure,iE9] at h
  obtain ⟨b,hb,l2,h2,rfl⟩:=h
  obtain ⟨hl,hi⟩:=c7v f l l2 h2
  refine ⟨by simp [hl],fun i y hy=>?_⟩
  cases i with
  | zero=>simp at hy; subst hy; exact ⟨a,rfl,hb⟩
  | succ i=>simp at hy; obtain ⟨x,hx,hf⟩:=hi i y hy; exact ⟨x,by simpa using hx,hf⟩
theorem l3i (H:HSim P B S loc h w) {t e n len:Nat} (ht:P.underlying t=some (.array len e)) (he0:(P.underlying e).isSome) (hn:b1x P e=some n) {x i:AV} {v u:Value}
  (hx : SimV P w S h loc x v) (hi:SimV P w S h loc i u) {r:AV} {h':Heap}
  (he : (match (generalizing:=false) x,i with
  | .agg cs,.v (.int _ k)=>if 0<=k/\k<len then (if b2c P e then (if k.toNat * n+n<=cs.length then some (AV.agg ((cs.drop (k.toNat * n)).take n),h) else none) else (cs[k.toNat * n]?).map fun x=>(x,h)) else none
  | _,_=>none)=some (r,h')):h'=h/\b1m P B S loc h w (Instr.index t v u) r h:=by
 cases hx with
 | agg cs vs hl h1 hc =>
  cases hi with
  | v u =>
   cases u with
   | int q k =>
    simp only at he
    split at he
    ·rename_i hk
     obtain ⟨e1,e2⟩:=g2j H he0 hn hl h1 hc he
     refine ⟨e1,?_⟩
     obtain ⟨v,w',S',loc',hr,u,hs⟩:=e2
     refine ⟨v,w',S',loc',?_,u,hs⟩
     simp only [Instr.index,asIntOf,Sem.run_bind,Sem.run_pure,Result.andThen_ok,run_underlying ht,Sem.run_ite,hk,and_self,if_true,b3s hn]
     exact hr
    ·cases he
   | _=>simp at he
  | _=>simp at he
 | _=>simp at he
theorem l3h (H:HSim P B S loc h w) {t:Nat} (ht:P.underlying t=some .string) {x i:AV} {v u:Value}
  (hx : SimV P w S h loc x v) (hi:SimV P w S h loc i u) {r:AV} {h':Heap}
  (he : (match (generalizing:=false) x,i with
  | .v (.string s),.v (.int _ n)=>if 0<=n then (s.data.toList[n.toNat]?).map fun b=>(AV.v (.int .u8 b.toNat),h) else none
  | _,_=>none)=some (r,h')):h'=h/\b1m P B S loc h w (Instr.index t v u) r h:=by
 cases hx with
 | v v =>
  cases v with
  | string s =>
   cases hi with
   | v u =>
    cases u with
    | int q k =>
     simp only at he
     split at he
     ·rename_i hk
      cases hb:s.data.toList[k.toNat]? with
      | none=>simp [hb] at he
      | some b =>
       simp [hb] at he; obtain ⟨rfl,rfl⟩:=he
       refine ⟨rfl,b1m.same H ?_ (.v _)⟩
       have hb':s[k.toNat]?=some b:=by
        have hlt:k.toNat<s.data.toList.length:=(gS9.1 hb).1
        have hv:s.data.toList[k.toNat]=b:=(gS9.1 hb).2
        have hlt':k.toNat<s.size:=by simpa using hlt
        rw [getElem?_pos s k.toNat hlt']
        congr 1
       simp [Instr.index,asIntOf,run_underlying ht,hk,hb']
     ·cases he
    | _=>simp at he
   | _=>simp at he
  | _=>simp at he
 | _=>simp at he
theorem l3d (H:HSim P B S loc h w) {n:Nat} {x:AV} {v:Value} (hx:SimV P w S h loc x v) {r:AV} {h':Heap}
  (he : (match (generalizing:=false) x with | .tup vs=>(vs[n]?).map fun x=>(x,h)|_=>none)=some (r,h')):h'=h/\b1m P B S loc h w (Instr.extract v n) r h:=by
 cases hx with
 | tup cs vs hl hc =>
  simp only at he
  cases hn:cs[n]? with
  | none=>simp [hn] at he
  | some c =>
   simp [hn] at he; obtain ⟨rfl,rfl⟩:=he
   have hlt:n<vs.size:=by rw [hl]; exact (gS9.1 hn).1
   refine ⟨rfl,b1m.same H ?_ (hc _ _ hn)⟩
   unfold Instr.extract
   simp only [getD_some hlt]; rfl
 | _=>simp at he
theorem l5m {x:AV} {v:Value} (hx:SimV P w S h loc x v) {n:Nat} (he:b2x x=some n):∃ a c,v = .slice a n c:=by
 cases hx with
 | v v =>
  unfold b2x at he
  split at he <;> simp_all
 | fsNil sz=>simp [b2x] at he; subst he; exact ⟨_,_,rfl⟩
 | fsE sz a cap=>simp [b2x] at he; subst he; exact ⟨_,_,rfl⟩
 | fs sz es b o cap=>simp [b2x] at he; subst he; exact ⟨_,_,rfl⟩
 | rs id lo len _ hid hs hx=>simp [b2x] at he; subst he; obtain ⟨a,c,e⟩:=hs; exact ⟨_,c,e⟩
 | _=>simp [b2x] at he
theorem l3k (H:HSim P B S loc h w) {t ty:Nat} (ht:P.underlying t=some .string) {x:AV} {v:Value} (hx:SimV P w S h loc x v) {r:AV} {h':Heap}
  (he : (match (generalizing:=false) x with | .v (.string s)=>some (AV.v (.int .i64 s.size),h)|_=>none)=some (r,h')) :
  h' = h/\b1m P B S loc h w (Builtin.len_ #[t] ty #[v]) r h:=by
 cases hx with
 | v =>
  cases v with
  | string s =>
   simp at he; obtain ⟨rfl,rfl⟩:=he
   exact ⟨rfl,b1m.same H (by simp [Builtin.len_,run_underlying ht,goInt]) (.v _)⟩
  | _=>simp at he
 | _=>simp at he
theorem l3j (H:HSim P B S loc h w) {t ty e:Nat} (ht:P.underlying t=some (.slice e)) {x:AV} {v:Value} (hx:SimV P w S h loc x v) {r:AV} {h':Heap}
  (he : ((b2x x).map fun n:Nat=>(AV.v (.int .i64 n),h))=some (r,h')) :
  h' = h/\b1m P B S loc h w (Builtin.len_ #[t] ty #[v]) r h:=by
 cases hl:b2x x with
 | none=>simp [hl] at he
 | some n =>
  simp [hl] at he; obtain ⟨rfl,rfl⟩:=he
  obtain ⟨a,c,rfl⟩:=l5m hx hl
  exact ⟨rfl,b1m.same H (by simp [Builtin.len_,run_underlying ht,goInt]) (.v _)⟩
theorem l49 {x y:AV} {u v:Value} (hx:SimV P w S h loc x u) (hy:SimV P w S h loc y v) {r:AV} (he:b7h x y=some r) :
  ∃ z,r = .v z/\(Builtin.min2 u v).run P w = .ok z w:=by
 unfold b7h at he
 split at he
 ·cases hx; cases hy; cases he; exact ⟨_,rfl,by simp [Builtin.min2]⟩
 ·cases he
theorem l48 {x y:AV} {u v:Value} (hx:SimV P w S h loc x u) (hy:SimV P w S h loc y v) {r:AV} (he:b7f x y=some r) :
  ∃ z,r = .v z/\(Builtin.max2 u v).run P w = .ok z w:=by
 unfold b7f at he
 split at he
 ·cases hx; cases hy; cases he; exact ⟨_,rfl,by simp [Builtin.max2]⟩
 ·cases he
theorem g2e (H:HSim P B S loc h w) (g:AV->AV->Option AV) (f:Value->Value->Sem Value)
  (hgf : ∀ x y u v r,SimV P w S h loc x u->SimV P w S h loc y v->g x y=some r->∃ z,r = .v z/\(f u v).run P w = .ok z w) :
  ∀ (xs:List AV) (vs:List Value) (x:AV) (u:Value) (r:AV),SimV P w S h loc x u->xs.length=vs.length->(∀ (i:Nat) c d,xs[i]?=some c->vs[i]?=some d->SimV P w S h loc c d)->xs.foldlM g x=some r ->
   b1m P B S loc h w (vs.foldlM f u) r h
 | [],[],x,u,r,hx,_,_,he=>by
  simp at he; subst he
  exact b1m.same H (by simp) hx
 | c :: xs,d :: vs,x,u,r,hx,hl,hc,he=>by
  simp only [List.foldlM_cons,bind,bE9] at he
  obtain ⟨r1,h1,h2⟩:=he
  obtain ⟨z,rfl,hz⟩:=hgf x c u d r1 hx (hc 0 c d rfl rfl) h1
  obtain ⟨v,w',S',loc',hr,hu,hs⟩:=g2e H g f hgf xs vs (.v z) z r (.v z) (by simpa using hl) (fun i a b ha hb=>hc (i+1) a b (by simpa using ha) (by simpa using hb)) h2
  refine ⟨v,w',S',loc',?_,hu,hs⟩
  simp only [List.foldlM_cons,Sem.run_bind,hz,Result.andThen_ok]
  exact hr
 | [],_ :: _,_,_,_,_,hl,_,_=>by simp at hl
 | _ :: _,[],_,_,_,_,hl,_,_=>by simp at hl
def b3j (P:Program) (w:World) (S:Nat->Prop) (h:Heap) (loc:Loc) (xs:List AV) (vs:List Value):Prop :=
 xs.length = vs.length/\∀ (i:Nat) c d,xs[i]?=some c->vs[i]?=some d->SimV P w S h loc c d
theorem g2i (H:HSim P B S loc h w) (g:AV->AV->Option AV) (f:Value->Value->Sem Value)
  (hgf : ∀ x y u v r,SimV P w S h loc x u->SimV P w S h loc y v->g x y=some r->∃ z,r = .v z/\(f u v).run P w = .ok z w)
  {xs : List AV} {vs:List Value} (hl:b3j P w S h loc xs vs) {r:AV} (he:b5g g xs=some r) (why:String) :
  b1m P B S loc h w (match (generalizing:=false) vs with|[]=>stuck why|x :: rest=>rest.foldlM f x) r h:=by
 obtain ⟨hn,hc⟩:=hl
 match xs,vs,hn,hc,he with
 | x :: xs,v :: vs,hn,hc,he=>exact g2e H g f hgf xs vs x v r (hc 0 x v rfl rfl) (by simpa using hn) (fun i a b ha hb=>hc (i+1) a b (by simpa using ha) (by simpa using hb)) he
 | [],_,_,_,he=>simp [b5g] at he
theorem b3j.arr {xs:List AV} {vs:List Value} (hl:b3j P w S h loc xs vs):vs.toArray.size=xs.length/\∀ (i:Nat) c,xs[i]?=some c->SimV P w S h loc c (vs.toArray.getD i undef):=by
 refine ⟨by simp [hl.1],fun i c hi=>?_⟩
 have hlt:i<vs.length:=by rw [<- hl.1]; exact (gS9.1 hi).1
 refine hl.2 i c _ hi ?_
 simp [Array.getD,hlt]
theorem l3l (H:HSim P B S loc h w) {f:FuncId} {name:String} (hf:b6p P f=some name) {as cs:List AV} {vs us:List Value} (h1:b3j P w S h loc as vs) (h2:b3j P w S h loc cs us) :
  b1m P B S loc h w (Instr.makeFunc (.func f) vs.toArray us.toArray) (.fn name as cs) h:=by
 unfold b6p at hf
 cases hfn:P.funcs[f]? with
 | none=>simp [hfn] at hf
 | some fn =>
  simp only [hfn,bS9] at hf
  split at hf
  ·rename_i hcond
   simp at hf hcond
   refine b1m.same H (v:=.func (.func f) vs.toArray us.toArray) (by simp [Instr.makeFunc]) ?_
   exact .fn name as cs f fn _ _ hfn hf (by simpa using hcond.1) (by simpa using hcond.2) h1.arr.1 h1.arr.2 h2.arr.1 h2.arr.2
  ·cases hf
theorem E96 {e n:Nat} {zs:List Value} (hn:b1x P e=some n) (hz:b3v P e=some zs):∃ i z,P.info? e=some i/\i.size=n/\i.zero=some z/\zs=z.cells.toList/\∀ y∈zs,y.oneCell'=true:=by
 obtain ⟨i,z,hi,hzo,hzz,h1⟩:=c7g hz
 refine ⟨i,z,hi,?_,hzo,hzz,h1⟩
 simpa [b1x,hi] using hn
theorem g9q {i j sz:Nat} (hj:j<sz):(i * sz+j) / sz=i/\(i * sz+j) % sz=j:=by
 constructor
 ·rw [Nat.mul_comm,Nat.mul_add_div (by omega),Nat.div_eq_of_lt hj,Nat.add_zero]
 ·rw [Nat.mul_comm,Nat.mul_add_mod,Nat.mod_eq_of_lt hj]
theorem j4y {i j n sz:Nat} (hi:i<n) (hj:j<sz):i * sz+j<n * sz:=by
 have := Nat.mul_le_mul_right sz (show i+1<=n from hi)
 rw [Nat.succ_mul] at this; omega
theorem l3m (H:HSim P B S loc h w) {r:AV} {h':Heap} (hnx:h.nx<h'.nx->¬ h.us h.nx) (hB:B<=w.heap.size) {t e sz bytes:Nat} {zs:List Value} (ht:P.underlying t=some (.slice e)) (hn:b1x P e=some sz) (hz:b3v P e=some zs) (hzl:zs.length=sz) (hnz:sz≠0)
  (hb : b5e P e=some bytes) {x y:AV} {u v:Value} (hx:SimV P w S h loc x u) (hy:SimV P w S h loc y v)
  (he : (match (generalizing:=false) x,y with
  | .v (.int _ n),.v (.int _ c)=>if n=c/\0<=n/\n * bytes<=2 ^ 47/\n<2 ^ 63 then some (AV.rs h.nx 0 n.toNat,h.new (sz,List.replicate n.toNat (zs.map .v))) else none
  | _,_=>none)=some (r,h')):b1m P B S loc h w (Instr.makeSlice t u v) r h':=by
 have hxy:∃ k n k' c,x = .v (.int k n)/\y = .v (.int k' c):=by
  split at he
  ·exact ⟨_,_,_,_,rfl,rfl⟩
  ·cases he
 obtain ⟨k0,n,k1,c,rfl,rfl⟩:=hxy
 ·simp only at he
  cases hx; cases hy
  split at he
  ·rename_i hc
   obtain ⟨rfl,h0,hbytes,h63⟩:=hc
   simp only [iE9,Prod.mk.injEq] at he
   obtain ⟨rfl,rfl⟩:=he
   obtain ⟨i,z,hi,his,hzo,rfl,hone⟩:=E96 hn hz
   have hbi:i.bytes=bytes:=by simpa [b5e,hi] using hb
   have hrun:=run_make (P:=P) w t e i z ht hi hzo k0 k1 n n h0 (Int.le_refl _) (by rw [hbi,Int.mul_comm]; omega) (by omega)
   rw [his] at hrun
   have hsz:(madeCells z.cells (n.toNat * sz)).size=n.toNat * sz:=size_madeCells _ _
   have hzs:z.cells.size=sz:=by simpa using hzl
   obtain ⟨S',loc',u,hloc,hsh⟩:=c0n H (hnx (Nat.lt_succ_self _)) hB e sz (List.replicate n.toNat (z.cells.toList.map AV.v)) (madeCells z.cells (n.toNat * sz)) hnz (by
    intro e he; rw [List.eq_of_mem_replicate he]; simpa using hzl) (by simp [hsz]) (fun k j c hk=>by
    obtain ⟨ee,hee,hj⟩:=P1m hk
    have hk1:k<n.toNat:=by have:=(gS9.1 hee).1; simpa using this
    have hee':ee=z.cells.toList.map AV.v:=by
     have := mG9 hee; exact List.eq_of_mem_replicate this
    subst hee'
    simp only [List.getElem?_map,mE9] at hj
    obtain ⟨yv,hyv,rfl⟩:=hj
    have hjlt:j<sz:=by rw [<- hzl]; exact (gS9.1 hyv).1
    have hidx:=j4y hk1 hjlt
    have hval:(madeCells z.cells (n.toNat * sz)).getD (k * sz+j) undef=yv:=by
     have hz1:z.cells[(k * sz+j) % z.cells.size]! = yv:=by
      rw [hzs,(g9q hjlt).2]
      have hjz:j<z.cells.size:=by omega
      have hyv':=hyv
      rw [Array.getElem?_toList,Array.getElem?_eq_getElem hjz] at hyv'
      rw [getElem!_pos z.cells j hjz]; exact Option.some.inj hyv'
     simp only [Array.getD,hsz,hidx,dite_true]
     simp only [madeCells,Array.getElem_map,Array.getElem_range,Array.getInternal_eq_getElem]
     exact hz1
    refine ⟨getD_some (by rw [hsz]; exact hidx),?_,?_⟩
    ·rw [hval]; exact hone _ (mG9 hyv)
    ·rw [hval]; exact .v _)
   refine ⟨_,_,S',loc',hrun,u,.rs _ _ _ _ (by simp [Heap.new]) ⟨_,_,rfl⟩ fun sz' es' ho=>?_⟩
   have : (sz',es')=(sz,List.replicate n.toNat (z.cells.toList.map AV.v)):=by simp [Heap.new] at ho; rw [<- ho.1,<- ho.2]
   cases this
   refine ⟨hnz,n.toNat,n.toNat * sz,by simp [hloc],Nat.le_refl _,by unfold maxLen; omega,by rw [hloc]; simpa [hsz] using hsh,by rw [hloc]; simp⟩
  ·cases he
inductive OSim (P:Program) (w:World) (S:Nat->Prop) (h:Heap) (loc:Loc):Option AV->Option Value->Prop
 | none:OSim P w S h loc none none
 | some {x:AV} {v:Value} (hx:SimV P w S h loc x v):OSim P w S h loc (some x) (some v)
theorem l47 {o:Option AV} {u:Option Value} (ho:OSim P w S h loc o u) {l hi:Nat} (hl:b5d 0 o=some l) (hle:l<=hi) (code:BoundsCode) :
  (match u with|some v=>Instr.sliceBound v hi code|none=>pure 0:Sem Nat).run P w = .ok l w:=by
 cases ho with
 | none=>simp [b5d] at hl; subst hl; rfl
 | @some x v hx =>
  cases hx with
  | v =>
   cases v with
   | int k n =>
    simp [b5d] at hl
    obtain ⟨h0,rfl⟩:=hl
    simp [Instr.sliceBound,asIntOf,h0,show n<=(hi:Int) by omega]
   | _=>simp [b5d] at hl
  | _=>simp [b5d] at hl
theorem l45 {o:Option AV} {u:Option Value} (ho:OSim P w S h loc o u) {len r cap:Nat} (hl:b5i len o=some r) (hle:len<=cap) (code:BoundsCode) :
  (match u with|some v=>Instr.sliceBound v cap code|none=>pure len:Sem Nat).run P w = .ok r w/\r<=len:=by
 cases ho with
 | none=>simp [b5i] at hl; subst hl; exact ⟨rfl,Nat.le_refl _⟩
 | @some x v hx =>
  cases hx with
  | v =>
   cases v with
   | int k n =>
    simp [b5i] at hl
    obtain ⟨h0,rfl⟩:=hl
    refine ⟨?_,by omega⟩
    simp [Instr.sliceBound,asIntOf,h0,show n<=(cap:Int) by omega]
   | _=>simp [b5i] at hl
  | _=>simp [b5i] at hl
theorem c4s {t e n:Nat} (ht:P.underlying t=some (.slice e)) (hn:b1x P e=some n) {lo hi:Option AV} {ul uh:Option Value} (h1:OSim P w S h loc lo ul) (h2:OSim P w S h loc hi uh) {len l r cap:Nat}
  (hr : b5i len hi=some r) (hl:b5d 0 lo=some l) (hle:l<=r) (hcap:len<=cap) (a:Option Addr) :
  (Instr.sliceAt t (.slice a len cap) ul uh none).run P w = .ok (.slice (if cap=l then a else a.map (·.add (l * n))) (r - l) (cap - l)) w/\r<=len:=by
 obtain ⟨e2,hrl⟩:=l45 h2 hr hcap .sliceAcap
 have e1:=l47 h1 hl hle .sliceB
 refine ⟨?_,hrl⟩
 simp only [Instr.sliceAt,Sem.run_bind,run_underlying ht,Result.andThen_ok,Instr.slice,Instr.sliceBounds,Sem.run_pure]
 cases uh with
 | none =>
  simp at e2; subst e2
  cases ul with
  | none=>simp at e1; subst e1; simp [b3s hn]
  | some v=>simp at e1; simp [e1,b3s hn]
 | some v =>
  simp at e2
  cases ul with
  | none=>simp at e1; subst e1; simp [e2,b3s hn]
  | some v=>simp at e1; simp [e1,e2,b3s hn]
theorem l3o (H:HSim P B S loc h w) {t e n:Nat} (ht:P.underlying t=some (.slice e)) (hn:b1x P e=some n) {lo hi:Option AV} {ul uh:Option Value} (h1:OSim P w S h loc lo ul) (h2:OSim P w S h loc hi uh)
  {r : AV} {h':Heap} {x:AV} {v:Value}
  (he : ((b2x x).bind fun len =>
  (b5d 0 lo).bind fun l =>
  (b5i len hi).bind fun r =>
  if l<=r then
   match x with
   | .fs sz es=>if sz=n then some (AV.fs sz ((es.take r).drop l),h) else none
   | .rs id lo' _=>(h.ob id).bind fun o=>if (l=0\/l<r)/\o.1=n then some (AV.rs id (lo'+l) (r - l),h) else none
   | .v (.slice none 0 0)=>some (AV.v (.slice none 0 0),h)
   | _=>none
  else none)=some (r,h')) (hx:SimV P w S h loc x v):h'=h/\b1m P B S loc h w (Instr.sliceAt t v ul uh none) r h:=by
 cases hsl:b2x x with
 | none=>simp [hsl] at he
 | some len =>
  simp only [hsl,bS9] at he
  cases hl:b5d 0 lo with
  | none=>simp [hl] at he
  | some l =>
   simp only [hl,bS9] at he
   cases hr:b5i len hi with
   | none=>simp [hr] at he
   | some r' =>
    simp only [hr,bS9] at he
    split at he
    ·rename_i hle
     cases hx with
     | fs sz es b o cap hcap hS hsz val hc hone hv =>
      simp [b2x] at hsl; subst hsl
      simp only at he
      split at he
      ·rename_i hszn; subst hszn
       simp at he; obtain ⟨rfl,rfl⟩:=he
       obtain ⟨hrun,hrl⟩:=c4s (P:=P) (w:=w) ht hn h1 h2 hr hl hle hcap (some ⟨b,o,none⟩)
       refine ⟨rfl,b1m.same H hrun ?_⟩
       have hlen:((es.take r').drop l).length=r' - l:=by simp; omega
       have hat:∀ i j c,at2 ((es.take r').drop l) i j=some c->at2 es (l+i) j=some c:=fun i j c hh=>by
        obtain ⟨ee,h1,h2⟩:=P1m hh
        rw [List.getElem?_drop,List.getElem?_take] at h1
        split at h1
        ·simp [at2,h1,h2]
        ·cases h1
       have hszs:∀ e∈(es.take r').drop l,e.length=sz:=fun e he=>hsz e (List.mem_of_mem_take (List.mem_of_mem_drop he))
       by_cases hcl:cap=l
       ·rw [if_pos hcl]
        have : (es.take r').drop l=[]:=List.eq_nil_of_length_eq_zero (by rw [hlen]; omega)
        have e0:r' - l=((es.take r').drop l).length:=hlen.symm
        rw [e0]
        exact .fs sz _ b o _ (by rw [hlen]; omega) hS hszs (fun _ _=>undef) (by rw [this]; simp [at2]) (by rw [this]; simp [at2]) (by rw [this]; simp [at2])
       ·rw [if_neg hcl]
        simp only [Option.map_some,p8n]
        have e0:r' - l=((es.take r').drop l).length:=hlen.symm
        rw [e0]
        refine .fs sz _ b _ _ (by rw [hlen]; omega) hS hszs (fun i j=>val (l+i) j) (fun i j c hh=>?_) (fun i j c hh=>hone _ _ _ (hat i j c hh)) (fun i j c hh=>hv _ _ _ (hat i j c hh))
        have := hc _ _ _ (hat i j c hh)
        rw [Nat.add_mul] at this
        rw [show o+l * sz+i * sz+j=o+(l * sz+i * sz)+j by omega]; exact this
      ·cases he
     | fsE sz a cap =>
      simp [b2x] at hsl; subst hsl
      simp only at he
      split at he
      ·rename_i hszn; subst hszn
       simp at he; obtain ⟨rfl,rfl⟩:=he
       obtain ⟨hrun,hrl⟩:=c4s (P:=P) (w:=w) ht hn h1 h2 hr hl hle (Nat.zero_le cap) (some a)
       have : r'=0:=by omega
       subst this
       have : l=0:=by omega
       subst this
       refine ⟨rfl,b1m.same H hrun ?_⟩
       split
       ·exact .fsE sz _ _
       ·exact .fsE sz _ _
      ·cases he
     | fsNil sz =>
      simp [b2x] at hsl; subst hsl
      simp only at he
      split at he
      ·rename_i hszn; subst hszn
       simp at he; obtain ⟨rfl,rfl⟩:=he
       obtain ⟨hrun,hrl⟩:=c4s (P:=P) (w:=w) ht hn h1 h2 hr hl hle (Nat.le_refl 0) none
       have : r'=0:=by omega
       subst this
       have : l=0:=by omega
       subst this
       exact ⟨rfl,b1m.same H hrun (.fsNil sz)⟩
      ·cases he
     | rs id lo' len' _ hid hs hx =>
      simp [b2x] at hsl; subst hsl
      simp only at he
      cases ho:h.ob id with
      | none=>simp [ho] at he
      | some ob =>
       simp only [ho,bS9] at he
       split at he
       ·rename_i hcond
        obtain ⟨hc1,hc2⟩:=hcond
        simp at he; obtain ⟨rfl,rfl⟩:=he
        obtain ⟨hnz,cap,nn,rfl,hcap,hmx,hsh,hfit⟩:=hx ob.1 ob.2 ho
        obtain ⟨hrun,hrl⟩:=c4s (P:=P) (w:=w) ht hn h1 h2 hr hl hle hcap (some ⟨(loc id).1,(loc id).2+lo' * ob.1,none⟩)
        refine ⟨rfl,b1m.same H hrun (.rs id _ _ _ hid (by split <;> exact ⟨_,_,rfl⟩) fun sz es he=>?_)⟩
        have e1:ob=(sz,es):=by rw [ho] at he; exact Option.some.inj he
        subst e1
        simp only at hc2 hfit ⊢
        subst hc2
        refine ⟨hnz,cap - l,nn,?_,by omega,by omega,hsh,?_⟩
        ·by_cases hcl:cap=l
         ·have h0:l=0:=by omega
          subst h0; subst hcl
          simp
         ·rw [if_neg hcl]
          simp only [Option.map_some,p8n,Nat.add_mul,Nat.add_assoc]
        ·have : lo'+l+(cap - l)=lo'+cap:=by omega
         rw [this]; exact hfit
       ·cases he
     | v =>
      have hv0:v = .slice none 0 0/\len=0:=by
       unfold b2x at hsl
       split at hsl
       ·rename_i e; cases e; cases hsl; exact ⟨rfl,rfl⟩
       ·rename_i e; cases e
       ·rename_i e; cases e
       ·cases hsl
      obtain ⟨rfl,rfl⟩:=hv0
      simp only [iE9,Prod.mk.injEq] at he
      obtain ⟨rfl,rfl⟩:=he
      obtain ⟨hrun,hrl⟩:=c4s (P:=P) (w:=w) ht hn h1 h2 hr hl hle (Nat.le_refl 0) none
      have : r'=0:=by omega
      subst this
      have : l=0:=by omega
      subst this
      exact ⟨rfl,b1m.same H hrun (.v _)⟩
     | _=>simp [b2x] at hsl
    ·cases he
end
end Go.Nw
