/- The arguments of a law, read as data, are values of the abstract machine of the types' shape. -/
import Derived.Test.YtojneiildpnpiaaNwFunc
import Derived.Test.YtojneiildpnpiaaNwDone
import Derived.Deep.Slices
import Derived.ProofKit
import Derived.OpenShut
set_option linter.all false
namespace Go.Nw
open Go.Deep Go.ChangeShapes Go.WideShapes
inductive Sh where
 | b
 | i (k:IntKind)
 | s
 | sl (es:List Sh)
class Bd where
 B : Nat
 le : B<=maxLen
variable [Bd]
structure BulkOk {H:Type} (bk:DataW H->Nat):Prop where
 sl : ∀ es sp,es.length<=bk (.slice es sp)/\∀ d∈es,bk d<=bk (.slice es sp)
 ag : ∀ ps,∀ d∈ps,bk d<=bk (.agg ps)
 st : ∀ b,b.length<=bk (.lit (.string b))
def Sm {H:Type} (bk:DataW H->Nat) (d:DataW H):Prop:=Bd.B=maxLen\/(BulkOk bk/\bk d<=Bd.B)
theorem l5n {H:Type} {bk:DataW H->Nat} {es sp:List (DataW H)} (h:Sm bk (.slice es sp)):(es.length<=maxLen->es.length<=Bd.B)/\∀ d∈es,Sm bk d:=by
 rcases h with h|⟨h1,h2⟩
 ·exact ⟨fun hl=>by rw [h]; exact hl,fun _ _=>.inl h⟩
 ·exact ⟨fun _=>Nat.le_trans (h1.sl es sp).1 h2,fun d hd=>.inr ⟨h1,Nat.le_trans ((h1.sl es sp).2 d hd) h2⟩⟩
theorem g3f {H:Type} {bk:DataW H->Nat} {ps:List (DataW H)} (h:Sm bk (.agg ps)):∀ d∈ps,Sm bk d:=by
 rcases h with h|⟨h1,h2⟩
 ·exact fun _ _=>.inl h
 ·exact fun d hd=>.inr ⟨h1,Nat.le_trans (h1.ag ps d hd) h2⟩
theorem l5o {H:Type} {bk:DataW H->Nat} {b:List UInt8} (h:Sm bk (.lit (.string b))) (hl:b.length<=maxLen):b.length<=Bd.B:=by
 rcases h with h|⟨h1,h2⟩
 ·rw [h]; exact hl
 ·exact Nat.le_trans (h1.st b) h2
inductive Mt:Sh->AV->Prop
 | b (x:Bool):Mt .b (.v (.bool x))
 | i (k:IntKind) (n:Int) (h:(Lit.int k n).wf=true):Mt (.i k) (.v (.int k n))
 | s (x:ByteArray) (h:x.size<=Bd.B):Mt .s (.v (.string x))
 | sl (es:List Sh) (rows:List (List AV)) (hl:rows.length<=Bd.B) (hr:∀ r∈rows,r.length=es.length)
   (hc : ∀ i j c s,at2 rows i j=some c->es[j]?=some s->Mt s c):Mt (.sl es) (.fs es.length rows)
def MtL (es:List Sh) (r:List AV):Prop:=r.length=es.length/\∀ (j:Nat) (c:AV) (s:Sh),r[j]?=some c->es[j]?=some s->Mt s c
def shF (P:Program) (g:TypeId->Option (List Sh)):List Field->Nat->Option (List Sh)
 | [],_=>some []
 | f :: r,o=>(g f.type).bind fun a=>if f.offset=o/\a.length=P.cellsOf f.type then (shF P g r (o+a.length)).map (a++·) else none
def shT (P:Program):Nat->TypeId->Option (List Sh)
 | 0,_=>none
 | n+1,t=>match P.underlying t with
  | some .bool=>some [.b]
  | some (.int k)=>some [.i k]
  | some .string=>some [.s]
  | some (.array m e)=>(shT P n e).bind fun es=>if es.length=P.cellsOf e/\m * es.length=P.cellsOf t then some (List.replicate m es).flatten else none
  | some (.slice e)=>(shT P n e).bind fun es=>if es.length=P.cellsOf e/\0<es.length then some [.sl es] else none
  | some (.struct fs)=>(shF P (shT P n) fs.toList 0).bind fun es=>if es.length=P.cellsOf t then some es else none
  | _=>none
section
variable {H:Type} {enc:TypeId × Value->H} {P:Program} {w:World}
def Rd (P:Program) (w:World) (c:AV) (v:Value):Prop:=v.oneCell'=true/\SimV P w (fun b=>b<w.heap.size) Heap.empty (fun _=>(0,0)) c v
def s8o (P:Program) (w:World) (cs:List Value) (r:List AV):Prop:=r.length=cs.length/\∀ (j:Nat) (c:AV),r[j]?=some c->∃ v,cs[j]?=some v/\Rd P w c v
theorem c1b {c:AV} {v:Value} {s:Sh} (hm:Mt s c) (hr:Rd P w c v):∃ r,MtL [s] r/\s8o P w [v] r:=by
 refine ⟨[c],⟨rfl,fun j c' s' h1 h2=>?_⟩,rfl,fun j c' h1=>?_⟩
 ·cases j with
  | zero=>simp at h1 h2; subst h1; subst h2; exact hm
  | succ j=>simp at h1
 ·cases j with
  | zero=>simp at h1; subst h1; exact ⟨v,rfl,hr⟩
  | succ j=>simp at h1
theorem g2w {es es':List Sh} {cs cs':List Value} {r r':List AV} (h1:MtL es r) (h2:s8o P w cs r) (h3:MtL es' r') (h4:s8o P w cs' r'):MtL (es++es') (r++r')/\s8o P w (cs++cs') (r++r'):=by
 refine ⟨⟨by simp [h1.1,h3.1],fun j c s hc hs=>?_⟩,by simp [h2.1,h4.1],fun j c hc=>?_⟩
 ·by_cases hj:j<r.length
  ·rw [List.getElem?_append_left hj] at hc
   rw [List.getElem?_append_left (by rw [<- h1.1]; exact hj)] at hs
   exact h1.2 j c s hc hs
  ·rw [List.getElem?_append_right (by omega)] at hc
   rw [List.getElem?_append_right (by rw [<- h1.1]; omega),<- h1.1] at hs
   exact h3.2 _ c s hc hs
 ·by_cases hj:j<r.length
  ·rw [List.getElem?_append_left hj] at hc
   rw [List.getElem?_append_left (by rw [<- h2.1]; exact hj)]
   exact h2.2 j c hc
  ·rw [List.getElem?_append_right (by omega)] at hc
   rw [List.getElem?_append_right (by rw [<- h2.1]; omega),<- h2.1]
   exact h4.2 _ c hc
theorem g8y {a:Addr} {v:Value} (h:w.cell? a=some v):a.block<w.heap.size:=by
 unfold World.cell? at h
 split at h
 ·rename_i hb; exact (Array.getElem?_eq_some_iff.1 hb).1
 ·cases h
theorem l4b {bk:DataW H->Nat} {t e:TypeId} {es:List Sh} (ht:P.underlying t=some (.slice e)) (hl:es.length=P.cellsOf e) (hpos:0<es.length)
  (ih : ∀ fuel cs (x:DataW H × List MemPlace),DataW.trod enc P w 0 (fun _=>true) true fuel e cs=some x->Sm bk x.1->cs.length=es.length/\∃ r,MtL es r/\s8o P w cs r)
  {fuel : Nat} {cs:List Value} {x:DataW H × List MemPlace} (hsm:Sm bk x.1) (h:DataW.trod enc P w 0 (fun _=>true) true fuel t cs=some x):cs.length=1/\∃ r,MtL [.sl es] r/\s8o P w cs r:=by
 rcases open_slice ht h with ⟨rfl,rfl⟩|⟨a,len,cap,m,n,D,Pl,rfl,hb,hle,hm,hmm,rfl,hx⟩
 ·refine ⟨rfl,c1b (c:=.fs es.length []) ?_ ⟨rfl,.fsNil _⟩⟩
  exact .sl es [] (by simp) (by simp) (fun i j c s hh _=>by simp [at2] at hh)
 refine ⟨rfl,?_⟩
 simp only [if_true] at hmm
 subst hmm
 obtain ⟨hsl,hse⟩:=l5n hsm
 rw [List.length_map,List.length_range] at hsl
 by_cases h0:len=0
 ·subst h0
  exact c1b (c:=.fs es.length []) (.sl es [] (by simp) (by simp) (fun i j c s hh _=>by simp [at2] at hh)) ⟨rfl,.fsE _ a m⟩
 obtain ⟨R,hR⟩:=choose_lt (α:=List AV × List Value) (n:=len) (p:=fun i rc=>w.cells? 0 (a.add (i * P.cellsOf e)) (P.cellsOf e)=some rc.2/\MtL es rc.1/\s8o P w rc.2 rc.1) (fun i hi=>by
  obtain ⟨cs',h1,h2⟩:=hx i (by omega)
  obtain ⟨_,r,h3,h4⟩:=ih _ _ _ h2 (hse _ (List.mem_map.2 ⟨i,List.mem_range.2 hi,rfl⟩))
  exact ⟨(r,cs'),h1,h3,h4⟩)
 obtain ⟨b,o,spot⟩:=a
 have cellAt:∀ i j,i<len->j<es.length->w.cell? ((⟨b,o,spot⟩:Addr).add (i * es.length+j))=(R i).2[j]?/\j<(R i).2.length:=fun i j hi hj=>by
  obtain ⟨h1,_,_⟩:=hR i hi
  obtain ⟨_,h2,h3⟩:=World.cells?_some h1
  rw [<- hl] at h2 h3
  have := h3 j hj
  rw [add_add] at this
  exact ⟨this,by omega⟩
 have hs:spot=none:=by
  obtain ⟨h1,h2⟩:=cellAt 0 0 (by omega) hpos
  rw [gG9 h2] at h1
  simpa [Addr.add] using World.cell?_spot h1
 subst hs
 have hadd:∀ k,(⟨b,o,none⟩:Addr).add k=⟨b,o+k,none⟩:=fun k=>by
  unfold Addr.add; by_cases hk:k=0 <;> simp [hk]
 have hb0:b<w.heap.size:=by
  obtain ⟨h1,h2⟩:=cellAt 0 0 (by omega) hpos
  rw [gG9 h2] at h1
  have := g8y h1
  rwa [hadd] at this
 have hat:∀ i j c,at2 ((List.range len).map fun i=>(R i).1) i j=some c->i<len/\(R i).1[j]?=some c/\j<es.length:=fun i j c hh=>by
  unfold at2 at hh
  obtain ⟨row,h1,h2⟩:=bE9.1 hh
  simp only [List.getElem?_map,mE9] at h1
  obtain ⟨i',h3,h4⟩:=h1
  obtain ⟨h5,h6⟩:=gS9.1 h3
  simp at h5 h6
  subst h6; subst h4
  refine ⟨h5,h2,?_⟩
  have := (gS9.1 h2).1
  rw [(hR i h5).2.1.1] at this
  exact this
 have hlen:((List.range len).map fun i=>(R i).1).length=len:=by simp
 have hrow:∀ r∈(List.range len).map fun i=>(R i).1,r.length=es.length:=fun r hr=>by
  obtain ⟨i,hi,rfl⟩:=List.mem_map.1 hr
  exact (hR i (List.mem_range.1 hi)).2.1.1
 have key:∀ i j c,at2 ((List.range len).map fun i=>(R i).1) i j=some c->∃ v,(R i).2[j]?=some v/\Rd P w c v:=fun i j c hh=>by
  obtain ⟨h1,h2,h3⟩:=hat i j c hh
  exact (hR i h1).2.2.2 j c h2
 have sim:SimV P w (fun b=>b<w.heap.size) Heap.empty (fun _=>(0,0)) (.fs es.length ((List.range len).map fun i=>(R i).1)) (.slice (some ⟨b,o,none⟩) ((List.range len).map fun i=>(R i).1).length m):=by
  refine .fs es.length _ b o m (by rw [hlen]; exact hle) hb0 hrow (fun i j=>((R i).2[j]?).getD undef) (fun i j c hh=>?_) (fun i j c hh=>?_) (fun i j c hh=>?_)
  ·obtain ⟨v,h1,h2⟩:=key i j c hh
   obtain ⟨h3,h4,h5⟩:=hat i j c hh
   obtain ⟨h6,_⟩:=cellAt i j h3 h5
   rw [hadd,h1] at h6
   rw [h1,Nat.add_assoc]; exact h6
  ·obtain ⟨v,h1,h2⟩:=key i j c hh
   rw [h1]; exact h2.1
  ·obtain ⟨v,h1,h2⟩:=key i j c hh
   rw [h1]; exact h2.2
 rw [hlen] at sim
 refine c1b (c:=.fs es.length ((List.range len).map fun i=>(R i).1)) (.sl es _ (by rw [hlen]; exact hsl (by omega)) hrow fun i j c s hh hs=>?_) ⟨rfl,sim⟩
 obtain ⟨h1,h2,h3⟩:=hat i j c hh
 exact (hR i h1).2.1.2 j c s h2 hs
theorem g2q {bk:DataW H->Nat} {cs:List Value} {k:Nat} {g:TypeId->Option (List Sh)}
  (ih : ∀ t es,g t=some es->∀ fuel cs (x:DataW H × List MemPlace),DataW.trod enc P w 0 (fun _=>true) true fuel t cs=some x->Sm bk x.1->cs.length=es.length/\∃ r,MtL es r/\s8o P w cs r) :
  ∀ (fl:List Field) (o:Nat) (es:List Sh),shF P g fl o=some es->o+es.length<=cs.length ->
   (∀ f∈fl,∃ x,DataW.trod enc P w 0 (fun _=>true) true k f.type ((cs.drop f.offset).take (P.cellsOf f.type))=some (x:DataW H × List MemPlace)/\Sm bk x.1) ->
   ∃ r,MtL es r/\s8o P w ((cs.drop o).take es.length) r
 | [],o,es,h,_,_=>by
  simp [shF] at h; subst h
  exact ⟨[],⟨rfl,by simp⟩,by simp,by simp⟩
 | f :: fl,o,es,h,hlen,hx=>by
  simp only [shF,bE9] at h
  obtain ⟨a,ha,h⟩:=h
  split at h
  ·rename_i hc
   obtain ⟨h1,h2⟩:=hc
   obtain ⟨b,hb,rfl⟩:=mE9.1 h
   simp only [List.length_append] at hlen
   obtain ⟨x,hx0,hxs⟩:=hx f List.mem_cons_self
   obtain ⟨_,r,m1,m2⟩:=ih _ _ ha _ _ _ hx0 hxs
   rw [h1,<- h2] at m2
   obtain ⟨r',m3,m4⟩:=g2q ih fl (o+a.length) b hb (by omega) (fun f' hf'=>hx f' (List.mem_cons_of_mem _ hf'))
   obtain ⟨m5,m6⟩:=g2w m1 m2 m3 m4
   refine ⟨_,m5,?_⟩
   have : (cs.drop o).take (a++b).length=(cs.drop o).take a.length++(cs.drop (o+a.length)).take b.length:=by
    rw [List.length_append,List.take_add,List.drop_drop]
   rw [this]; exact m6
  ·cases h
theorem g2r {bk:DataW H->Nat} {cs:List Value} {m:Nat} {e:TypeId} {es:List Sh} (hl:es.length=P.cellsOf e)
  (ih : ∀ fuel cs (x:DataW H × List MemPlace),DataW.trod enc P w 0 (fun _=>true) true fuel e cs=some x->Sm bk x.1->cs.length=es.length/\∃ r,MtL es r/\s8o P w cs r) :
  ∀ (k:Nat),(∀ i,i<k->∃ x,DataW.trod enc P w 0 (fun _=>true) true m e ((cs.drop (i * P.cellsOf e)).take (P.cellsOf e))=some (x:DataW H × List MemPlace)/\Sm bk x.1)->k * es.length<=cs.length ->
   ∃ r,MtL (List.replicate k es).flatten r/\s8o P w (cs.take (k * es.length)) r
 | 0,_,_=>⟨[],⟨rfl,by simp⟩,by simp,by simp⟩
 | k+1,hx,hlen=>by
  rw [Nat.succ_mul] at hlen
  obtain ⟨r,m1,m2⟩:=g2r hl ih k (fun i hi=>hx i (by omega)) (by omega)
  obtain ⟨x,hx0,hxs⟩:=hx k (by omega)
  obtain ⟨_,r',m3,m4⟩:=ih _ _ _ hx0 hxs
  rw [<- hl] at m4
  obtain ⟨m5,m6⟩:=g2w m1 m2 m3 m4
  refine ⟨_,by rw [List.replicate_succ',List.flatten_append]; simpa using m5,?_⟩
  rw [Nat.succ_mul,List.take_add]
  exact m6
theorem c8w {bk:DataW H->Nat}:∀ (n:Nat) (t:TypeId) (es:List Sh),shT P n t=some es->∀ (fuel:Nat) (cs:List Value) (x:DataW H × List MemPlace),DataW.trod enc P w 0 (fun _=>true) true fuel t cs=some x->Sm bk x.1 ->
  cs.length = es.length/\∃ r,MtL es r/\s8o P w cs r
 | 0,_,_,h=>by simp [shT] at h
 | n+1,t,es,h=>by
  intro fuel cs x hx hsm
  unfold shT at h
  split at h
  ·rename_i hu
   simp at h; subst h
   cases fuel with
   | zero=>simp [DataW.trod] at hx
   | succ fuel =>
    unfold DataW.trod at hx
    simp only [hu] at hx
    split at hx <;> simp_all
    exact c1b (c:=.v (.bool _)) (.b _) ⟨rfl,.v _⟩
  ·rename_i k hu
   simp at h; subst h
   cases fuel with
   | zero=>simp [DataW.trod] at hx
   | succ fuel =>
    unfold DataW.trod at hx
    simp only [hu] at hx
    split at hx <;> simp_all
    rename_i k' nn _
    obtain ⟨h1,_⟩:=hx
    obtain ⟨rfl,h1⟩:=h1
    exact c1b (c:=.v (.int _ nn)) (.i _ nn h1) ⟨rfl,.v _⟩
  ·rename_i hu
   simp at h; subst h
   cases fuel with
   | zero=>simp [DataW.trod] at hx
   | succ fuel =>
    unfold DataW.trod at hx
    simp only [hu] at hx
    split at hx <;> simp_all
    rename_i s
    obtain ⟨hsz,rfl⟩:=hx
    exact c1b (c:=.v (.string s)) (.s s (by have:=l5o hsm (by simpa using hsz); simpa using this)) ⟨rfl,.v _⟩
  ·rename_i m e hu
   obtain ⟨es',h1,h2⟩:=bE9.1 h
   split at h2
   ·rename_i hc
    simp at h2; subst h2
    obtain ⟨xs,k,rfl,rfl,hcl,hxl,hf⟩:=DataW.trod_array hu hx
    have hlen:(List.replicate m es').flatten.length=m * es'.length:=by simp
    refine ⟨by rw [hlen,hcl]; exact hc.2.symm,?_⟩
    have := g2r (enc:=enc) (bk:=bk) (cs:=cs) (m:=k) hc.1 (fun fuel cs x hx hs=>c8w n e es' h1 fuel cs x hx hs) m (fun i hi=>by
     have := hf i hi
     rw [gG9 (by omega)] at this
     exact ⟨_,this,g3f hsm _ (List.mem_map.2 ⟨_,List.getElem_mem (by omega),rfl⟩)⟩) (by rw [hcl]; omega)
    rw [List.take_of_length_le (by rw [hcl]; omega)] at this
    exact this
   ·cases h2
  ·rename_i e hu
   obtain ⟨es',h1,h2⟩:=bE9.1 h
   split at h2
   ·rename_i hc
    simp at h2; subst h2
    exact l4b hu hc.1 hc.2 (fun fuel cs x hx hs=>c8w n e es' h1 fuel cs x hx hs) hsm hx
   ·cases h2
  ·rename_i fs hu
   obtain ⟨es',h1,h2⟩:=bE9.1 h
   split at h2
   ·rename_i hc
    simp at h2; subst h2
    obtain ⟨xs,k,rfl,rfl,hcl,hxl,hf⟩:=DataW.trod_struct hu hx
    refine ⟨by omega,?_⟩
    have := g2q (enc:=enc) (k:=k) (cs:=cs) (fun t es ht fuel cs x hx hs=>c8w n t es ht fuel cs x hx hs) fs.toList 0 es' h1 (by omega) (fun f hf0=>by
     obtain ⟨i,hi,rfl⟩:=List.getElem_of_mem hf0
     have hi':i<fs.size:=by simpa using hi
     have := hf i fs[i] (by simp [hi'])
     rw [gG9 (by omega)] at this
     exact ⟨_,by simpa using this,g3f hsm _ (List.mem_map.2 ⟨_,List.getElem_mem _,rfl⟩)⟩)
    rw [List.drop_zero,List.take_of_length_le (by omega)] at this
    exact this
   ·cases h2
  ·cases h
end
end Go.Nw
