/- Own maps: what the model's operations on them come to. -/
import Derived.Test.YtojneiildpnpiaaNwEff
import Derived.Test.YtojneiildpnpiaaNwCopy
import Derived.MapKept
import Derived.WideKeyRuns
import Derived.Laws.IdiomStrings
set_option linter.all false
namespace Go.Nw
variable [Cfg]
open Go.RowKit Go.MapKept
section
variable {P:Program} {B:Nat} {S:Nat->Prop} {loc:Loc} {h:Heap} {w:World}
theorem g63 {a b:ByteArray} (h:(a.toList == b.toList)=true):a=b:=by
 have : a.toList=b.toList:=by simpa using h
 rw [ByteArray.toList_eq,ByteArray.toList_eq] at this
 cases a; cases b; simp only [ByteArray.mk.injEq]; exact Array.ext' this
theorem c2q:∀ (ks:List FK) (xs ys:List Value),feq ks xs ys=some true->xs=ys
 | ks,xs,ys,h=>by
  unfold feq at h
  split at h
  ·rfl
  ·rename_i ks k a xs k' b ys
   split at h
   ·rename_i hk
    subst hk
    split at h
    ·rename_i hab
     have e:a=b:=by simpa using hab
     rw [c2q _ _ _ h,e]
    ·cases h
   ·cases h
  ·rename_i ks a xs b ys
   split at h
   ·rename_i hab
    have e:a=b:=by simpa using hab
    rw [c2q _ _ _ h,e]
   ·cases h
  ·rename_i ks a xs b ys
   split at h
   ·rename_i hab
    rw [c2q _ _ _ h,g63 hab]
   ·cases h
  ·cases h
theorem c2p (n:Nat):∀ (ks:List FK) (xs ys:List Value),feq ks xs ys=some true->(xs.zip ys).all (fun (x,y)=>Instr.sameBits n x y)=true
 | ks,xs,ys,h=>by
  unfold feq at h
  split at h
  ·rfl
  ·rename_i ks k a xs k' b ys
   split at h
   ·rename_i hk
    subst hk
    split at h
    ·rename_i hab
     simp only [List.zip_cons_cons,List.all_cons,c2p n _ _ _ h,Bool.and_true]
     simpa [Instr.sameBits] using hab
    ·cases h
   ·cases h
  ·rename_i ks a xs b ys
   split at h
   ·rename_i hab
    simp only [List.zip_cons_cons,List.all_cons,c2p n _ _ _ h,Bool.and_true]
    simpa [Instr.sameBits] using hab
   ·cases h
  ·rename_i ks a xs b ys
   split at h
   ·rename_i hab
    simp only [List.zip_cons_cons,List.all_cons,c2p n _ _ _ h,Bool.and_true]
    simp only [Instr.sameBits,beq_toListBytes]; exact hab
   ·cases h
  ·cases h
theorem g07 {str:Bool} {a b:Value} (h:b3o str a b=some true):a=b:=by
 unfold b3o at h
 split at h
 ·split at h
  ·cases h
  ·have := c2q _ _ _ h
   rw [Array.ext' this]
 ·cases h
 ·cases h
 ·have := c2q _ _ _ h
  simpa using this
theorem g06 {str:Bool} {a b:Value} (h:b3o str a b=some true):Instr.sameBits 10000 a b=true:=by
 unfold b3o at h
 split at h
 ·split at h
  ·cases h
  ·rename_i hc
   have := c2p 9999 _ _ _ h
   have hs:=not_or.1 hc
   simp only [Instr.sameBits,Bool.and_eq_true,beq_iff_eq]
   exact ⟨Classical.not_not.1 hs.2,this⟩
 ·cases h
 ·cases h
 ·have := c2p 10000 _ _ _ h
  simpa using this
theorem j72 {str:Bool} {k:Value} {es:List (List AV)} {i:Nat} {r:Option (Nat × Value)} (h:b3p str k es i=some r):es.head?≠some []:=by
 intro e
 cases es with
 | nil=>cases e
 | cons a l=>simp at e; subst e; simp [b3p] at h
theorem d1g (em:Bool):∀ (d:Nat) (t:TypeId) (ks:List FK),b2m P d t=some ks->∀ dd,d<=dd->∀ (xs:List Value),xs.length=ks.length->(Instr.checkKey em dd t (b4l P t xs)).run P w = .ok () w
 | 0,t,ks,h,_,_,_,_=>by simp [b2m] at h
 | d+1,t,ks,h,dd,hdd,xs,hx=>by
  obtain ⟨dd,rfl⟩:∃ k,dd=k+1:=⟨dd - 1,by omega⟩
  unfold b2m at h
  cases hu:P.underlying t with
  | none=>simp [hu] at h
  | some kd =>
   simp only [hu] at h
   cases kd with
   | bool=>simp [Instr.checkKey,run_underlying hu]
   | int k=>simp [Instr.checkKey,run_underlying hu]
   | string=>simp [Instr.checkKey,run_underlying hu]
   | struct fs =>
    have hagg:b2c P t=true:=by simp [b2c,hu]
    have hsd:P.stoodInHeld t=false:=by
     cases hh:P.stoodInHeld t with
     | false=>rfl
     | true=>simp [hh] at h
    simp only [hsd,fT9,if_false] at h
    cases hff:b5z P (b2m P d) fs.toList 0 with
    | none=>simp [hff] at h
    | some ks' =>
     simp only [hff,bS9] at h
     split at h
     ·rename_i hsz
      cases h
      clear hsz
      simp only [b4l,hagg,if_true,Instr.checkKey,Sem.run_bind,run_underlying hu,Result.andThen_ok]
      rw [<- Array.forIn_toList]
      have hlx:0+ks.length<=xs.length:=by omega
      clear hu hx hsd
      generalize fs.toList=fl at hff
      generalize 0=n at hff hlx
      induction fl generalizing n ks with
      | nil=>simp
      | cons f fl ih =>
       unfold b5z at hff
       split at hff
       ·rename_i hc
        obtain ⟨hname,hoff⟩:=hc
        cases hft:b2m P d f.type with
        | none=>simp [hft] at hff
        | some k1 =>
         simp only [hft,bS9] at hff
         cases hrest:b5z P (b2m P d) fl (n+k1.length) with
         | none=>simp [hrest] at hff
         | some k2 =>
          simp only [hrest,Option.map_some,iE9] at hff
          subst hff
          simp only [List.length_append] at hlx
          have hpx:=c1c (w:=w) (c2t hft) (c66 hft) (xs:=xs) (off:=n) (by omega) (c2s hft)
          have he:=d1g em d f.type k1 hft dd (by omega) ((xs.drop n).take k1.length) (by simp; omega)
          simp only [List.forIn_cons,Sem.run_bind,hname,ne_eq,not_false_eq_true,if_true,Result.andThen_ok,hoff,hpx,he,Sem.run_pure]
          exact ih _ _ hrest (by omega)
       ·cases hff
     ·cases h
   | array n e =>
    have hagg:b2c P t=true:=by simp [b2c,hu]
    cases hft:b2m P d e with
    | none=>simp [hft] at h
    | some k1 =>
     simp only [hft,Option.map_some,bS9] at h
     split at h
     ·cases h
      have hxl:xs.length=n * k1.length:=by rw [hx,d10]
      simp only [b4l,hagg,if_true,Instr.checkKey,Sem.run_bind,run_underlying hu,Result.andThen_ok]
      simp only [Std.Legacy.Range.forIn_eq_forIn_range',Std.Legacy.Range.size,Nat.sub_zero,Nat.add_one_sub_one,Nat.div_one]
      have each:∀ j∈List.range' 0 n,j<n:=fun j hj=>by simpa using (List.mem_range'.1 hj)
      generalize List.range' 0 n=is at each
      induction is with
      | nil=>simp
      | cons j is ih =>
       have hj:=each j (by simp)
       have hle:(j+1) * k1.length<=n * k1.length:=Nat.mul_le_mul_right _ (by omega)
       rw [Nat.succ_mul] at hle
       have hpx:=c1c (w:=w) (c2t hft) (c66 hft) (xs:=xs) (off:=j * k1.length) (by omega) (c2s hft)
       have he:=d1g em d e k1 hft dd (by omega) ((xs.drop (j * k1.length)).take k1.length) (by simp; omega)
       simp only [List.forIn_cons,Sem.run_bind,b3s (c66 hft),Result.andThen_ok,hpx,he,Sem.run_pure]
       exact ih (fun y hy=>each y (by simp [hy]))
     ·cases h
   | _=>simp at h
theorem j6w {c:AV} (h:d2p c=true):c = .v (unV c):=by cases c <;> simp [d2p] at h; rfl
theorem d3y {n:Int} {x:AV} {v kv:Value} (hx:SimV P w S h loc x v) (hk:b6j n x=some kv):v=kv/\((n=0/\∀ vs,kv≠.agg vs)\/(n≠0/\∃ vs,kv = .agg vs/\(vs.size:Int)=n)):=by
 unfold b6j at hk
 split at hk
 ·rename_i cs
  split at hk
  ·rename_i hc
   cases hk
   obtain ⟨h1,h2,h3⟩:=hc
   cases hx with
   | agg _ vs hl ho hv =>
    refine ⟨?_,.inr ⟨h3,_,rfl,by simpa using h2⟩⟩
    congr 1
    apply Array.ext
    ·simp [hl]
    ·intro i hi1 hi2
     have hi:i<cs.length:=by rw [<- hl]; exact hi1
     have hci:=List.all_eq_true.1 h1 _ (List.getElem_mem hi)
     have := hv i _ (gG9 hi)
     rw [j6w hci] at this
     generalize hq:vs.getD i undef=q at this
     cases this
     simp only [List.getElem_toArray,List.getElem_map]
     rw [<- hq]
     simp [Array.getD,hi1]
  ·cases hk
 ·split at hk
  ·rename_i hc; cases hk; cases hx; exact ⟨rfl,.inr ⟨hc.2,_,rfl,hc.1⟩⟩
  ·cases hk
 ·rename_i x hne
  split at hk
  ·rename_i hc; cases hk; cases hx; exact ⟨rfl,.inl ⟨hc,fun vs e=>hne vs e⟩⟩
  ·cases hk
 ·cases hk
def entryRow (e:MapEntry):List AV:=[AV.v e.val,AV.v e.key]
theorem d1x {str:Bool} {d:TypeDesc} {kv:Value} (hd:(str=true/\d = .string)\/(str=false/\∃ k,d = .int k)) (hn:∀ vs,kv≠.agg vs):∀ (l:List MapEntry) (i:Nat) (r:Option (Nat × Value)),b3p str kv (l.map entryRow) i=some r->Instr.findNow d kv l i=some r
 | [],i,r,h=>by simpa [b3p,Instr.findNow] using h
 | e :: l,i,r,h=>by
  simp only [List.map_cons,entryRow,b3p] at h
  have key:∀ b,b3o str kv e.key=some b->Instr.sameNow d kv e.key=some b:=fun b hb=>by
   unfold b3o at hb
   split at hb
   ·exact absurd rfl (hn _)
   ·cases hb
   ·cases hb
   ·rcases hd with ⟨rfl,rfl⟩|⟨rfl,q,rfl⟩
    ·simp only [if_true] at hb
     unfold feq at hb
     split at hb <;> simp_all
     rename_i a xs b' ys _ _
     simp only [Instr.sameNow,beq_toListBytes]
     split at hb <;> simp_all [feq]
    ·simp only [fT9,if_false] at hb
     unfold feq at hb
     split at hb <;> simp_all
     simp only [Instr.sameNow]
     obtain ⟨h1,h2⟩:=hb
     subst h1
     simp only [if_true]
     split at h2 <;> simp_all [feq]
  split at h
  ·rename_i hb
   simp only [Instr.findNow,key _ hb]; exact h
  ·rename_i hb
   simp only [Instr.findNow,key _ hb]; exact d1x hd hn l (i+1) r h
  ·cases h
theorem d70 {t:TypeId} {ks:List FK} {xs:Array Value} (hf:b2m P 20 t=some ks) (hk:ks=List.replicate ks.length .i) (ha:b2c P t=true) (hx:xs.size=ks.length):∀ (l:List MapEntry) (i:Nat) (r:Option (Nat × Value)),b3p false (.agg xs) (l.map entryRow) i=some r ->
  (Instr.findAsking t (.agg xs) l i).run P w = .ok r w
 | [],i,r,h=>by simp only [List.map_nil,b3p,iE9] at h; subst h; simp [Instr.findAsking]
 | e :: l,i,r,h=>by
  simp only [List.map_cons,entryRow,b3p] at h
  have key:∀ kk b,b3o false (.agg xs) kk=some b->(Op.equal t (.agg xs) kk).run P w = .ok b w:=fun kk b hb=>by
   cases kk
   case agg ys =>
    simp only [b3o] at hb
    split at hb
    ·cases hb
    ·rename_i hc
     have hs:=Classical.not_not.1 (not_or.1 hc).2
     rw [hx,<- hk] at hb
     have := b91 (w:=w) 20 t ks hf 10000 (by omega) xs.toList ys.toList b (by simpa using hx) (by simp; omega) hb
     simpa [b4l,ha,Op.equal,Op.maxDepth] using this
   all_goals simp [b3o] at hb
  split at h
  ·rename_i hb
   simp only [Instr.findAsking,Sem.run_bind,key _ _ hb,Result.andThen_ok,if_true,Sem.run_pure]
   rw [iE9] at h; rw [h]
  ·rename_i hb
   simp only [Instr.findAsking,Sem.run_bind,key _ _ hb,Result.andThen_ok,fT9,if_false]; exact d70 hf hk ha hx l (i+1) r h
  ·cases h
theorem d1y {k:TypeId} {str:Bool} {n:Nat} (hkk:c3q P k=some (str,n)) {kv:Value} (hform:(((n:Nat):Int)=0/\∀ vs,kv≠.agg vs)\/(((n:Nat):Int)≠0/\∃ vs,kv = .agg vs/\(vs.size:Int)=(n:Int))) {l:List MapEntry} {r:Option (Nat × Value)}
  (hfind : b3p str kv (l.map entryRow) 0=some r):(Instr.findKey k kv l).run P w = .ok r w/\∀ em,(Instr.checkKey em 10000 k kv).run P w = .ok () w:=by
 unfold c3q at hkk
 have agg:b2c P k=true->(∃ kd,P.underlying k=some kd/\(match kd with | .array _ _ | .struct _=>true|_=>false)=true)->((b2m P 20 k).bind fun ks=>if ks=List.replicate ks.length FK.i/\1<=ks.length then some (false,ks.length) else none)=some (str,n)->(Instr.findKey k kv l).run P w = .ok r w/\∀ em,(Instr.checkKey em 10000 k kv).run P w = .ok () w:=by
  intro hagg ⟨kd,hu,hkd⟩ hkk
  obtain ⟨ks,hks,hkk⟩:=bE9.1 hkk
  split at hkk
  ·rename_i hc
   simp only [iE9,Prod.mk.injEq] at hkk
   obtain ⟨rfl,rfl⟩:=hkk
   rcases hform with ⟨h0,_⟩|⟨_,vs,rfl,hsz⟩
   ·omega
   ·have hsz':vs.size=ks.length:=by omega
    refine ⟨?_,fun em=>?_⟩
    ·rw [run_findKey_eq w (by rw [hu]; cases kd <;> first|rfl|cases hkd)]
     exact d70 hks hc.1 hagg hsz' l 0 r hfind
    ·have := d1g (w:=w) em 20 k ks hks 10000 (by omega) vs.toList (by simpa using hsz')
     simpa [b4l,hagg] using this
  ·cases hkk
 split at hkk
 ·rename_i hu
  simp only [iE9,Prod.mk.injEq] at hkk
  obtain ⟨rfl,rfl⟩:=hkk
  rcases hform with ⟨_,hne⟩|⟨h0,_⟩
  ·exact ⟨run_findKey hu (d1x (.inl ⟨rfl,rfl⟩) hne l 0 r hfind),fun em=>(show ∀ m,(Instr.checkKey em (m+1) k kv).run P w = .ok () w from fun m=>by simp [Instr.checkKey,run_underlying hu]) 9999⟩
  ·exact absurd rfl h0
 ·rename_i q hu
  simp only [iE9,Prod.mk.injEq] at hkk
  obtain ⟨rfl,rfl⟩:=hkk
  rcases hform with ⟨_,hne⟩|⟨h0,_⟩
  ·exact ⟨run_findKey hu (d1x (.inr ⟨rfl,q,rfl⟩) hne l 0 r hfind),fun em=>(show ∀ m,(Instr.checkKey em (m+1) k kv).run P w = .ok () w from fun m=>by simp [Instr.checkKey,run_underlying hu]) 9999⟩
  ·exact absurd rfl h0
 ·rename_i fs hu; exact agg (by simp [b2c,hu]) ⟨_,hu,rfl⟩ hkk
 ·rename_i m e hu; exact agg (by simp [b2c,hu]) ⟨_,hu,rfl⟩ hkk
 ·cases hkk
theorem d38 {str:Bool} {kv:Value}:∀ (l:List MapEntry) (i j:Nat) (v:Value),b3p str kv (l.map entryRow) i=some (some (j,v))->∃ k e,j=i+k/\l[k]?=some e/\e.val=v/\b3o str kv e.key=some true
 | [],i,j,v,h=>by simp [b3p] at h
 | e :: l,i,j,v,h=>by
  simp only [List.map_cons,entryRow,b3p] at h
  split at h
  ·rename_i hb
   simp only [iE9,Prod.mk.injEq] at h
   exact ⟨0,e,by omega,rfl,h.2,hb⟩
  ·obtain ⟨k,e',h1,h2,h3,h4⟩:=d38 l (i+1) j v h
   exact ⟨k+1,e',by omega,by simpa using h2,h3,h4⟩
  ·cases h
theorem d4a (H:HSim P B S loc h w) {id:Nat} {v:Value} (hx:SimV P w S h loc (.mp id) v) {es:List (List AV)} (ho:h.ob id=some (0,es)) {str:Bool} {kv:Value} {r:Option (Nat × Value)} (hf:b3p str kv es 0=some r) :
  v = .map (some (loc id).1)/\∃ en cl,w.heap[(loc id).1]?=some (.map en cl)/\es=en.toList.map entryRow:=by
 cases hx with
 | mp _ _ hid hs hx =>
  refine ⟨(hx 0 es ho).2,(H.obs id 0 es ho).m rfl (j72 hf)⟩
def g0v:Op->Bool
 | .makeMap .. | .lookup .. | .mapUpdate .. | .insert .. | .convert .. | .makeInterface .. | .panic ..=>true
 | .slice .. | .call { callee:=.builtin .cap,.. } | .call { callee:=.builtin .append,.. } | .call { callee:=.builtin .copy,.. }=>true
 | _=>false
theorem g1v (en:Array MapEntry) (i:Nat) (kv v:Value):((en.modify i fun e=>{ e with key:=kv,val:=v }).toList.map fun e=>[AV.v e.val,AV.v e.key])=(en.toList.map entryRow).set i [AV.v v,AV.v kv]:=by
 apply List.ext_getElem?
 intro j
 simp only [List.getElem?_map,Array.getElem?_toList,Array.getElem?_modify,List.getElem?_set]
 by_cases e:i=j
 ·subst e
  simp only [if_true]
  cases hj:en[i]? with
  | none =>
   have := Array.getElem?_eq_none_iff.1 hj
   rw [if_neg (by simp; omega)]; rfl
  | some x =>
   have := (Array.getElem?_eq_some_iff.1 hj).1
   simp [this]
 ·simp only [if_neg e]; rfl
theorem l5a {t kt et:TypeId} (hu:P.underlying t=some (.map kt et)) {r:Option Value} (hr:∀ v,r=some v->∃ k n,v = .int k n):(Instr.makeMap t r).run P w = .ok (.map (some w.heap.size)) (w.alloc (.map #[] 0)):=by
 cases r with
 | none=>simp [Instr.makeMap]
 | some v=>obtain ⟨k,n,rfl⟩:=hr v rfl; simp [Instr.makeMap,run_underlying hu,asInt,asIntOf]
def c9q (z:Value):Option (Nat × Value)->Value
 | some (_,v)=>v
 | none=>z
theorem l46 {t kt et:TypeId} (hu:P.underlying t=some (.map kt et)) {b:Nat} {en:Array MapEntry} {cl:Nat} (hb:w.heap[b]?=some (.map en cl)) {key z:Value} (hz:(P.info? et).bind (·.zero)=some z) {r:Option (Nat × Value)}
  (hf : (Instr.findKey kt key en.toList).run P w = .ok r w) (hc:∀ em,(Instr.checkKey em 10000 kt key).run P w = .ok () w) (two:Bool) :
  (Instr.lookup t (.map (some b)) key two).run P w = .ok (if two then .tuple #[(c9q z r),.bool r.isSome] else (c9q z r)) w:=by
 obtain ⟨i,hi,hz⟩:=bE9.1 hz
 have hzv:(zeroValue et).run P w = .ok z w:=by simp [zeroValue,typeInfo,hi,hz]
 unfold Instr.lookup
 simp only [Sem.run_bind,run_underlying hu,Result.andThen_ok,Go.MapKept.run_getObj_map hb,Sem.run_pure,hc,hf]
 cases r with
 | none=>simp only [Sem.run_bind,hzv,Result.andThen_ok,Sem.run_pure]; cases two <;> rfl
 | some p=>simp only [Result.andThen_ok,Sem.run_pure]; cases two <;> rfl
theorem g22 {t kt et:TypeId} (hu:P.underlying t=some (.map kt et)) {b:Nat} {en:Array MapEntry} {cl:Nat} (hb:w.heap[b]?=some (.map en cl)) {key v:Value} {r:Option (Nat × Value)}
  (hf : (Instr.findKey kt key en.toList).run P w = .ok r w) (hc:∀ em,(Instr.checkKey em 10000 kt key).run P w = .ok () w) (hs:∀ i x,r=some (i,x)->Instr.sameBits 10000 (((en[i]?).map (·.key)).getD key) key=true) :
  (Instr.mapUpdate t (.map (some b)) key v).run P w = .ok () { w with heap:=w.heap.setIfInBounds b (match (generalizing:=false) r with|some (i,_)=>.map (en.modify i fun e=>{ e with key:=key,val:=v }) cl|none=>.map (en.push { key:=key,val:=v,born:=cl }) (cl+1)) }:=by
 unfold Instr.mapUpdate
 simp only [Sem.run_bind,run_underlying hu,Result.andThen_ok,Go.MapKept.run_getObj_map hb,hc,hf]
 cases r with
 | none=>simp only [Go.MapKept.run_setObj_map _ hb]
 | some p =>
  obtain ⟨i,x⟩:=p
  simp only [Instr.keyThatStays,hs i x rfl,if_true,Sem.run_bind,Sem.run_pure,Result.andThen_ok,Go.MapKept.run_setObj_map _ hb]
theorem g5h (z:Value) (n:Nat):Builtin.zeroCells #[z] n=Array.replicate n z:=by
 unfold Builtin.zeroCells
 apply Array.ext
 ·simp
 ·intro i h1 h2
  simp [Nat.mod_one]
theorem l4y {t u ty e:Nat} {q:IntKind} {z:Value} {bytes:Nat} (ht:P.underlying t=some (.slice e)) (hu:P.underlying u=some (.int q)) (hs:b1x P e=some 1) (hz:b3v P e=some [z]) (ha:b2c P e=false) (hb:b5e P e=some bytes) (hby:bytes<=16) {k:IntKind} {n:Int} (h0:0<n) (hfit:n * 16<=2 ^ 40) :
  ∃ arr:Array Value,(Builtin.append_ #[t,u] ty #[.slice none 0 0,.int k n]).run P w = .ok (.slice (some ⟨w.heap.size,0,none⟩) n.toNat (grownCap w n.toNat 0 e)) (w.drew.alloc (.cells arr e))/\arr.size=grownCap w n.toNat 0 e/\n.toNat<=grownCap w n.toNat 0 e/\grownCap w n.toNat 0 e<=maxLen/\(∀ j,j<n.toNat->arr[j]?=some z):=by
 obtain ⟨i,z',hi,his,hzo,hzl,hone⟩:=E96 hs hz
 have hz':z'.cells=#[z]:=by apply Array.ext'; exact hzl.symm
 have hbi:i.bytes=bytes:=by simpa [b5e,hi] using hb
 have hw:IntKind.i64.wrap n=n:=by
  unfold IntKind.wrap
  simp only [IntKind.bits,IntKind.signed,Bool.true_and]
  split <;> rename_i h <;> simp at h <;> omega
 have hge:=grownCap_ge w n.toNat 0 e
 have hmx:=grownCap_le_maxLen w n.toNat 0 e (by unfold maxLen; omega)
 have hfits:Builtin.nextslicecap n.toNat 0 * bytes<=281474976710656:=d1z (by omega) (by
  have : n.toNat * bytes<=n.toNat * 16:=Nat.mul_le_mul_left _ hby
  omega)
 have hn:¬ (n.toNat=0):=by omega
 have h1:¬ (n<0):=by omega
 have h2:¬ (281474976710656<n * (i.bytes:Int)):=by
  have : n * (i.bytes:Int)<=n * 16:=Int.mul_le_mul_of_nonneg_left (by omega) (by omega)
  omega
 have h3:¬ (9223372036854775807<(n.toNat:Int)):=by omega
 have h4:¬ (281474976710656<Builtin.nextslicecap n.toNat 0 * i.bytes):=by rw [hbi]; omega
 refine ⟨Array.replicate (grownCap w n.toNat 0 e) z,?_,by simp,hge,hmx,fun j hj=>by rw [Array.getElem?_replicate,if_pos (by omega)]⟩
 have e1:#[]++Builtin.zeroCells z'.cells n.toNat++Builtin.zeroCells z'.cells (grownCap w n.toNat 0 e - n.toNat)=Array.replicate (grownCap w n.toNat 0 e) z:=by
  rw [hz',g5h,g5h,Array.empty_append,Array.replicate_append_replicate,Nat.add_sub_cancel' hge]
 have h5:¬ (n<=0):=by omega
 have h6:¬ (9223372036854775807<max n 0):=by omega
 rw [<- e1]
 simp [Builtin.append_,run_underlying ht,run_underlying hu,sizeOf,typeInfo,zeroValue,hi,hzo,his,asInt,asIntOf,hw,h1,h2,hn,h3,h4,h5,h6,Question.forced,newRow,grownCap,Builtin.firstCells]
def b9n (s:ByteArray):List (List AV):=s.data.toList.map fun b=>[AV.v (.int .u8 b.toNat)]
theorem j1c {s:ByteArray} {w':World} {S':Nat->Prop} {b cap:Nat} {ty:TypeId} {fr:Nat × Nat} (hS:S' b) (hb:w'.heap[b]?=some (.cells (bytesRow s cap) ty fr)) (hge:s.size<=cap):SimV P w' S' h loc (.fs 1 (b9n s)) (.slice (some ⟨b,0,none⟩) s.size cap):=by
 have hlen:(b9n s).length=s.size:=by unfold b9n; rw [List.length_map,Array.length_toList]; rfl
 have hat:∀ i j c,at2 (b9n s) i j=some c->j=0/\i<s.size/\∃ x,s.data.toList[i]?=some x/\c = .v (.int .u8 x.toNat):=fun i j c hc=>by
  unfold b9n at hc
  obtain ⟨ee,he1,he2⟩:=P1m hc
  rw [List.getElem?_map] at he1
  cases hb:s.data.toList[i]? with
  | none=>rw [hb] at he1; cases he1
  | some x =>
   rw [hb] at he1
   simp only [Option.map_some,iE9] at he1
   subst he1
   cases j with
   | zero =>
    simp only [List.getElem?_cons_zero,iE9] at he2
    refine ⟨rfl,?_,x,rfl,he2.symm⟩
    have := (gS9.1 hb).1
    rw [Array.length_toList] at this; exact this
   | succ j=>simp at he2
 rw [<- hlen]
 refine .fs 1 _ b 0 cap (by rw [hlen]; exact hge) hS (fun e he=>by unfold b9n at he; obtain ⟨b,_,rfl⟩:=List.mem_map.1 he; rfl) (fun i _=>match s.data.toList[i]? with|some x=>.int .u8 x.toNat|none=>undef) (fun i j c hc=>?_) (fun i j c hc=>?_) (fun i j c hc=>?_)
 ·obtain ⟨rfl,hi,x,hx,rfl⟩:=hat i j c hc
  rw [b8a hb]
  simp only [hx]
  unfold bytesRow
  have hi':i<(s.data.map fun b=>Value.int .u8 b.toNat).size:=by rw [Array.size_map]; exact hi
  rw [show 0+i * 1+0=i by omega,Array.getElem?_append_left hi',Array.getElem?_map,<- Array.getElem?_toList,hx]
  rfl
 ·obtain ⟨rfl,hi,x,hx,rfl⟩:=hat i j c hc
  simp only [hx]; rfl
 ·obtain ⟨rfl,hi,x,hx,rfl⟩:=hat i j c hc
  simp only [hx]; exact .v _
theorem j70 {a b c:AV} {h h':Heap} {r:AV} (he:b2i .ax [a,b,c] h=some (r,h')):∃ k n z,a = .v (.slice none 0 0)/\b = .v (.int k n)/\c = .v z/\0<n/\n * 16<=2 ^ 40/\r = .rs h.nx 0 n.toNat/\h'=h.new (1,List.replicate n.toNat [.v z]):=by
 unfold b2i at he
 split at he
 all_goals first
  | (rename_i e1 e2; cases e1; done)
  | skip
 ·rename_i k n z e1 e2
  cases e2
  split at he
  ·rename_i hc
   simp only [iE9,Prod.mk.injEq] at he
   exact ⟨k,n,z,rfl,rfl,rfl,hc.1,hc.2,he.1.symm,he.2.symm⟩
  ·cases he
 ·cases he
theorem j71 {a:AV} {h h':Heap} {r:AV} (he:b2i .cap [a] h=some (r,h')):a = .v (.slice none 0 0)/\r = .v (.int .i64 0)/\h'=h:=by
 unfold b2i at he
 split at he
 all_goals first
  | (rename_i e1 e2; cases e1; done)
  | skip
 ·rename_i e1 e2
  cases e2
  simp only [iE9,Prod.mk.injEq] at he
  exact ⟨rfl,he.1.symm,he.2.symm⟩
 ·cases he
theorem N6x {a b c:AV} {h h':Heap} {r:AV} (he:b2i .tl [a,b,c] h=some (r,h')):∃ id lo len k n o l,a = .rs id lo len/\c = .v (.int k n)/\h.ob id=some o/\b5d 0 (some b)=some l/\o.1≠0/\(o.1:Int)=n/\lo+len<=o.2.length/\l<=len/\r = .rs h.nx 0 (len - l)/\h'=(h.upd id none).new (o.1,((o.2.drop lo).take len).drop l):=by
 unfold b2i at he
 split at he
 all_goals first
  | (rename_i e1 e2; cases e1; done)
  | skip
 ·rename_i id lo len x k n e1 e2
  cases e2
  simp only [bE9] at he
  obtain ⟨o,ho,l,hl,he⟩:=he
  split at he
  ·rename_i hc
   simp only [iE9,Prod.mk.injEq] at he
   exact ⟨id,lo,len,k,n,o,l,rfl,rfl,ho,hl,hc.1,hc.2.1,hc.2.2.1,hc.2.2.2,he.1.symm,he.2.symm⟩
  ·cases he
 ·cases he
theorem N6w {a b:AV} {h h':Heap} {r:AV} (he:b2i .cp [a,b] h=some (r,h')):∃ id lo len es rows,a = .rs id lo len/\h.ob id=some (1,es)/\N0f h b=some rows/\lo+len<=es.length/\r = .v (.int .i64 (Nat.min rows.length len:Nat)) /\
  h' = h.upd id (some (1,es.take lo++rows.take (Nat.min rows.length len)++es.drop (lo+Nat.min rows.length len))):=by
 unfold b2i at he
 split at he
 all_goals first
  | (rename_i e1 e2; cases e1; done)
  | skip
 ·rename_i id lo len y e1 e2
  cases e2
  simp only [bE9] at he
  obtain ⟨o,ho,rows,hr,he⟩:=he
  split at he
  ·rename_i hc
   simp only [iE9,Prod.mk.injEq] at he
   obtain ⟨sz,es⟩:=o
   simp only at hc he
   obtain ⟨rfl,hc⟩:=hc
   exact ⟨id,lo,len,es,rows,rfl,ho,hr,hc,he.1.symm,he.2.symm⟩
  ·cases he
 ·cases he
theorem N4z (H:HSim P B S loc h w) {a:AV} {v:Value} (hx:SimV P w S h loc a v) {rows:List (List AV)} (hr:N0f h a=some rows):N1d P w S h loc rows v:=by
 cases a <;> try (cases hr; done)
 case fs sz es =>
  simp only [N0f] at hr
  split at hr
  ·rename_i hc
   obtain ⟨rfl,h0⟩:=hc
   cases hr
   exact N4y hx h0
  ·cases hr
 case rs id lo len =>
  simp only [N0f,bE9] at hr
  obtain ⟨⟨sz,es⟩,ho,hr⟩:=hr
  split at hr
  ·rename_i hc
   simp only at hc hr
   obtain ⟨rfl,h0⟩:=hc
   cases hr
   exact N40 H hx ho h0
  ·cases hr
theorem j75 (H:HSim P B S loc h w) (hB:B<=w.heap.size) {o:Oper} {op:XOp} {bf:List Nat} {ρ:Operand->Value} {ev:X->AV}
  (hc : b1e P bf o.dst o.op=some op) (hsp:op.special=true) (hm:g0v o.op=true) (hev:∀ x y,b1f P x=some y->SimV P w S h loc (ev y) (ρ x)) (hcv:∀ v,ev (.c v) = .v v) (hρ:∀ v,ρ (.const v)=v) :
  ∃ f xs k,op = .callw f xs/\b2k f=some k/\k≠.dyn/\∀ r h',¬ h.us h.nx->b2i k (xs.map ev) h=some (r,h')->b4k P B S loc h w (execOp ρ o) r h':=by
 obtain ⟨dst,op0,type,pos,after,guard⟩:=o
 simp only at hc hm
 unfold execOp
 cases op0 with
 | makeMap t rs =>
  have key:∃ kt et,P.underlying t=some (.map kt et)/\op = .callw "#mk" []/\∀ v,rs.map ρ=some v->∃ k n,v = .int k n:=by
   simp only [b1e] at hc
   split at hc
   ·rename_i h1; cases hc; exact ⟨_,_,h1,rfl,fun v hv=>by cases hv⟩
   ·rename_i k n h1; cases hc; exact ⟨_,_,h1,rfl,fun v hv=>⟨k,n,by simp only [Option.map_some,hρ,iE9] at hv; exact hv.symm⟩⟩
   ·cases hc
  obtain ⟨kt,et,hu,rfl,hr⟩:=key
  refine ⟨_,_,.mk,rfl,by simp [b2k],(fun e=>by cases e),fun r h' hnx he=>?_⟩
  simp only [b2i,List.map_nil,iE9,Prod.mk.injEq] at he
  obtain ⟨rfl,rfl⟩:=he
  refine ⟨.value (.map (some w.heap.size)),_,_,_,_,?_,.inl rfl,Upd.newM H hnx hB,.mp h.nx _ (.inl rfl) ⟨_,rfl⟩ fun sz es he=>?_⟩
  ·simp [l5a hu hr]
  ·simp only [Heap.new,if_true,iE9,Prod.mk.injEq] at he
   exact ⟨he.1.symm,by rw [b62]⟩
 | lookup t m x two =>
  simp only [b1e,Option.bind_eq_bind] at hc
  split at hc
  ·rename_i kt et hu
   simp only [bE9,Option.pure_def,iE9] at hc
   obtain ⟨⟨str,n⟩,hkk,z,hz,ym,hym,yx,hyx,rfl⟩:=hc
   refine ⟨_,_,.look str two,rfl,by cases str <;> cases two <;> simp [b2k],(fun e=>by cases e),fun r h' hnx he=>?_⟩
   have hz':(P.info? et).bind (·.zero)=some z:=by
    obtain ⟨a,h1,h2⟩:=hz; rw [h1]; exact h2
   simp only [List.map_cons,List.map_nil,hcv] at he
   have hsm:=hev _ _ hym
   have hsx:=hev _ _ hyx
   generalize ev ym=am at he hsm
   generalize ev yx=ax at he hsx
   cases am <;> try (simp only [b2i,reduceCtorEq] at he; done)
   rename_i id
   simp only [b2i,bE9] at he
   obtain ⟨⟨sz,es⟩,ho,kv,hkv,he⟩:=he
   split at he
   ·rename_i h0
    simp only at h0; subst h0
    simp only [mE9,Prod.mk.injEq] at he
    obtain ⟨q,hq,rfl,rfl⟩:=he
    obtain ⟨hk1,hk2⟩:=d3y hsx hkv
    obtain ⟨hr1,en,cl,hb,rfl⟩:=d4a H hsm ho hq
    obtain ⟨hfk,hck⟩:=d1y (w:=w) hkk hk2 hq
    have hrun:=l46 hu hb hz' hfk hck two
    refine ⟨.value (if two then .tuple #[(c9q z q),.bool q.isSome] else (c9q z q)),_,w,S,loc,?_,.inl rfl,.refl H,?_⟩
    ·show ((do pure (.value (<- Instr.lookup t (ρ m) (ρ x) two)):Sem Next)).run P w=_
     rw [hr1,hk1]
     simp only [Sem.run_bind,hrun,Result.andThen_ok,Sem.run_pure]
    ·unfold c7u
     cases q with
     | none =>
      cases two
      ·exact .v _
      ·refine .tup _ _ rfl fun i c hc=>?_
       match i,hc with
       | 0,hc=>simp at hc; subst hc; exact .v _
       | 1,hc=>simp at hc; subst hc; exact .v _
       | i+2,hc=>simp at hc
     | some p =>
      cases two
      ·exact .v _
      ·refine .tup _ _ rfl fun i c hc=>?_
       match i,hc with
       | 0,hc=>simp at hc; subst hc; exact .v _
       | 1,hc=>simp at hc; subst hc; exact .v _
       | i+2,hc=>simp at hc
   ·cases he
  ·cases hc
 | mapUpdate t m x v =>
  simp only [b1e,Option.bind_eq_bind] at hc
  split at hc
  ·rename_i kt et hu
   simp only [bE9,Option.pure_def,iE9] at hc
   obtain ⟨⟨str,n⟩,hkk,ym,hym,yx,hyx,yv,hyv,rfl⟩:=hc
   refine ⟨_,_,.put str,rfl,by cases str <;> simp [b2k],(fun e=>by cases e),fun r h' hnx he=>?_⟩
   simp only [List.map_cons,List.map_nil,hcv] at he
   have hsm:=hev _ _ hym
   have hsx:=hev _ _ hyx
   have hsv:=hev _ _ hyv
   generalize ev ym=am at he hsm
   generalize ev yx=ax at he hsx
   generalize ev yv=av at he hsv
   cases am <;> try (simp only [b2i,reduceCtorEq] at he; done)
   cases av <;> try (simp only [b2i,reduceCtorEq] at he; done)
   rename_i id vv
   simp only [b2i,bE9] at he
   obtain ⟨⟨sz,es⟩,ho,kv,hkv,he⟩:=he
   split at he
   ·rename_i h0
    simp only at h0; subst h0
    simp only [mE9,Prod.mk.injEq] at he
    obtain ⟨q,hq,rfl,rfl⟩:=he
    obtain ⟨hk1,hk2⟩:=d3y hsx hkv
    obtain ⟨hr1,en,cl,hb,rfl⟩:=d4a H hsm ho hq
    obtain ⟨hfk,hck⟩:=d1y (w:=w) hkk hk2 hq
    have hvv:ρ v=vv:=by generalize ρ v=u at hsv; cases hsv; rfl
    have hsame:∀ i x,q=some (i,x)->Instr.sameBits 10000 (((en[i]?).map (·.key)).getD kv) kv=true:=fun i x hi=>by
     subst hi
     obtain ⟨k,e,h1,h2,h3,h4⟩:=d38 _ _ _ _ hq
     rw [Nat.zero_add] at h1; subst h1
     have h2':en[i]?=some e:=by rw [<- Array.getElem?_toList]; exact h2
     have := g07 h4
     rw [h2',Option.map_some,Option.getD_some,<- this]
     rw [<- this] at h4
     exact g06 h4
    have hrun:=g22 (v:=vv) hu hb hfk hck hsame
    cases q with
    | none =>
     have hp:=Upd.putM H ho hb (en.push { key:=kv,val:=vv,born:=cl }) (cl+1)
     have e1:((en.push { key:=kv,val:=vv,born:=cl }).toList.map fun e=>[AV.v e.val,AV.v e.key])=b6l (en.toList.map entryRow) kv vv none:=by
      simp [b6l,entryRow]
     rw [e1] at hp
     refine ⟨.skip,undef,_,_,_,?_,.inr ⟨rfl,rfl⟩,hp,.dead _⟩
     show ((do Instr.mapUpdate t (ρ m) (ρ x) (ρ v); pure .skip:Sem Next)).run P w=_
     rw [hr1,hk1,hvv]
     simp only [Sem.run_bind,hrun,Result.andThen_ok,Sem.run_pure]
    | some p =>
     obtain ⟨i,x0⟩:=p
     have hp:=Upd.putM H ho hb (en.modify i fun e=>{ e with key:=kv,val:=vv }) cl
     rw [g1v] at hp
     refine ⟨.skip,undef,_,_,_,?_,.inr ⟨rfl,rfl⟩,hp,.dead _⟩
     show ((do Instr.mapUpdate t (ρ m) (ρ x) (ρ v); pure .skip:Sem Next)).run P w=_
     rw [hr1,hk1,hvv]
     simp only [Sem.run_bind,hrun,Result.andThen_ok,Sem.run_pure]
   ·cases he
  ·cases hc
 | insert t m x v =>
  simp only [b1e,Option.bind_eq_bind] at hc
  split at hc
  ·rename_i kt et hu
   simp only [bE9,Option.pure_def,iE9] at hc
   obtain ⟨⟨str,n⟩,hkk,ym,hym,yx,hyx,yv,hyv,rfl⟩:=hc
   refine ⟨_,_,.put str,rfl,by cases str <;> simp [b2k],(fun e=>by cases e),fun r h' hnx he=>?_⟩
   simp only [List.map_cons,List.map_nil,hcv] at he
   have hsm:=hev _ _ hym
   have hsx:=hev _ _ hyx
   have hsv:=hev _ _ hyv
   generalize ev ym=am at he hsm
   generalize ev yx=ax at he hsx
   generalize ev yv=av at he hsv
   cases am <;> try (simp only [b2i,reduceCtorEq] at he; done)
   cases av <;> try (simp only [b2i,reduceCtorEq] at he; done)
   rename_i id vv
   simp only [b2i,bE9] at he
   obtain ⟨⟨sz,es⟩,ho,kv,hkv,he⟩:=he
   split at he
   ·rename_i h0
    simp only at h0; subst h0
    simp only [mE9,Prod.mk.injEq] at he
    obtain ⟨q,hq,rfl,rfl⟩:=he
    obtain ⟨hk1,hk2⟩:=d3y hsx hkv
    obtain ⟨hr1,en,cl,hb,rfl⟩:=d4a H hsm ho hq
    obtain ⟨hfk,hck⟩:=d1y (w:=w) hkk hk2 hq
    have hvv:ρ v=vv:=by generalize ρ v=u at hsv; cases hsv; rfl
    have hsame:∀ i x,q=some (i,x)->Instr.sameBits 10000 (((en[i]?).map (·.key)).getD kv) kv=true:=fun i x hi=>by
     subst hi
     obtain ⟨k,e,h1,h2,h3,h4⟩:=d38 _ _ _ _ hq
     rw [Nat.zero_add] at h1; subst h1
     have h2':en[i]?=some e:=by rw [<- Array.getElem?_toList]; exact h2
     have := g07 h4
     rw [h2',Option.map_some,Option.getD_some,<- this]
     rw [<- this] at h4
     exact g06 h4
    have hrun:=g22 (v:=vv) hu hb hfk hck hsame
    cases q with
    | none =>
     have hp:=Upd.putM H ho hb (en.push { key:=kv,val:=vv,born:=cl }) (cl+1)
     have e1:((en.push { key:=kv,val:=vv,born:=cl }).toList.map fun e=>[AV.v e.val,AV.v e.key])=b6l (en.toList.map entryRow) kv vv none:=by
      simp [b6l,entryRow]
     rw [e1] at hp
     refine ⟨.skip,undef,_,_,_,?_,.inr ⟨rfl,rfl⟩,hp,.dead _⟩
     show ((do Instr.mapUpdate t (ρ m) (ρ x) (ρ v); pure .skip:Sem Next)).run P w=_
     rw [hr1,hk1,hvv]
     simp only [Sem.run_bind,hrun,Result.andThen_ok,Sem.run_pure]
    | some p =>
     obtain ⟨i,x0⟩:=p
     have hp:=Upd.putM H ho hb (en.modify i fun e=>{ e with key:=kv,val:=vv }) cl
     rw [g1v] at hp
     refine ⟨.skip,undef,_,_,_,?_,.inr ⟨rfl,rfl⟩,hp,.dead _⟩
     show ((do Instr.mapUpdate t (ρ m) (ρ x) (ρ v); pure .skip:Sem Next)).run P w=_
     rw [hr1,hk1,hvv]
     simp only [Sem.run_bind,hrun,Result.andThen_ok,Sem.run_pure]
   ·cases he
  ·cases hc
 | slice t x lo hi mx =>
  cases mx with
  | some _=>simp [b1e] at hc
  | none =>
   simp only [b1e] at hc
   split at hc
   ·rename_i e ht
    simp only [Option.bind_eq_bind,bE9] at hc
    obtain ⟨s,hs,l,hl,r2,hr2,hc⟩:=hc
    simp only [Option.pure_def,bE9,iE9] at hc
    obtain ⟨y,hy,hc⟩:=hc
    by_cases hq:(bf.contains 3000001 && l.isSome && r2.isNone)=true
    case neg=>rw [if_neg hq] at hc; subst hc; cases hsp
    rw [if_pos hq] at hc
    subst hc
    simp only [Bool.and_eq_true] at hq
    cases lo with
    | none=>simp [c2c] at hl; subst hl; simp at hq
    | some a =>
     cases hi with
     | some _=>simp only [c2c,mE9] at hr2; obtain ⟨z,_,rfl⟩:=hr2; simp at hq
     | none =>
      simp only [c2c,mE9] at hl
      obtain ⟨z,hz,rfl⟩:=hl
      refine ⟨_,_,.tl,rfl,by simp [b2k],(fun e=>by cases e),fun r h' hnx he=>?_⟩
      have hsy:=hev _ _ hy
      have hsz:=hev _ _ hz
      simp only [Option.toList,List.cons_append,List.nil_append,List.map_cons,List.map_nil,hcv] at he
      obtain ⟨id,lo',len,k,n,⟨sz,es⟩,l,e1,e2,ho,hlb,h0,hn,hwin,hll,rfl,rfl⟩:=N6x he
      cases e2
      rw [e1] at hsy
      exact (N67 H hnx ht hs hsy ho (by simp only at hn; omega) h0 hwin hsz hlb hll).next
   ·cases hc
 | makeInterface t x =>
  simp only [b1e,iE9] at hc; subst hc
  exact ⟨_,_,.no,rfl,by simp [b2k],(fun e=>by cases e),fun r h' _ he=>by simp [b2i] at he⟩
 | panic x =>
  simp only [b1e,iE9] at hc; subst hc
  exact ⟨_,_,.no,rfl,by simp [b2k],(fun e=>by cases e),fun r h' _ he=>by simp [b2i] at he⟩
 | convert src d x =>
  simp only [b1e] at hc
  split at hc
  ·simp only [bE9] at hc
   obtain ⟨y,_,hc⟩:=hc
   split at hc
   ·cases hc; cases hsp
   ·cases hc
  ·rename_i e hd
   split at hc
   ·rename_i hs he8
    simp only [mE9] at hc
    obtain ⟨y,hy,rfl⟩:=hc
    refine ⟨_,_,.sb,rfl,by simp [b2k],(fun e=>by cases e),fun r h' hnx he=>?_⟩
    have hsy:=hev _ _ hy
    simp only [List.map_cons,List.map_nil] at he
    generalize ev y=a at he hsy
    cases a <;> try (simp only [b2i,reduceCtorEq] at he; done)
    rename_i v0
    cases v0 <;> try (simp only [b2i,reduceCtorEq] at he; done)
    rename_i s
    simp only [b2i,iE9,Prod.mk.injEq] at he
    obtain ⟨rfl,rfl⟩:=he
    have hx:ρ x = .string s:=by generalize ρ x=q at hsy; cases hsy; rfl
    have hrun:=run_bytes_of_string (P:=P) w src d e s hs hd he8
    have u1:=Upd.drew H
    have u2:=Upd.newF u1.hs (w:=w.drew) hB (.cells (bytesRow s (grownCap w s.size 0 e)) e ((bytesRow s (grownCap w s.size 0 e)).size,(bytesRow s (grownCap w s.size 0 e)).size+1))
    have hge:=grownCap_ge w s.size 0 e
    refine ⟨.value (.slice (some ⟨w.heap.size,0,none⟩) s.size (grownCap w s.size 0 e)),_,_,_,_,?_,.inl rfl,u1.trans u2,?_⟩
    rotate_left
    ·exact j1c (ty:=e) (fr:=((bytesRow s (grownCap w s.size 0 e)).size,(bytesRow s (grownCap w s.size 0 e)).size+1)) (.inr rfl) (by show (w.heap.push _)[w.heap.size]?=_; rw [Array.getElem?_push_size]) hge
    ·show ((do pure (.value (<- convert src d (ρ x))):Sem Next)).run P w=_
     rw [hx]
     simp only [Sem.run_bind,hrun,Result.andThen_ok,Sem.run_pure]
   ·cases hc
  ·rename_i hd
   split at hc
   ·rename_i ks hs
    simp only [mE9] at hc
    obtain ⟨y,hy,rfl⟩:=hc
    refine ⟨_,_,.chr,rfl,by simp [b2k],(fun e=>by cases e),fun r h' hnx he=>?_⟩
    have hsy:=hev _ _ hy
    simp only [List.map_cons,List.map_nil] at he
    generalize ev y=a at he hsy
    cases a <;> try (simp only [b2i,reduceCtorEq] at he; done)
    rename_i v0
    cases v0 <;> try (simp only [b2i,reduceCtorEq] at he; done)
    rename_i kk n
    simp only [b2i,iE9,Prod.mk.injEq] at he
    obtain ⟨rfl,rfl⟩:=he
    have hx:ρ x = .int kk n:=by generalize ρ x=q at hsy; cases hsy; rfl
    refine ⟨.value (.string (Utf8.encode n)),_,_,_,_,?_,.inl rfl,.refl H,.v _⟩
    show ((do pure (.value (<- convert src d (ρ x))):Sem Next)).run P w=_
    rw [hx]
    simp [convert,underlying,hs,hd,Conv.intToString]
   ·cases hc
  ·cases hc
 | call c =>
  obtain ⟨callee,args,argTypes⟩:=c
  have hb:∀ {b:Builtin} {m:Sem Value} {v:Value} {w':World},builtin b argTypes type (args.map fun | .const _=>true|_=>false) (args.map ρ)=(do pure (.value (<- m)))->m.run P w = .ok v w' ->
    (do let d <- resolve ρ ⟨.builtin b,args,argTypes⟩ type; invoke d.target d.args:Sem Next).run P w = .ok (.value v) w':=by
   intro b m v w' hm hr
   have : (builtin b argTypes type (args.map fun | .const _=>true|_=>false) (args.map ρ)).run P w = .ok (.value v) w':=by
    rw [hm]; simp only [Sem.run_bind,hr,Result.andThen_ok,Sem.run_pure]
   rw [<- this]
   simp only [resolve,Sem.run_bind,Sem.run_pure,Result.andThen_ok,invoke]
   rfl
  cases callee with
  | invoke _ _=>cases hm
  | value f=>cases hm
  | builtin b =>
   cases b <;> try (cases hm; done)
   ·-- append
    simp only [b1e] at hc
    split at hc
    ·rename_i s x t u hx ht
     rw [c9o hx,c9o ht] at hb ⊢
     split at hc
     ·exfalso
      simp only [Option.bind_eq_bind,bE9] at hc
      obtain ⟨sz,_,zs,_,by_,_,hc⟩:=hc
      split at hc
      ·simp only [bE9,Option.pure_def,iE9] at hc
       obtain ⟨_,_,_,_,rfl⟩:=hc
       cases hsp
      ·cases hc
     ·rename_i e q hu1 hu2
      simp only [Option.bind_eq_bind,bE9] at hc
      obtain ⟨sz,hsz,zs,hz,by_,hby,hc⟩:=hc
      split at hc
      ·rename_i z
       split at hc
       ·rename_i hcond
        obtain ⟨rfl,hb16,hagg⟩:=hcond
        simp only [bE9,mE9] at hc
        obtain ⟨ys,hys,yx,hyx,rfl⟩:=hc
        refine ⟨_,_,.ax,rfl,by simp [b2k],(fun e=>by cases e),fun r h' hnx he=>?_⟩
        have hss:=hev _ _ hys
        have hsx:=hev _ _ hyx
        simp only [List.map_cons,List.map_nil,hcv] at he
        obtain ⟨k,n,z',e1,e2,e3,h0,hfit,rfl,rfl⟩:=j70 he
        cases e3
        rw [e1] at hss
        rw [e2] at hsx
        have hs1:ρ s = .slice none 0 0:=by generalize ρ s=q at hss; cases hss; rfl
        have hx1:ρ x = .int k n:=by generalize ρ x=q at hsx; cases hsx; rfl
        obtain ⟨arr,hrun,hsz2,hge,hmx,hz2⟩:=l4y (w:=w) (ty:=type) hu1 hu2 hsz hz hagg hby hb16 (k:=k) h0 hfit
        obtain ⟨_,_,_,_,_,_,hone⟩:=E96 hsz hz
        have u1:=Upd.drew H
        obtain ⟨S',loc',u2,hloc,hsh⟩:=c0n u1.hs (w:=w.drew) hnx hB e 1 (List.replicate n.toNat [AV.v z]) arr (by decide) (fun e he=>by rw [List.eq_of_mem_replicate he]; rfl) (by simp; omega) (fun i j c hc=>by
         obtain ⟨ee,h1,h2⟩:=P1m hc
         have hi:i<n.toNat:=by have:=(gS9.1 h1).1; simpa using this
         have : ee=[AV.v z]:=List.eq_of_mem_replicate (mG9 h1)
         subst this
         cases j with
         | zero =>
          simp at h2; subst h2
          have hg:arr.getD (i * 1+0) undef=z:=by
           have := hz2 i hi
           simp [Array.getD_eq_getD_getElem?,this]
          rw [hg]
          exact ⟨by rw [Nat.mul_one,Nat.add_zero]; exact hz2 i hi,hone z (by simp),.v z⟩
         | succ j=>simp at h2)
        refine ⟨.value (.slice (some ⟨w.heap.size,0,none⟩) n.toNat (grownCap w n.toNat 0 e)),_,_,S',loc',?_,.inl rfl,u1.trans u2,?_⟩
        rotate_left
        ·refine .rs h.nx 0 n.toNat (.slice (some ⟨w.heap.size,0,none⟩) n.toNat (grownCap w n.toNat 0 e)) (.inl rfl) ⟨_,_,rfl⟩ fun sz' es' ho=>?_
         have : (sz',es')=(1,List.replicate n.toNat [AV.v z]):=by simp [Heap.new] at ho; rw [<- ho.1,<- ho.2]
         cases this
         exact ⟨by decide,_,arr.size,by rw [hloc]; simp,hge,hmx,by rw [hloc]; exact hsh,by rw [hloc,hsz2]; simp⟩
        ·exact hb (m:=Builtin.append_ #[t,u] type #[ρ s,ρ x]) (by simp [builtin]) (by rw [hs1,hx1]; exact hrun)
       ·cases hc
      ·cases hc
     ·cases hc
    ·cases hc
   ·-- cap
    simp only [b1e] at hc
    split at hc
    ·rename_i x t hx ht
     rw [c9n hx,c9n ht] at hb ⊢
     split at hc
     ·rename_i e hu
      simp only [mE9] at hc
      obtain ⟨y,hy,rfl⟩:=hc
      refine ⟨_,_,.cap,rfl,by simp [b2k],(fun e=>by cases e),fun r h' hnx he=>?_⟩
      have hsy:=hev _ _ hy
      simp only [List.map_cons,List.map_nil] at he
      obtain ⟨e1,rfl,rfl⟩:=j71 he
      rw [e1] at hsy
      have hx1:ρ x = .slice none 0 0:=by generalize ρ x=q at hsy; cases hsy; rfl
      refine ⟨.value (.int .i64 0),_,w,S,loc,?_,.inl rfl,.refl H,.v _⟩
      exact hb (m:=Builtin.cap_ #[t] type #[ρ x]) (by simp [builtin]) (by rw [hx1]; simp [Builtin.cap_,run_underlying hu,goInt])
     ·cases hc
    ·cases hc
   ·-- copy
    simp only [b1e,Option.bind_eq_bind] at hc
    split at hc
    ·rename_i d s t u hx ht
     rw [c9o hx,c9o ht] at hb ⊢
     split at hc
     ·rename_i e hu
      split at hc
      ·rename_i hsz
       simp only [bE9,mE9] at hc
       obtain ⟨y,hy,z,hz,rfl⟩:=hc
       refine ⟨_,_,.cp,rfl,by simp [b2k],(fun e=>by cases e),fun r h' hnx he=>?_⟩
       have hsy:=hev _ _ hy
       have hsz2:=hev _ _ hz
       simp only [List.map_cons,List.map_nil] at he
       obtain ⟨id,lo,len,es,rows,e1,ho,hr,hwin,rfl,rfl⟩:=N6w he
       rw [e1] at hsy
       obtain ⟨v,w',S',loc',hrun,u1,hv⟩:=N65 (u:=u) (ty:=type) H hu hsz hsy ho hwin (N4z H hsz2 hr)
       exact ⟨.value v,v,w',S',loc',hb (m:=Builtin.copy_ #[t,u] type #[ρ d,ρ s]) (by simp [builtin]) hrun,.inl rfl,u1,hv⟩
      ·cases hc
     ·cases hc
    ·cases hc
 | _=>cases hm
end
end Go.Nw
