/- Closed calls, computed: operations, calls, codes. -/
import Derived.Test.YtojneiildpnpiaaNwRun
import Derived.Test.YtojneiildpnpiaaNwExact
set_option linter.all false
namespace Go.Nw
def d7k (x:X) (ev:X->AV) (h:Heap):Option (AV × Heap):=some (ev x,h)
def d7m (c:X) (a:X) (b:X) (ev:X->AV) (h:Heap):Option (AV × Heap):=match ev c with | .v (.bool t)=>some (if t then ev a else ev b,h)|_=>none
def g93 (x:X) (ev:X->AV) (h:Heap):Option (AV × Heap):=if b2d (ev x)/\(cellsOf (ev x)).isEmpty=false then some (.rp h.nx 0 0,h.new ((cellsOf (ev x)).length,[cellsOf (ev x)])) else none
def g90 (zs:List Value) (ev:X->AV) (h:Heap):Option (AV × Heap):=some (.rp h.nx 0 0,h.new (zs.length,[zs.map .v]))
def g95 (zs:List Value) (parts:List (Nat × Nat × X)) (ev:X->AV) (h:Heap):Option (AV × Heap) :=
  (b6q (parts.map fun p=>(p.1,p.2.1,ev p.2.2))).bind fun ps=>if ps.all fun p=>decide (p.1+p.2.length<=zs.length) then some (.agg (place (zs.map .v) ps),h) else none
def g94 (sz:Nat) (parts:List X) (ev:X->AV) (h:Heap):Option (AV × Heap) :=
  if (parts.map ev).all fun x=>b2d x && (cellsOf x).length == sz then some (.rs h.nx 0 parts.length,h.new (sz,(parts.map ev).map cellsOf)) else none
def K8h (sz:Nat) (parts:List X) (ev:X->AV) (h:Heap):Option (AV × Heap) :=
  if (parts.map ev).all fun x=>b2d x && (cellsOf x).length == sz then some (.fs sz ((parts.map ev).map cellsOf),h) else none
def d7j (agg:Bool) (n:Nat) (a:X) (ev:X->AV) (h:Heap):Option (AV × Heap) :=
  match ev a with
  | .fp cs off=>if agg then (if off+n<=cs.length then some (.agg ((cs.drop off).take n),h) else none) else (cs[off]?).map fun x=>(x,h)
  | .rp id i off=>(h.ob id).bind fun o=>(o.2[i]?).bind fun cs =>
    if agg then (if off+n<=cs.length then some (.agg ((cs.drop off).take n),h) else none) else (cs[off]?).map fun x=>(x,h)
  | _=>none
def j0g (n:Nat) (a:X) (x:X) (ev:X->AV) (h:Heap):Option (AV × Heap) :=
  match ev a with
  | .rp id i off=>(h.ob id).bind fun o=>(o.2[i]?).bind fun cs =>
    if b2d (ev x)/\(cellsOf (ev x)).length=n/\off+n<=cs.length then
     some (.dead,h.upd id (some (o.1,o.2.set i (cs.take off++cellsOf (ev x)++cs.drop (off+n)))))
    else none
  | _=>none
def d7l (x:X) (ev:X->AV) (h:Heap):Option (AV × Heap):=match ev x with | .fp cs off=>some (.fp cs off,h) | .rp id i off=>(h.ob id).bind fun _=>some (.rp id i off,h) | .fn f a b=>some (.fn f a b,h)|_=>none
def c6u (op:BinOp) (k:EqK) (x:X) (y:X) (ev:X->AV) (h:Heap):Option (AV × Heap):=(b3f op k (ev x) (ev y)).map fun r=>(r,h)
def d7n (op:UnOp) (x:X) (ev:X->AV) (h:Heap):Option (AV × Heap):=(b7u op (ev x)).map fun r=>(r,h)
def g96 (k:IntKind) (x:X) (ev:X->AV) (h:Heap):Option (AV × Heap):=match ev x with | .v (.int _ n)=>some (.v (.int k (k.wrap n)),h)|_=>none
def j0d (f:String) (first:List X) (caps:List X) (ev:X->AV) (h:Heap):Option (AV × Heap):=some (.fn f (first.map ev) (caps.map ev),h)
def j0e (sz:Nat) (zs:List Value) (bytes:Nat) (len:X) (cap:X) (ev:X->AV) (h:Heap):Option (AV × Heap) :=
  match ev len,ev cap with
  | .v (.int _ n),.v (.int _ c)=>if n=c/\0<=n/\n * bytes<=2 ^ 47/\n<2 ^ 63 then some (.rs h.nx 0 n.toNat,h.new (sz,List.replicate n.toNat (zs.map .v))) else none
  | _,_=>none
def j0f (n:Nat) (x:X) (lo:Option X) (hi:Option X) (ev:X->AV) (h:Heap):Option (AV × Heap) :=
  (b2x (ev x)).bind fun len =>
  (b5d 0 (lo.map ev)).bind fun l =>
  (b5i len (hi.map ev)).bind fun r =>
  if l<=r then
   match ev x with
   | .fs sz es=>if sz=n then some (.fs sz ((es.take r).drop l),h) else none
   | .rs id lo' _=>(h.ob id).bind fun o=>if (l=0\/l<r)/\o.1=n then some (.rs id (lo'+l) (r - l),h) else none
   | .v (.slice none 0 0)=>some (.v (.slice none 0 0),h)
   | _=>none
  else none
def d7e (off:Nat) (x:X) (ev:X->AV) (h:Heap):Option (AV × Heap):=match ev x with | .fp cs o=>some (.fp cs (o+off),h) | .rp id i o=>(h.ob id).bind fun _=>some (.rp id i (o+off),h)|_=>none
def d7d (agg:Bool) (n:Nat) (off:Nat) (x:X) (ev:X->AV) (h:Heap):Option (AV × Heap):=match ev x with
  | .agg cs=>if agg then (if off+n<=cs.length then some (.agg ((cs.drop off).take n),h) else none) else (cs[off]?).map fun x=>(x,h)
  | _=>none
def d7f (n:Nat) (x:X) (i:X) (ev:X->AV) (h:Heap):Option (AV × Heap):=match ev x,ev i with
  | .fs sz es,.v (.int _ k)=>if sz=n/\0<=k then (es[k.toNat]?).map fun cs=>(.fp cs 0,h) else none
  | .rs id lo len,.v (.int _ k)=>(h.ob id).bind fun o=>if o.1=n/\0<=k/\k<len then some (.rp id (lo+k.toNat) 0,h) else none
  | _,_=>none
def g98 (sz:Nat) (len:Nat) (x:X) (i:X) (ev:X->AV) (h:Heap):Option (AV × Heap):=match ev x,ev i with
  | .fp cs off,.v (.int _ n)=>if 0<=n/\n<len then some (.fp cs (off+n.toNat * sz),h) else none
  | .rp id k off,.v (.int _ n)=>(h.ob id).bind fun _=>if 0<=n/\n<len then some (.rp id k (off+n.toNat * sz),h) else none
  | _,_=>none
def j0a (sz:Nat) (len:Nat) (agg:Bool) (x:X) (i:X) (ev:X->AV) (h:Heap):Option (AV × Heap):=match ev x,ev i with
  | .agg cs,.v (.int _ n)=>if 0<=n/\n<len then (if agg then (if n.toNat * sz+sz<=cs.length then some (.agg ((cs.drop (n.toNat * sz)).take sz),h) else none) else (cs[n.toNat * sz]?).map fun x=>(x,h)) else none
  | _,_=>none
def g99 (x:X) (i:X) (ev:X->AV) (h:Heap):Option (AV × Heap):=match ev x,ev i with
  | .v (.string s),.v (.int _ n)=>if 0<=n then (s.data.toList[n.toNat]?).map fun b=>(.v (.int .u8 b.toNat),h) else none
  | _,_=>none
def d7c (x:X) (i:Nat) (ev:X->AV) (h:Heap):Option (AV × Heap):=match ev x with | .tup vs=>(vs[i]?).map fun x=>(x,h)|_=>none
def d7i (str:Bool) (x:X) (ev:X->AV) (h:Heap):Option (AV × Heap):=if str then (match ev x with | .v (.string s)=>some (.v (.int .i64 s.size),h)|_=>none) else (b2x (ev x)).map fun n:Nat=>(.v (.int .i64 n),h)
def j0c (xs:List X) (ev:X->AV) (h:Heap):Option (AV × Heap):=(b5g b7h (xs.map ev)).map fun r=>(r,h)
def j0b (xs:List X) (ev:X->AV) (h:Heap):Option (AV × Heap):=(b5g b7f (xs.map ev)).map fun r=>(r,h)
def g91 (sz:Nat) (bytes:Nat) (s:X) (x:X) (ev:X->AV) (h:Heap):Option (AV × Heap) :=
  match ev x with
  | .rs id2 lo2 len2 =>
   (h.ob id2).bind fun o2 =>
   match ev s with
   | .v (.slice none 0 0)=>if len2=0 then some (.v (.slice none 0 0),h) else if o2.1=sz/\lo2+len2<=o2.2.length/\len2 * bytes<=2 ^ 40 then some (.rs h.nx 0 len2,h.new (sz,(o2.2.drop lo2).take len2)) else none
   | .rs id lo len=>(h.ob id).bind fun o =>
     if o.1=sz/\o2.1=sz/\id≠id2/\lo+len<=o.2.length/\lo2+len2<=o2.2.length/\(len+len2) * bytes<=2 ^ 40 then
      some (.rs h.nx 0 (len+len2),(h.upd id none).new (sz,(o.2.drop lo).take len++(o2.2.drop lo2).take len2))
     else none
   | _=>none
  | .fs sz2 es =>
   match ev s with
   | .v (.slice none 0 0)=>if es.length=0 then some (.v (.slice none 0 0),h) else if sz2=sz/\es.length * bytes<=2 ^ 40 then some (.rs h.nx 0 es.length,h.new (sz,es)) else none
   | .rs id lo len=>(h.ob id).bind fun o =>
     if o.1=sz/\sz2=sz/\lo+len<=o.2.length/\(len+es.length) * bytes<=2 ^ 40 then
      some (.rs h.nx 0 (len+es.length),(h.upd id none).new (sz,(o.2.drop lo).take len++es))
     else none
   | _=>none
  | .v (.slice none 0 0) =>
   match ev s with
   | .v (.slice none 0 0)=>some (.v (.slice none 0 0),h)
   | .rs id lo len=>(h.ob id).bind fun o =>
     if o.1=sz/\lo+len<=o.2.length/\len * bytes<=2 ^ 40 then
      some (.rs h.nx 0 len,(h.upd id none).new (sz,(o.2.drop lo).take len))
     else none
   | _=>none
  | _=>none
def b8m (x:AV) (no:Unit->Option (AV × Heap)) (k:IntKind->Int->Option (AV × Heap)):Option (AV × Heap):=match x with
 | .v a=>(match a with | .int kd n=>k kd n|_=>no ())
 | _=>no ()
theorem g0m {x:AV} {no:Unit->Option (AV × Heap)} {k:IntKind->Int->Option (AV × Heap)} {r:Option (AV × Heap)} (h0:no ()=r) (h1:∀ kd n,x = .v (.int kd n)->k kd n=r):b8m x no k=r:=by
 unfold b8m
 cases x with
 | v a=>cases a with
  | int kd n=>exact h1 kd n rfl
  | _=>exact h0
 | _=>exact h0
def d1o (op:BinOp) (k:EqK) (x y:X) (ev:X->AV) (h:Heap):Option (AV × Heap) :=
 b8m (ev x) (fun _=>c6u op k x y ev h) fun k1 a=>b8m (ev y) (fun _=>c6u op k x y ev h) fun k2 b=>(b3m op k1 a k2 b).map fun r=>(.v r,h)
theorem g92 {op:BinOp} {k:EqK} {x y:X} {ev:X->AV} {h:Heap}:d1o op k x y ev h=c6u op k x y ev h :=
 g0m rfl fun k1 a hx=>g0m rfl fun k2 b hy=>by
  unfold c6u
  rw [hx,hy]
  show _=(((b3m op k1 a k2 b).map AV.v).map fun r=>(r,h))
  rw [Option.map_map]; rfl
def d7g (n:Nat) (sz:Nat) (es:List (List AV)) (h:Heap) (k:Int):Option (AV × Heap):=if sz=n/\0<=k then (es[k.toNat]?).map fun cs=>(.fp cs 0,h) else none
def d7h (n:Nat) (id lo len:Nat) (h:Heap) (k:Int):Option (AV × Heap):=(h.ob id).bind fun o=>if o.1=n/\0<=k/\k<len then some (.rp id (lo+k.toNat) 0,h) else none
def c6v (n:Nat) (x i:X) (ev:X->AV) (h:Heap):Option (AV × Heap) :=
 match ev x with
 | .fs sz es=>b8m (ev i) (fun _=>none) fun _ k=>d7g n sz es h k
 | .rs id lo len=>b8m (ev i) (fun _=>none) fun _ k=>d7h n id lo len h k
 | _=>none
theorem g97 {n:Nat} {x i:X} {ev:X->AV} {h:Heap}:c6v n x i ev h=d7f n x i ev h:=by
 unfold c6v d7f d7g d7h b8m
 cases ev x <;> try rfl
 all_goals
  cases ev i <;> try rfl
  rename_i a
  cases a <;> rfl
def d7q (op:XOp) (ev:X->AV) (h:Heap):Option (AV × Heap) :=
 match op with
 | .mv x=>d7k x ev h
 | .pick c a b=>d7m c a b ev h
 | .box x=>g93 x ev h
 | .alloc zs=>g90 zs ev h
 | .build zs parts=>g95 zs parts ev h
 | .bsl sz parts=>g94 sz parts ev h
 | .bslF sz parts=>K8h sz parts ev h
 | .load agg n a=>d7j agg n a ev h
 | .store n a x=>j0g n a x ev h
 | .nilck x=>d7l x ev h
 | .bin op k x y=>d1o op k x y ev h
 | .un op x=>d7n op x ev h
 | .cvtI k x=>g96 k x ev h
 | .mkfn f first caps=>j0d f first caps ev h
 | .mksl sz zs bytes len cap=>j0e sz zs bytes len cap ev h
 | .slc n x lo hi=>j0f n x lo hi ev h
 | .fldA off x=>d7e off x ev h
 | .fld agg n off x=>d7d agg n off x ev h
 | .ixA n x i=>c6v n x i ev h
 | .ixP sz len x i=>g98 sz len x i ev h
 | .ixV sz len agg x i=>j0a sz len agg x i ev h
 | .ixS x i=>g99 x i ev h
 | .ext x i=>d7c x i ev h
 | .len str x=>d7i str x ev h
 | .min xs=>j0c xs ev h
 | .max xs=>j0b xs ev h
 | .app sz bytes s x=>g91 sz bytes s x ev h
 | _=>none
theorem b5f (op:XOp) (ev:X->AV) (h:Heap):d7q op ev h=eff op ev h:=by
 cases op
 case bin=>exact g92
 case ixA=>exact g97
 all_goals rfl
def chg (op:XOp) (ev:X->AV):Option Nat:=match op with
 | .store _ a _=>(match ev a with | .rp id _ _=>some id|_=>none)
 | .app _ _ s _=>(match ev s with | .rs id _ _=>some id|_=>none)
 | _=>none
def grow (l:List (Option Ob)) (h':Heap):List (Option Ob):=l++(List.range (h'.nx - l.length)).map fun i=>h'.ob (l.length+i)
def d1p (op:XOp) (ev:X->AV) (l:List (Option Ob)):Option (AV × List (Option Ob)) :=
 match d7q op ev (b1l l) with
 | none=>none
 | some (r,h')=>match chg op ev with
  | some id=>if h'.nx=l.length then fO (h'.ob id) fun o=>fS (l.set id o) fun l'=>some (r,l') else fO (h'.ob id) fun o=>fL fO ((List.range (h'.nx - l.length)).map fun i=>h'.ob (l.length+i)) fun m=>fS (l.set id o++m) fun l'=>some (r,l')
  | none=>if h'.nx=l.length then some (r,l) else fL fO ((List.range (h'.nx - l.length)).map fun i=>h'.ob (l.length+i)) fun m=>fS (l++m) fun l'=>some (r,l')
theorem d6u {op:XOp} {ev:X->AV} (hw:∀ f as,op≠.callw f as) {id:Nat}:op.touch ev id ↔ chg op ev=some id:=by
 cases op <;> simp only [XOp.touch,chg]
 case store n a x =>
  cases ev a <;> simp
 case app sz by' s x =>
  cases ev s <;> simp
 case callw f as=>exact absurd rfl (hw f as)
 all_goals simp
theorem c7c {l:List (Option Ob)} {h:Heap} (hn:h.nx=l.length) (hu:∀ id,h.us id ↔ id<l.length) (ho:∀ id,h.ob id=(l[id]?).join):b1l l=h:=by
 obtain ⟨ob,us,nx⟩:=h
 simp only at hn
 subst hn
 unfold b1l
 congr 1
 ·funext i; exact (ho i).symm
 ·funext k; exact propext (hu k).symm
theorem j0h {op:XOp} {ev:X->AV} {l l':List (Option Ob)} {r:AV} (hw:∀ f as,op≠.callw f as) (h:d1p op ev l=some (r,l')):eff op ev (b1l l)=some (r,b1l l')/\l.length<=l'.length:=by
 unfold d1p at h
 rw [b5f] at h
 cases he:eff op ev (b1l l) with
 | none=>rw [he] at h; cases h
 | some p =>
  obtain ⟨r1,h'⟩:=p
  rw [he] at h
  simp only [c2o,b95,b5o (fun a k=>c2o (o:=a) (k:=k))] at h
  have fr:=d7r he
  have hnx:l.length<=h'.nx:=fr.nx
  have hus:∀ id,h'.us id ↔ id<h'.nx:=fun id=>by
   rw [fr.us id]
   show id<l.length\/(l.length<=id/\id<h'.nx) ↔ _
   omega
  have hob:∀ id,chg op ev≠some id->¬ (l.length<=id/\id<h'.nx)->h'.ob id=(l[id]?).join:=fun id h1 h2=>fr.ob id (fun ht=>h1 ((d6u hw).1 ht)) h2
  have out:∀ (m:List (Option Ob)),m.length=l.length->(∀ id,id<l.length->h'.ob id=(m[id]?).join)->(∀ id,h'.nx<=id->h'.ob id=none) ->
    (b1l (m++(List.range (h'.nx - l.length)).map fun i=>h'.ob (l.length+i))=h')/\l.length<=(m++(List.range (h'.nx - l.length)).map fun i=>h'.ob (l.length+i)).length:=by
   intro m hm h1 h2
   have hlen:(m++(List.range (h'.nx - l.length)).map fun i=>h'.ob (l.length+i)).length=h'.nx:=by simp [hm]; omega
   refine ⟨c7c hlen.symm (fun id=>by rw [hlen]; exact hus id) fun id=>?_,by rw [hlen]; exact hnx⟩
   by_cases a:id<l.length
   ·rw [List.getElem?_append_left (by omega)]; exact h1 id a
   ·rw [List.getElem?_append_right (by omega),hm,List.getElem?_map]
    by_cases b:id<h'.nx
    ·rw [List.getElem?_range (by omega)]
     simp only [Option.map_some,Option.join_some]
     rw [show l.length+(id - l.length)=id by omega]
    ·rw [List.getElem?_eq_none (by simp; omega)]
     exact h2 id (by omega)
  have same:∀ (m:List (Option Ob)),h'.nx=l.length->m=m++(List.range (h'.nx - l.length)).map fun i=>h'.ob (l.length+i):=fun m e=>by rw [e]; simp
  cases hc:chg op ev with
  | none =>
   rw [hc] at h
   simp only at h
   have := out l rfl (fun id hi=>hob id (by rw [hc]; simp) (by omega)) (fun id hi=>by
    rw [hob id (by rw [hc]; simp) (by omega),List.getElem?_eq_none (by omega)]; rfl)
   split at h
   ·rename_i e
    rw [<- same l e] at this
    cases h
    exact ⟨by rw [this.1],this.2⟩
   ·cases h
    exact ⟨by rw [this.1],this.2⟩
  | some id0 =>
   rw [hc] at h
   simp only at h
   have ht:op.touch ev id0:=(d6u hw).2 hc
   have hid:id0<l.length:=by
    have := g3p he ht
    rcases Nat.lt_or_ge id0 l.length with g|g
    ·exact g
    ·exact absurd (show (l[id0]?).join=none by rw [List.getElem?_eq_none g]; rfl) this
   have := out (l.set id0 (h'.ob id0)) (by simp) (fun id hi=>by
     by_cases e:id0=id
     ·subst e; rw [List.getElem?_set_self hi]; rfl
     ·rw [List.getElem?_set_ne e]; exact hob id (by rw [hc]; simpa using e) (by omega))
    (fun id hi=>by
     rw [hob id (by rw [hc]; simp; omega) (by omega),List.getElem?_eq_none (by omega)]; rfl)
   split at h
   ·rename_i e
    rw [<- same _ e] at this
    cases h
    exact ⟨by rw [this.1],this.2⟩
   ·cases h
    exact ⟨by rw [this.1],this.2⟩
def c7a:Nat->AV->List Nat
 | 0,_=>[]
 | n+1,a=>match a with
  | .rs id _ _=>[id]
  | .rp id _ _=>[id]
  | .agg cs | .tup cs=>cs.flatMap (c7a n)
  | _=>[]
def c4m (ob:List (Option Ob)):Nat->List Nat->List Nat->List Nat
 | 0,_,d=>d
 | _,[],d=>d
 | n+1,id :: r,d=>if d.contains id then c4m ob n r d else match (ob[id]?).join with
  | some o=>c4m ob n (o.2.flatMap (fun e=>e.flatMap (c7a 8))++r) (d++[id])
  | none=>c4m ob n r (d++[id])
def c7x:List Nat->Bool
 | []=>true
 | a :: l=>!l.contains a && c7x l
theorem g14:∀ {l:List Nat},c7x l=true->l.Nodup
 | [],_=>List.nodup_nil
 | a :: l,h=>by
  simp only [c7x,Bool.and_eq_true,Bool.not_eq_true',List.contains_eq_mem,decide_eq_false_iff_not] at h
  exact List.nodup_cons.2 ⟨h.1,g14 h.2⟩
abbrev b4u:=String->List AV->List (Option Ob)->Option (List AV × List (Option Ob))
def d04 (O:Orac) (run:b4u):Prop:=MapsOk O/\∀ f as ob rs ob',run f as ob=some (rs,ob')->∃ fn e s',Has O f fn/\as.length=fn.np/\(e = .normal\/e = .ret) /\
 wp O fn.body (fun e2 s2=>e2=e/\s2=RS.st s') { start as with h:=b1l ob }/\fn.res.mapM (l18 (RS.st s'))=some rs/\s'.ob=ob'/\ob.length<=ob'.length
def depth:Nat:=12
def d1b (run:b4u) (f:String) (as:List AV) (ob:List (Option Ob)):Option (AV × List (Option Ob)) :=
 (as.mapM (fzR ob depth)).bind fun as'=>(run f as' []).bind fun (rs,ob1) =>
 let ids:=c4m ob1 1000 (rs.flatMap (c7a 8)) []
 let f1:Nat->Option Nat:=fun id=>(List.range ids.length).find? fun k=>ids[k]?=some id
 if c7x ids then
  (s8p f1 depth (E6z rs)).bind fun r =>
  (ids.mapM fun id=>((ob1[id]?).join).bind (c8x f1 depth)).bind fun frag =>
  if as.all (b3l depth) || (c70 depth r && frag.all fun o=>o.2.all fun e=>e.all (c70 depth)) then
   let f2:Nat->Option Nat:=fun k=>if k<frag.length then some (ob.length+k) else none
   (s8p f2 depth r).bind fun r' =>
   (frag.mapM (c8x f2 depth)).bind fun frag' =>
   if frag'.length=0 then some (r',ob) else fL fO (frag'.map some) fun m=>fS (ob++m) fun l=>some (r',l)
  else none
 else none
theorem g03:∀ (frag:b3z) (ob:List (Option Ob)),(b1l ob).join frag=b1l (ob++frag.map some)
 | [],ob=>by simp [Heap.join]
 | o :: frag,ob=>by
  have e:(b1l ob).new o=b1l (ob++[some o]):=by
   symm
   refine c7c (by simp [b1l,Heap.new]) (fun id=>?_) fun id=>?_
   ·simp only [b1l,Heap.new,List.length_append,List.length_cons,List.length_nil]; omega
   ·show (if id=ob.length then some o else (ob[id]?).join)=((ob++[some o])[id]?).join
    by_cases a:id=ob.length
    ·subst a; simp
    ·rw [if_neg a]
     rcases Nat.lt_or_ge id ob.length with b|b
     ·rw [List.getElem?_append_left b]
     ·rw [List.getElem?_eq_none b,List.getElem?_eq_none (by simp; omega)]
  show ((b1l ob).new o).join frag=_
  rw [e,g03 frag]
  simp
theorem d6m {O:Orac} {run:b4u} (hr:d04 O run) {f:String} {as:List AV} {ob ob':List (Option Ob)} {r':AV} (h:d1b run f as ob=some (r',ob')):b9o O f as (b1l ob) r' (b1l ob')/\ob.length<=ob'.length:=by
 unfold d1b at h
 obtain ⟨as',ha,h⟩:=bE9.1 h
 obtain ⟨⟨rs,ob1⟩,hrun,h⟩:=bE9.1 h
 simp only at h
 generalize hids:c4m ob1 1000 (rs.flatMap (c7a 8)) []=ids at h
 split at h
 ·rename_i hnd
  obtain ⟨r,h1,h⟩:=bE9.1 h
  obtain ⟨frag,h2,h⟩:=bE9.1 h
  split at h
  ·rename_i hown
   obtain ⟨r2,h3,h⟩:=bE9.1 h
   obtain ⟨frag',h4,h⟩:=bE9.1 h
   have hout:r'=r2/\ob'=ob++frag'.map some:=by
    split at h
    ·rename_i z
     cases h
     have : frag'=[]:=List.length_eq_zero_iff.1 z
     subst this
     simp
    ·simp only [b95,b5o (fun a k=>c2o (o:=a) (k:=k))] at h; cases h; exact ⟨rfl,rfl⟩
   obtain ⟨rfl,rfl⟩:=hout
   obtain ⟨fn,e,s',hhas,hnp,hen,hwp,hres,hob1,_⟩:=hr.2 _ _ _ _ _ hrun
   have fz:=d78 ha
   have hfr:∀ a∈as',Frz a:=fun a hm=>by
    obtain ⟨q1,q2⟩:=b5s ha
    obtain ⟨i,hi⟩:=List.mem_iff_getElem?.1 hm
    have hlt:=(gS9.1 hi).1
    exact d76 _ _ _ (q2 i _ a (gG9 (by omega)) hi)
   obtain ⟨g1,g2⟩:=b5s h2
   obtain ⟨g3,g4⟩:=b5s h4
   have hO:O f as' r frag:=by
    refine hhas.p as' r frag hnp ?_ hfr
    have hs:(start as')={ start as' with h:=b1l [] }:=by rw [d8i]; rfl
    rw [hs]
    refine s8m _ ?_ hwp
    rintro e2 s2 ⟨rfl,rfl⟩
    have hd:b4b fn.res r frag s'.st:=.inr ⟨rs,ids,hres,g1,g14 hnd,c8y _ _ _ h1,fun k sz ds hk=>by
     have hlt:=(gS9.1 hk).1
     have hlt2:k<ids.length:=by omega
     have := g4
     have hq:=g2 k _ _ (gG9 hlt2) hk
     obtain ⟨o,ho,hq⟩:=bE9.1 hq
     obtain ⟨w1,w2,w3,w4⟩:=g2s hq
     obtain ⟨sz',es⟩:=o
     simp only at w1
     subst w1
     refine ⟨ids[k],es,gG9 hlt2,?_,w2,w3,w4⟩
     show (s'.ob[ids[k]]?).join=_
     rw [hob1]; exact ho⟩
    rcases hen with rfl|rfl <;> exact hd
   refine ⟨⟨as',r,frag,frag',fz,hO,?_,c8y _ _ _ h3,g3.symm,?_,(g03 _ _).symm⟩,by simp⟩
   ·rw [Bool.or_eq_true,Bool.and_eq_true] at hown
    rcases hown with hown|⟨o1,o2⟩
    ·exact .inl fun a ha=>b4n _ _ (List.all_eq_true.1 hown a ha)
    ·exact .inr ⟨c72 _ _ o1,fun o ho e he c hc=>c72 _ _ (List.all_eq_true.1 (List.all_eq_true.1 (List.all_eq_true.1 o2 o ho) e he) c hc)⟩
   ·intro k sz es hk
    have hlt:=(gS9.1 hk).1
    have hlt2:k<frag'.length:=by omega
    have hq:=g4 k _ _ hk (gG9 hlt2)
    obtain ⟨w1,w2,w3,w4⟩:=g2s hq
    refine ⟨(frag'[k]).2,?_,w2,w3,w4⟩
    rw [gG9 hlt2,<- show (frag'[k]).1=sz from w1]
  ·cases h
 ·cases h
def fQ {β:Type} (a:AV) (k:AV->β):β:=match a with
 | .v x=>fV x fun x=>k (.v x)
 | .rs id lo len=>fN id fun id=>fN lo fun lo=>fN len fun len=>k (.rs id lo len)
 | .rp id i off=>fN id fun id=>fN i fun i=>fN off fun off=>k (.rp id i off)
 | .fp cs off=>fN off fun off=>k (.fp cs off)
 | a=>fA 8 a k
theorem s9h {β:Type} {a:AV} {k:AV->β}:fQ a k=k a:=by cases a <;> simp only [fQ,N1h,p8o,b92]
def b5t (s:RS) (d:Option Nat) (r:AV) (ob:List (Option Ob)):Option RS:=fQ r fun r=>c76 s.t d r fun t=>some ⟨t,ob⟩
def d39 (k:MK) (as:List AV) (l:List (Option Ob)):Option (AV × List (Option Ob)):=match k,as with
 | .mk,[]=>fN l.length fun n=>fS (l++[some (0,[])]) fun l'=>some (.mp n,l')
 | .sb,[.v (.string s)]=>fL (fL (fA 8)) (s.data.toList.map fun b=>[.v (.int .u8 b.toNat)]) fun es=>some (.fs 1 es,l)
 | .cap,[.v (.slice none 0 0)]=>some (.v (.int .i64 0),l)
 | .ax,[.v (.slice none 0 0),.v (.int _ n),.v z]=>if 0<n/\n * 16<=2 ^ 40 then fN l.length fun k=>fN n.toNat fun m=>fO (some (1,List.replicate m [.v z])) fun o=>fS (l++[o]) fun l'=>some (.rs k 0 m,l') else none
 | .look str two,[.mp id,key,.v z,.v (.int _ n)]=>((l[id]?).join).bind fun o=>(b6j n key).bind fun kv=>fV kv fun kv=>if o.1=0 then
   (b3p str kv o.2 0).map fun r=>(c7u two z r,l) else none
 | .put str,[.mp id,key,.v v,.v (.int _ n)]=>((l[id]?).join).bind fun o=>(b6j n key).bind fun kv=>fV kv fun kv=>if o.1=0 then
   (b3p str kv o.2 0).bind fun r=>fO (some (0,b6l o.2 kv v r)) fun o'=>fS (l.set id o') fun l'=>some (.dead,l') else none
 | _,_=>none
theorem d8h (l:List (Option Ob)) (o:Ob):(b1l l).new o=b1l (l++[some o]):=by
 symm
 refine c7c (by simp [Heap.new,b1l]) (fun id=>?_) fun id=>?_
 ·simp only [Heap.new,b1l,List.length_append,List.length_singleton]; omega
 ·show (if id=l.length then some o else (l[id]?).join)=_
  by_cases e:id=l.length
  ·subst e; simp
  ·rw [if_neg e]
   by_cases h:id<l.length
   ·rw [List.getElem?_append_left h]
   ·rw [List.getElem?_eq_none (by omega),List.getElem?_eq_none (by simp; omega)]
theorem j3u (l:List (Option Ob)) (id:Nat) (o:Option Ob) (h:id<l.length):(b1l l).upd id o=b1l (l.set id o):=by
 symm
 refine c7c (by simp [Heap.upd,b1l]) (fun k=>by simp [Heap.upd,b1l]) fun k=>?_
 show (if k=id then o else (l[k]?).join)=_
 by_cases e:k=id
 ·subst e; rw [List.getElem?_set_self h]; simp
 ·rw [if_neg e,List.getElem?_set_ne (Ne.symm e)]
theorem j73 {k:MK} {as:List AV} {l l':List (Option Ob)} {r:AV} (h:d39 k as l=some (r,l')):b2i k as (b1l l)=some (r,b1l l')/\l.length<=l'.length:=by
 unfold d39 at h
 split at h
 ·simp only [p8o,b95,iE9,Prod.mk.injEq] at h
  obtain ⟨rfl,rfl⟩:=h
  exact ⟨by simp only [b2i,d8h]; rfl,by simp⟩
 ·simp only [b5o (b5o (b92 8)),iE9,Prod.mk.injEq] at h
  obtain ⟨rfl,rfl⟩:=h
  exact ⟨rfl,Nat.le_refl _⟩
 ·cases h; exact ⟨rfl,Nat.le_refl _⟩
 ·split at h
  ·rename_i hc
   simp only [p8o,c2o,b95,iE9,Prod.mk.injEq] at h
   obtain ⟨rfl,rfl⟩:=h
   exact ⟨by simp only [b2i,if_pos hc,d8h]; rfl,by simp⟩
  ·cases h
 ·simp only [bE9,N1h] at h
  obtain ⟨o,ho,kv,hk,h⟩:=h
  split at h
  ·rename_i h0
   simp only [mE9,Prod.mk.injEq] at h
   obtain ⟨q,hq,rfl,rfl⟩:=h
   refine ⟨?_,Nat.le_refl _⟩
   simp only [b2i,show (b1l l).ob _=some o from ho,hk,bS9,if_pos h0,hq,Option.map_some]
  ·cases h
 ·simp only [bE9,N1h] at h
  obtain ⟨o,ho,kv,hk,h⟩:=h
  split at h
  ·rename_i h0
   simp only [bE9,c2o,b95,iE9,Prod.mk.injEq] at h
   obtain ⟨q,hq,rfl,rfl⟩:=h
   rename_i id _ _ _ _
   have hid:id<l.length:=by
    rcases Nat.lt_or_ge id l.length with g|g
    ·exact g
    ·rw [List.getElem?_eq_none g] at ho; cases ho
   refine ⟨?_,by simp⟩
   simp only [b2i,show (b1l l).ob _=some o from ho,hk,bS9,if_pos h0,hq,Option.map_some,j3u _ _ _ hid]
  ·cases h
 ·cases h
def oM (d:Option Nat) (k:MK) (as:List AV) (s:RS):Option RS:=match d39 k as s.ob with|some (r,ob')=>b5t s d r ob'|none=>none
def oW' (run:b4u) (d:Option Nat) (f:String) (args:List X) (s:RS):Option RS:=match b2k f with
 | some k=>oM d k (args.map s.st.ev) s
 | none=>match run f (args.map s.st.ev) s.ob with|some (rs,ob')=>b5t s d (E6z rs) ob'|none=>none
def oC (run:b4u) (d:Option Nat) (f:String) (as:List AV) (s:RS):Option RS:=match d1b run f as s.ob with|some (r,ob')=>b5t s d r ob'|none=>none
def oV (run:b4u) (d:Option Nat) (f:X) (args:List X) (s:RS):Option RS:=match callee (s.st.ev f) with
 | some (n,a,b)=>oC run d n (a++args.map s.st.ev++b) s
 | none=>none
def oB (d:Option Nat) (x:X) (s:RS):Option RS:=if b2d (s.st.ev x) then fL (fA 8) (cellsOf (s.st.ev x)) fun cs=>c76 s.t d (.fp cs 0) fun t=>some ⟨t,s.ob⟩ else none
def oE (d:Option Nat) (op:XOp) (s:RS):Option RS:=match d1p op s.st.ev s.ob with|some (r,ob')=>b5t s d r ob'|none=>none
def oP (d:Option Nat) (e:Option (AV × Heap)) (s:RS):Option RS:=match e with|some (r,_)=>b5t s d r s.ob|none=>none
def r1i:XOp->Bool
 | .mv _ | .bin .. | .un .. | .load .. | .ixA .. | .fldA .. | .fld .. | .ext .. | .len .. | .nilck _ | .pick ..=>true
 | _=>false
theorem j0k {op:XOp} {ev:X->AV} {h h':Heap} {r:AV} (hp:r1i op=true) (he:eff op ev h=some (r,h')):h'=h:=by
 cases op <;> simp only [r1i,fT9] at hp <;> simp only [eff] at he
 case mv=>cases he; rfl
 case bin=>obtain ⟨r,_,e⟩:=mE9.1 he; cases e; rfl
 case un=>obtain ⟨r,_,e⟩:=mE9.1 he; cases e; rfl
 case ext =>
  split at he
  ·obtain ⟨r,_,e⟩:=mE9.1 he; cases e; rfl
  ·cases he
 case pick =>
  split at he
  ·cases he; rfl
  ·cases he
 case len =>
  split at he
  ·split at he
   ·cases he; rfl
   ·cases he
  ·obtain ⟨r,_,e⟩:=mE9.1 he; cases e; rfl
 case nilck =>
  split at he
  ·cases he; rfl
  ·obtain ⟨o,_,e⟩:=bE9.1 he; cases e; rfl
  ·cases he; rfl
  ·cases he
 case fldA =>
  split at he
  ·cases he; rfl
  ·obtain ⟨o,_,e⟩:=bE9.1 he; cases e; rfl
  ·cases he
 case fld =>
  split at he
  ·split at he
   ·split at he
    ·cases he; rfl
    ·cases he
   ·obtain ⟨r,_,e⟩:=mE9.1 he; cases e; rfl
  ·cases he
 case load =>
  split at he
  ·split at he
   ·split at he
    ·cases he; rfl
    ·cases he
   ·obtain ⟨r,_,e⟩:=mE9.1 he; cases e; rfl
  ·obtain ⟨o,_,he⟩:=bE9.1 he
   obtain ⟨cs,_,he⟩:=bE9.1 he
   split at he
   ·split at he
    ·cases he; rfl
    ·cases he
   ·obtain ⟨r,_,e⟩:=mE9.1 he; cases e; rfl
  ·cases he
 case ixA =>
  split at he
  ·split at he
   ·obtain ⟨r,_,e⟩:=mE9.1 he; cases e; rfl
   ·cases he
  ·obtain ⟨o,_,he⟩:=bE9.1 he
   split at he
   ·cases he; rfl
   ·cases he
  ·cases he
theorem M2f {d:Option Nat} {op:XOp} {e:Option (AV × Heap)} {s s':RS} (hp:r1i op=true) (he:e=eff op s.st.ev s.st.h) (h:oP d e s=some s'):∃ r,eff op s.st.ev s.st.h=some (r,s.st.h)/\(s'.ob=s.ob/\s'.st={ t:=(s.st.put d r).t,h:=s.st.h }):=by
 unfold oP at h
 split at h
 ·rename_i r h'
  unfold b5t at h
  rw [s9h] at h
  obtain ⟨t',h,ht⟩:=b7k h
  cases h
  have := j0k hp he.symm
  subst this
  exact ⟨r,he.symm,rfl,ht s.ob⟩
 ·cases h
def oR (run:b4u) (d:Option Nat) (op:XOp) (s:RS):Option RS:=match op with
 | .callw f args=>oW' run d f args s
 | .call f args=>oC run d f (args.map s.st.ev) s
 | .callv f args=>oV run d f args s
 | .boxF x=>oB d x s
 | .mv x=>oP d (d7k x s.st.ev (b1l s.ob)) s
 | .bin o k x y=>oP d (d1o o k x y s.st.ev (b1l s.ob)) s
 | .un o x=>oP d (d7n o x s.st.ev (b1l s.ob)) s
 | .load a n x=>oP d (d7j a n x s.st.ev (b1l s.ob)) s
 | .ixA n x i=>oP d (c6v n x i s.st.ev (b1l s.ob)) s
 | .fldA o x=>oP d (d7e o x s.st.ev (b1l s.ob)) s
 | .fld a n o x=>oP d (d7d a n o x s.st.ev (b1l s.ob)) s
 | .ext x i=>oP d (d7c x i s.st.ev (b1l s.ob)) s
 | .len b x=>oP d (d7i b x s.st.ev (b1l s.ob)) s
 | .nilck x=>oP d (d7l x s.st.ev (b1l s.ob)) s
 | .pick c a b=>oP d (d7m c a b s.st.ev (b1l s.ob)) s
 | op=>oE d op s
def opR (run:b4u) (o:XO) (s:RS):Option RS :=
 match b2y s.st o.guard with
 | none=>none
 | some false=>c76 s.t o.dst (.v (.tuple #[])) fun t=>some ⟨t,s.ob⟩
 | some true=>oR run o.dst o.op s
def c7y (run:b4u):List XO->RS->Option RS
 | [],s=>some s
 | o :: l,s=>match opR run o s with|some s'=>c7y run l s'|none=>none
def TR.map (g:AV->AV):TR->TR
 | .e=>.e
 | .n l x r=>.n (l.map g) (g x) (r.map g)
theorem TR.map_get {g:AV->AV} (hg:g (.v (.tuple #[])) = .v (.tuple #[])):∀ (t:TR) (i:Nat),(t.map g).get i=g (t.get i)
 | .e,_=>hg.symm
 | .n l x r,i=>by
  simp only [TR.map,TR.get]
  split
  ·rfl
  ·split
   ·exact TR.map_get hg l _
   ·exact TR.map_get hg r _
theorem d16 (s:St):b6u s s:=⟨fun _=>false,rfl,rfl,fun id sz es' hes=>⟨rfl,es',hes,.inl rfl,fun i j d hd=>⟨d,hd,.inl rfl⟩⟩,fun t=>.inl rfl⟩
def b8d (id sz:Nat) (es:List (List AV)):AV->AV
 | .rs id' lo len=>if id'=id/\lo+len<=es.length then .fs sz ((es.drop lo).take len) else .rs id' lo len
 | .rp id' i off=>if id'=id then (match es[i]? with|some cs=>.fp cs off|none=>.rp id' i off) else .rp id' i off
 | a=>a
def d1k (g:AV->AV):Option Ob->Option Ob
 | some (z,rs)=>if (rs.all fun e=>e.length == z)=true then some (z,rs.map fun e=>e.map g) else some (z,rs)
 | none=>none
def c67 (id:Nat) (s:RS):RS:=match (s.ob[id]?).join with
 | some (sz,es)=>if (es.all fun e=>e.length == sz && e.all (b3l depth))=true then ⟨s.t.map (b8d id sz es),(s.ob.map (d1k (b8d id sz es))).set id none⟩ else s
 | none=>s
theorem g58 {g:AV->AV} {es:List (List AV)} {i j:Nat} {d:AV} (h:at2 (es.map fun e=>e.map g) i j=some d):∃ c,at2 es i j=some c/\d=g c:=by
 unfold at2 at h ⊢
 rw [List.getElem?_map] at h
 cases he:es[i]? with
 | none=>rw [he] at h; cases h
 | some e =>
  rw [he] at h
  simp only [Option.map_some,bS9,List.getElem?_map] at h ⊢
  cases hc:e[j]? with
  | none=>rw [hc] at h; cases h
  | some c=>rw [hc] at h; cases h; exact ⟨c,rfl,rfl⟩
theorem j1y (id:Nat) (s:RS):b6u s.st (c67 id s).st/\(c67 id s).ob.length=s.ob.length:=by
 unfold c67
 split
 ·rename_i sz es ho
  split
  ·rename_i hz
   have hid:id<s.ob.length:=by
    rcases Nat.lt_or_ge id s.ob.length with h|h
    ·exact h
    ·rw [List.getElem?_eq_none h] at ho; cases ho
   have hrow:∀ e∈es,e.length=sz/\∀ c∈e,Frz c:=fun e he=>by
    have := List.all_eq_true.1 hz e he
    simp only [Bool.and_eq_true,beq_iff_eq] at this
    exact ⟨this.1,fun c hc=>b4n _ _ (List.all_eq_true.1 this.2 c hc)⟩
   have hob:(s.st.h.only fun k=>k == id).ob id=some (sz,es):=by
    show (if (id == id)=true then (s.ob[id]?).join else none)=_
    simp [ho]
   have cool:∀ a,b7x (s.st.h.only fun k=>k == id) a (b8d id sz es a):=fun a=>by
    cases a with
    | rs id' lo len =>
     simp only [b8d]
     split
     ·rename_i h
      obtain ⟨rfl,hb⟩:=h
      have hmem:∀ e∈(es.drop lo).take len,e∈es:=fun e he=>List.mem_of_mem_drop (List.mem_of_mem_take he)
      refine .inr ⟨.rs _ lo len sz es _ hob hb (by simp; omega) (fun d hd=>(hrow d (hmem d hd)).1) fun i j c d hc hd=>?_,.fs sz _ fun e he c hc=>(hrow e (hmem e he)).2 c hc⟩
      have e1:at2 ((es.drop lo).take len) i j=some d->at2 es (lo+i) j=some d:=fun h=>by
       unfold at2 at h ⊢
       rw [List.getElem?_take] at h
       split at h
       ·rw [List.getElem?_drop] at h; exact h
       ·cases h
      have := e1 hd
      rw [hc] at this; cases this
      unfold at2 at hc
      obtain ⟨e,he1,he2⟩:=bE9.1 hc
      exact .refl c ((hrow e (mG9 he1)).2 c (mG9 he2))
     ·exact .inl rfl
    | rp id' i off =>
     simp only [b8d]
     split
     ·rename_i h
      subst h
      split
      ·rename_i cs hcs
       have hf:=(hrow cs (mG9 hcs)).2
       refine .inr ⟨.rp _ _ off sz es cs cs hob hcs rfl fun j c d hc hd=>?_,.fp cs off hf⟩
       rw [hc] at hd; cases hd
       exact .refl c (hf c (mG9 hc))
      ·exact .inl rfl
     ·exact .inl rfl
    | _=>exact .inl rfl
   refine ⟨⟨fun k=>k == id,?_,?_,fun k sz' es' hk=>?_,fun t=>?_⟩,by simp⟩
   ·funext k; show (k<((s.ob.map _).set id none).length)=(k<s.ob.length); rw [List.length_set,List.length_map]
   ·show ((s.ob.map _).set id none).length=s.ob.length; rw [List.length_set,List.length_map]
   ·have hk:(((s.ob.map (d1k (b8d id sz es))).set id none)[k]?).join=some (sz',es'):=hk
    by_cases e:id=k
    ·subst e; rw [List.getElem?_set_self (by rw [List.length_map]; exact hid)] at hk; cases hk
    ·rw [List.getElem?_set_ne e,List.getElem?_map] at hk
     refine ⟨by simpa using fun h=>e h.symm,?_⟩
     cases hx:s.ob[k]? with
     | none=>rw [hx] at hk; cases hk
     | some o =>
      rw [hx] at hk
      cases o with
      | none=>cases hk
      | some zr =>
       obtain ⟨z,rs⟩:=zr
       simp only [Option.map_some,Option.join_some,d1k] at hk
       have hst:s.st.h.ob k=some (z,rs):=by show (s.ob[k]?).join=_; rw [hx]; rfl
       split at hk
       ·rename_i hall
        cases hk
        refine ⟨rs,hst,.inr ⟨by simp,fun e he=>?_⟩,fun i j d hd=>?_⟩
        ·obtain ⟨e0,he0,rfl⟩:=List.mem_map.1 he
         have := List.all_eq_true.1 hall e0 he0
         simpa using this
        ·obtain ⟨c,h1,h2⟩:=g58 hd
         exact ⟨c,h1,by rw [h2]; exact cool c⟩
       ·cases hk
        exact ⟨_,hst,.inl rfl,fun i j d hd=>⟨d,hd,.inl rfl⟩⟩
   ·show b7x _ (s.t.get t) ((s.t.map (b8d id sz es)).get t)
    rw [TR.map_get rfl]
    exact cool _
  ·exact ⟨d16 _,rfl⟩
 ·exact ⟨d16 _,rfl⟩
def l3v (s:RS) (n:Nat):Option Nat:=match s.t.get n with
 | .rp id i _=>(match (s.ob[id]?).join with
  | some (_,es)=>(match es[i]? with
   | some cs=>if cs.all (b3l depth) then some id else cs.findSome? fun c=>match c with
    | .rs id2 _ _=>(match (s.ob[id2]?).join with|some (_,fs)=>if (fs.all fun e=>e.all (b3l depth)) then some id2 else none|none=>none)
    | _=>none
   | none=>none)
  | none=>none)
 | _=>none
def isG:XCode->Bool | .ghost=>true|_=>false
def tfs:XCode->List Nat
 | .reg ops=>ops.flatMap fun o=>o.op.xs.filterMap fun | .tf n=>some n|_=>none
 | .seq .ghost b=>tfs b
 | .seq a _=>tfs a
 | _=>[]
def c2z (b:XCode) (s:RS):RS:=match (tfs b).findSome? (l3v s) with
 | some id=>c67 id s
 | none=>s
theorem j1z (b:XCode) (s:RS):b6u s.st (c2z b s).st/\(c2z b s).ob.length=s.ob.length:=by
 unfold c2z
 split
 ·exact j1y _ _
 ·exact ⟨d16 _,rfl⟩
def b55 {α:Type} (f:α->α->Bool):List α->List α->Bool
 | [],[]=>true
 | x :: xs,y :: ys=>f x y && b55 f xs ys
 | _,_=>false
theorem b7c {α:Type} {f:α->α->Bool} (hf:∀ x y,f x y=true->x=y):∀ {a b:List α},b55 f a b=true->a=b
 | [],[],_=>rfl
 | x :: xs,y :: ys,h=>by
  simp only [b55,Bool.and_eq_true] at h
  rw [hf x y h.1,b7c hf h.2]
 | [],_ :: _,h=>by cases h
 | _ :: _,[],h=>by cases h
def d1r:Value->Value->Bool
 | .int k a,.int k' b=>decide (k=k') && decide (a=b)
 | .bool a,.bool b=>decide (a=b)
 | .slice none a b,.slice none c d=>decide (a=c) && decide (b=d)
 | _,_=>false
theorem j0q:∀ x y,d1r x y=true->x=y:=by
 intro x y h
 unfold d1r at h
 split at h
 ·simp only [Bool.and_eq_true,decide_eq_true_eq] at h; rw [h.1,h.2]
 ·simp only [decide_eq_true_eq] at h; rw [h]
 ·simp only [Bool.and_eq_true,decide_eq_true_eq] at h; rw [h.1,h.2]
 ·cases h
def b8g:Nat->AV->AV->Bool
 | 0,_,_=>false
 | _+1,.v x,.v y=>d1r x y
 | n+1,.agg a,.agg b=>b55 (b8g n) a b
 | n+1,.tup a,.tup b=>b55 (b8g n) a b
 | n+1,.fs s a,.fs s' b=>decide (s=s') && b55 (b55 (b8g n)) a b
 | n+1,.fp a o,.fp b o'=>decide (o=o') && b55 (b8g n) a b
 | _+1,.rs a b c,.rs a' b' c'=>decide (a=a') && (decide (b=b') && decide (c=c'))
 | _+1,.rp a b c,.rp a' b' c'=>decide (a=a') && (decide (b=b') && decide (c=c'))
 | _+1,.mp a,.mp a'=>decide (a=a')
 | _+1,.dead,.dead=>true
 | _+1,_,_=>false
theorem j0p:∀ n x y,b8g n x y=true->x=y:=by
 intro n
 induction n with
 | zero=>intro x y h; cases h
 | succ n ih =>
  intro x y h
  cases x <;> cases y <;> simp only [b8g,fT9,Bool.and_eq_true,decide_eq_true_eq] at h
  case v.v=>rw [j0q _ _ h]
  case agg.agg=>rw [b7c ih h]
  case tup.tup=>rw [b7c ih h]
  case fs.fs=>rw [h.1,b7c (fun _ _=>b7c ih) h.2]
  case fp.fp=>rw [h.1,b7c ih h.2]
  case rs.rs=>rw [h.1,h.2.1,h.2.2]
  case rp.rp=>rw [h.1,h.2.1,h.2.2]
  case mp.mp=>rw [h]
  case dead.dead=>rfl
def d41:Option Ob->Option Ob->Bool
 | none,none=>true
 | some o,some p=>decide (o.1=p.1) && b55 (b55 (b8g 20)) o.2 p.2
 | _,_=>false
theorem l5d:∀ {o p:Option Ob},d41 o p=true->o=p
 | none,none,_=>rfl
 | some (a,b),some (c,d),h=>by
  simp only [d41,Bool.and_eq_true,decide_eq_true_eq] at h
  rw [h.1,b7c (fun _ _=>b7c (j0p 20)) h.2]
 | none,some _,h=>by cases h
 | some _,none,h=>by cases h
def c7z (run:b4u):List XO->RS->Option (List RS)
 | [],s=>some [s]
 | o :: l,s=>match opR run o s with
  | some s'=>(match c7z run l s' with|some r=>some (s :: r)|none=>none)
  | none=>none
def d7a (xs:List XO) (prs:List (Nat × Nat)) (ss:List RS):Bool:=prs.all fun p=>match xs[p.2]?,ss[p.2]?,ss[p.2+1]? with
 | some y,some s,some s'=>!y.op.isA || (match xs[p.1]?,ss[p.1]? with
  | some x,some sj=>!x.op.look || (match b2y sj.st x.guard with
   | some true=>(match E65 (sj.st.ev x.op.lookX) with|some id=>d41 (s'.st.h.ob id) (s.st.h.ob id)|none=>true)
   | _=>true)
  | _,_=>false)
 | _,_,_=>false
def d4x (run:b4u) (xs:List XO) (prs:List (Nat × Nat)) (s:RS):Option RS:=match c7z run xs s with
 | some ss=>if d7a xs prs ss=true then ss.getLast? else none
 | none=>none
def c7r (body:RS->Option (XExit × RS)):Nat->RS->Option (XExit × RS)
 | 0,_=>none
 | n+1,s=>match body s with
  | none=>none
  | some (.normal,s')=>c7r body n s'
  | some (.exit i,s')=>some (.exit i,s')
  | some (.ret,s')=>some (.ret,s')
def b4i (run:b4u) (n:Nat):XCode->RS->Option (XExit × RS)
 | .skip,s=>some (.normal,s)
 | .reg ops,s=>(match c7y run ops s with|some s'=>some (.normal,s')|none=>none)
 | .regW ops prs,s=>(match d4x run ops prs s with|some s'=>some (.normal,s')|none=>none)
 | .seq a b,s=>(match (if isG a then some (.normal,c2z b s) else b4i run n a s) with
  | none=>none
  | some (.normal,s')=>b4i run n b s'
  | some (.exit i,s')=>some (.exit i,s')
  | some (.ret,s')=>some (.ret,s'))
 | .cond c a b,s=>(match s.st.ev c with
  | .v (.bool true)=>b4i run n a s
  | .v (.bool false)=>b4i run n b s
  | _=>none)
 | .block id a,s=>(match b4i run n a s with
  | some (.exit i,s')=>if i=id then some (.normal,s') else some (.exit i,s')
  | some (.normal,s')=>some (.normal,s')
  | some (.ret,s')=>some (.ret,s')
  | none=>none)
 | .loop a,s=>c7r (b4i run n a) n s
 | .exit id,s=>some (.exit id,s)
 | .ret,s=>some (.ret,s)
 | .ghost,s=>some (.normal,s)
def c4q (tbl:List (String × XFunc)):Nat->b4u
 | 0,_,_,_=>none
 | d+1,f,as,ob=>match tbl.find? fun p=>p.1 == f with
  | none=>none
  | some p=>if as.length=p.2.np then (match (ofL as 0 .e).bind fun t=>b4i (c4q tbl d) 10000 p.2.body ⟨t,ob⟩ with
   | none=>none
   | some (.exit _,_)=>none
   | some (_,s')=>(match p.2.res.mapM (l18 s'.st) with|some rs=>some (rs,s'.ob)|none=>none)) else none
section
variable {O:Orac} {run:b4u} (hr:d04 O run)
include hr
omit hr in
theorem b5u {O:Orac} {dst:Option Nat} {guard:Option (Nat × Bool)} {op:XOp} {e:Option (AV × Heap)} {s s':RS} (hp:r1i op=true) (he:e=eff op s.st.ev s.st.h) (hg:b2y s.st guard=some true) (h:oP dst e s=some s') :
  wpOp O ⟨dst,guard,op⟩ s.st (·=s'.st)/\s.ob.length<=s'.ob.length:=by
 obtain ⟨r,h1,h2,h3⟩:=M2f hp he h
 refine ⟨?_,by rw [h2]; exact Nat.le_refl _⟩
 rw [h3]
 cases op <;> simp only [r1i,fT9] at hp
 all_goals
  unfold wpOp
  simp only [hg]
  exact ⟨r,_,h1,rfl⟩
theorem g18 {o:XO} {s s':RS} (h:opR run o s=some s'):wpOp O o s.st (·=s'.st)/\s.ob.length<=s'.ob.length:=by
 obtain ⟨dst,guard,op⟩:=o
 unfold opR at h
 simp only at h
 cases hg:b2y s.st guard with
 | none=>rw [hg] at h; cases h
 | some w =>
  rw [hg] at h
  cases w with
  | false =>
   simp only at h
   cases op
   all_goals
    obtain ⟨t',h,ht⟩:=b7k h
    cases h
    refine ⟨?_,Nat.le_refl _⟩
    unfold wpOp
    simp only [hg]
    rw [ht]
    cases dst <;> rfl
  | true =>
   simp only [oR] at h
   cases op
   case callw f args =>
    simp only [oW'] at h
    split at h
    ·rename_i k hmk
     simp only [oM,b5t] at h
     split at h
     ·rename_i r ob' hl
      rw [s9h] at h
      obtain ⟨t',h,ht⟩:=b7k h
      cases h
      obtain ⟨h1,h2⟩:=j73 hl
      refine ⟨?_,h2⟩
      unfold wpOp
      simp only [hg]
      have := hr.1
      exact ⟨r,b1l ob',MapsOk.w _ _ _ _ _ _ hmk h1,g1k h1,(ht ob').symm⟩
     ·cases h
    simp only [b5t] at h
    split at h
    ·rename_i rs ob' hrun
     rw [s9h] at h
     obtain ⟨t',h,ht⟩:=b7k h
     cases h
     obtain ⟨fn,e,s2,hhas,hnp,hen,hwp,hres,hob,hle⟩:=hr.2 _ _ _ _ _ hrun
     refine ⟨?_,hle⟩
     unfold wpOp
     simp only [hg]
     refine ⟨E6z rs,b1l ob',hhas.w _ _ _ _ hnp ?_,?_,(ht ob').symm⟩
     ·refine s8m _ ?_ hwp
      rintro e2 s3 ⟨rfl,rfl⟩
      have hh:s2.st.h=b1l ob':=by rw [<- hob]; rfl
      rcases hen with rfl|rfl <;> exact ⟨⟨rs,hres,rfl⟩,hh⟩
     ·obtain ⟨_,_,⟨h1,h2⟩,hfr,_⟩:=g3x _ hwp
      rw [h2,show s2.st.h=b1l ob' by rw [<- hob]; rfl] at hfr
      exact hfr
    ·cases h
   case call f args =>
    simp only [oC,b5t] at h
    split at h
    ·rename_i r ob' hc
     rw [s9h] at h
     obtain ⟨t',h,ht⟩:=b7k h
     cases h
     obtain ⟨h1,h2⟩:=d6m hr hc
     refine ⟨?_,h2⟩
     unfold wpOp
     simp only [hg]
     exact ⟨r,_,h1,(ht ob').symm⟩
    ·cases h
   case callv f args =>
    simp only [oV,oC,b5t] at h
    split at h
    ·rename_i n a b hcal
     split at h
     ·rename_i r ob' hc
      rw [s9h] at h
      obtain ⟨t',h,ht⟩:=b7k h
      cases h
      obtain ⟨h1,h2⟩:=d6m hr hc
      refine ⟨?_,h2⟩
      unfold wpOp
      simp only [hg]
      exact ⟨n,a,b,hcal,r,_,h1,(ht ob').symm⟩
     ·cases h
    ·cases h
   case boxF x =>
    simp only [oB] at h
    split at h
    ·rename_i hok
     rw [b5o (b92 8)] at h
     obtain ⟨t',h,ht⟩:=b7k h
     cases h
     refine ⟨?_,Nat.le_refl _⟩
     unfold wpOp
     simp only [hg]
     exact ⟨hok,(ht s.ob).symm⟩
    ·cases h
   case mv=>exact b5u rfl (b5f _ _ _) hg h
   case bin=>exact b5u rfl (b5f _ _ _) hg h
   case un=>exact b5u rfl (b5f _ _ _) hg h
   case load=>exact b5u rfl (b5f _ _ _) hg h
   case ixA=>exact b5u rfl (b5f _ _ _) hg h
   case fldA=>exact b5u rfl (b5f _ _ _) hg h
   case fld=>exact b5u rfl (b5f _ _ _) hg h
   case ext=>exact b5u rfl (b5f _ _ _) hg h
   case len=>exact b5u rfl (b5f _ _ _) hg h
   case nilck=>exact b5u rfl (b5f _ _ _) hg h
   case pick=>exact b5u rfl (b5f _ _ _) hg h
   all_goals
    simp only [oE,b5t] at h
    split at h
    ·rename_i r ob' hc
     rw [s9h] at h
     obtain ⟨t',h,ht⟩:=b7k h
     cases h
     obtain ⟨h1,h2⟩:=j0h (by intro f as e; cases e) hc
     refine ⟨?_,h2⟩
     unfold wpOp
     simp only [hg]
     exact ⟨r,_,h1,(ht ob').symm⟩
    ·cases h
theorem g2a:∀ {l:List XO} {s s':RS},c7y run l s=some s'->b3i O l (·=s'.st) s.st/\s.ob.length<=s'.ob.length
 | [],s,s',h=>by cases h; exact ⟨rfl,Nat.le_refl _⟩
 | o :: l,s,s',h=>by
  simp only [c7y] at h
  split at h
  ·rename_i s1 h1
   obtain ⟨a,b⟩:=g18 hr h1
   obtain ⟨c,d⟩:=g2a h
   exact ⟨c9r a c,Nat.le_trans b d⟩
  ·cases h
omit hr in
theorem j7x {O:Orac} {a:XCode} {Q:XPost} {s s1:St} (h1:wp O a (fun e s2=>e = .normal/\s2=s1) s) (h2:wp O (.loop a) Q s1):wp O (.loop a) Q s:=by
 obtain ⟨I,m,hI,hstep⟩:=h2
 by_cases hs:I s
 ·exact ⟨I,m,hs,hstep⟩
 ·classical
  refine ⟨fun x=>x=s\/I x,fun x=>if x=s then m s1+1 else m x,.inl rfl,fun x hx=>?_⟩
  have ne:∀ y,I y->¬ y=s:=fun y hy e=>hs (e ▸ hy)
  by_cases hxs:x=s
  ·subst hxs
   refine s8m a ?_ h1
   rintro e s2 ⟨rfl,rfl⟩
   exact ⟨.inr hI,by simp only [ne _ hI,if_true,if_false]; omega⟩
  ·have hIx:I x:=hx.resolve_left hxs
   refine s8m a ?_ (hstep x hIx)
   rintro e s2 hq
   cases e with
   | normal=>exact ⟨.inr hq.1,by simp only [hxs,ne _ hq.1,if_false]; exact hq.2⟩
   | exit i=>exact hq
   | ret=>exact hq
omit hr in
theorem g1i {O:Orac} {a:XCode} {Q:XPost} {s s1:St} {e:XExit} (hne:e≠.normal) (h1:wp O a (fun e2 s2=>e2=e/\s2=s1) s) (hq:Q e s1):wp O (.loop a) Q s:=by
 refine ⟨fun x=>x=s,fun _=>0,rfl,fun x hx=>?_⟩
 subst hx
 refine s8m a ?_ h1
 rintro e2 s2 ⟨rfl,rfl⟩
 cases e2 with
 | normal=>exact absurd rfl hne
 | exit i=>exact hq
 | ret=>exact hq
theorem g2b:∀ {xs:List XO} {s:RS} {ss:List RS},c7z run xs s=some ss->ss.length=xs.length+1/\ss[0]?=some s /\
  ∀ (i:Nat) x,xs[i]?=some x->∃ a b,ss[i]?=some a/\ss[i+1]?=some b/\wpOp O x a.st (·=b.st)/\a.ob.length<=b.ob.length
 | [],s,ss,h=>by cases h; exact ⟨rfl,rfl,fun i x hx=>by simp at hx⟩
 | o :: l,s,ss,h=>by
  simp only [c7z] at h
  split at h
  ·rename_i s' h1
   split at h
   ·rename_i r h2
    cases h
    obtain ⟨q1,q2,q3⟩:=g2b h2
    obtain ⟨p1,p2⟩:=g18 hr h1
    refine ⟨by simp [q1],rfl,fun i x hx=>?_⟩
    cases i with
    | zero =>
     simp at hx; subst hx
     exact ⟨s,s',rfl,by simpa using q2,p1,p2⟩
    | succ i=>simpa using q3 i x (by simpa using hx)
   ·cases h
  ·cases h
theorem l4g {xs:List XO} {prs:List (Nat × Nat)} {s s':RS} (h:d4x run xs prs s=some s'):wp O (.regW xs prs) (fun e2 s2=>e2 = .normal/\s2=s'.st) s.st/\s.ob.length<=s'.ob.length:=by
 unfold d4x at h
 split at h
 ·rename_i ss h1
  split at h
  ·rename_i hdy
   obtain ⟨q1,q2,q3⟩:=g2b hr h1
   have hlast:ss[xs.length]?=some s':=by
    rw [List.getLast?_eq_getElem?,q1] at h; simpa using h
   let S:Nat->St:=fun i=>((ss[i]?).getD s).st
   have hS:∀ {i:Nat} {a:RS},ss[i]?=some a->S i=a.st:=fun {i a} ha=>by show ((ss[i]?).getD s).st=_; rw [ha]; rfl
   refine ⟨⟨S,hS q2,fun i x hx=>?_,fun j k x y id hm hx hy hl hw hwt hrf=>?_,rfl,hS hlast⟩,?_⟩
   ·obtain ⟨a,b,ha,hb,hp,_⟩:=q3 i x hx
    rw [hS ha,hS hb]; exact hp
   ·obtain ⟨a,b,ha,hb,_,_⟩:=q3 k y hy
    obtain ⟨c,_,hc,_,_,_⟩:=q3 j x hx
    rw [hS hc] at hwt hrf
    unfold d7a at hdy
    have h2:=List.all_eq_true.1 hdy (j,k) hm
    simp only at h2
    rw [hy,ha,hb] at h2
    simp only [hw,Bool.not_true,Bool.false_or] at h2
    have h3:=h2
    rw [hx,hc] at h3
    simp only [hl,Bool.not_true,Bool.false_or,hwt,hrf] at h3
    rw [hS ha,hS hb]
    exact l5d h3
   ·have key:∀ m,m<=xs.length->∀ a,ss[m]?=some a->s.ob.length<=a.ob.length:=by
     intro m
     induction m with
     | zero=>intro _ a ha; rw [q2] at ha; cases ha; exact Nat.le_refl _
     | succ m ih =>
      intro hm a ha
      obtain ⟨b,c,hb,hc,_,hle⟩:=q3 m _ (gG9 (by omega))
      rw [hc] at ha; cases ha
      exact Nat.le_trans (ih (by omega) b hb) hle
    exact key _ (Nat.le_refl _) s' hlast
  ·cases h
 ·cases h
theorem l4w (n:Nat):∀ (c:XCode) {s s':RS} {e:XExit},b4i run n c s=some (e,s')->wp O c (fun e2 s2=>e2=e/\s2=s'.st) s.st/\s.ob.length<=s'.ob.length:=by
 intro c
 induction c with
 | skip=>intro s s' e h; cases h; exact ⟨⟨rfl,rfl⟩,Nat.le_refl _⟩
 | reg ops =>
  intro s s' e h
  simp only [b4i] at h
  split at h
  ·rename_i s1 h1
   cases h
   obtain ⟨a,b⟩:=g2a hr h1
   refine ⟨?_,b⟩
   show b3i O ops (fun s2=>XExit.normal=XExit.normal/\s2=s'.st) s.st
   exact c9s (fun x hx=>⟨rfl,hx⟩) a
  ·cases h
 | regW ops prs =>
  intro s s' e h
  simp only [b4i] at h
  split at h
  ·rename_i s1 h1
   cases h
   exact l4g hr h1
  ·cases h
 | seq a b iha ihb =>
  intro s s' e h
  simp only [b4i] at h
  have iha:∀ {s s':RS} {e:XExit},(if isG a then some (.normal,c2z b s) else b4i run n a s)=some (e,s')->wp O a (fun e2 s2=>e2=e/\s2=s'.st) s.st/\s.ob.length<=s'.ob.length:=by
   intro s s' e h
   by_cases hg:isG a=true
   ·rw [if_pos hg] at h
    cases h
    cases a <;> simp only [isG,fT9] at hg
    obtain ⟨q1,q2⟩:=j1z b s
    exact ⟨⟨_,q1,rfl,rfl⟩,by rw [q2]; exact Nat.le_refl _⟩
   ·rw [if_neg hg] at h; exact iha h
  split at h
  ·cases h
  ·rename_i s1 h1
   obtain ⟨p,q⟩:=iha h1
   obtain ⟨p2,q2⟩:=ihb h
   refine ⟨?_,Nat.le_trans q q2⟩
   show wp O a _ s.st
   refine s8m a ?_ p
   rintro e2 s2 ⟨rfl,rfl⟩
   exact p2
  ·rename_i i s1 h1
   cases h
   obtain ⟨p,q⟩:=iha h1
   refine ⟨?_,q⟩
   show wp O a _ s.st
   refine s8m a ?_ p
   rintro e2 s2 ⟨rfl,rfl⟩
   exact ⟨rfl,rfl⟩
  ·rename_i s1 h1
   cases h
   obtain ⟨p,q⟩:=iha h1
   refine ⟨?_,q⟩
   show wp O a _ s.st
   refine s8m a ?_ p
   rintro e2 s2 ⟨rfl,rfl⟩
   exact ⟨rfl,rfl⟩
 | cond c a b iha ihb =>
  intro s s' e h
  simp only [b4i] at h
  split at h
  ·rename_i hc
   obtain ⟨p,q⟩:=iha h
   exact ⟨⟨true,hc,fun _=>p,fun h=>by cases h⟩,q⟩
  ·rename_i hc
   obtain ⟨p,q⟩:=ihb h
   exact ⟨⟨false,hc,(fun h=>by cases h),fun _=>p⟩,q⟩
  ·cases h
 | block id a ih =>
  intro s s' e h
  simp only [b4i] at h
  split at h
  ·rename_i i s1 h1
   obtain ⟨p,q⟩:=ih h1
   split at h
   ·rename_i hi
    cases h
    refine ⟨?_,q⟩
    show wp O a _ s.st
    refine s8m a ?_ p
    rintro e2 s2 ⟨rfl,rfl⟩
    simp only [XPost.block,hi,if_true]; exact ⟨trivial,trivial⟩
   ·rename_i hi
    cases h
    refine ⟨?_,q⟩
    show wp O a _ s.st
    refine s8m a ?_ p
    rintro e2 s2 ⟨rfl,rfl⟩
    simp only [XPost.block,hi,if_false]; exact ⟨trivial,trivial⟩
  ·rename_i s1 h1
   cases h
   obtain ⟨p,q⟩:=ih h1
   refine ⟨?_,q⟩
   show wp O a _ s.st
   refine s8m a ?_ p
   rintro e2 s2 ⟨rfl,rfl⟩
   exact ⟨rfl,rfl⟩
  ·rename_i s1 h1
   cases h
   obtain ⟨p,q⟩:=ih h1
   refine ⟨?_,q⟩
   show wp O a _ s.st
   refine s8m a ?_ p
   rintro e2 s2 ⟨rfl,rfl⟩
   exact ⟨rfl,rfl⟩
  ·cases h
 | loop a ih =>
  intro s s' e h
  simp only [b4i] at h
  have key:∀ (k:Nat) (s:RS),c7r (b4i run n a) k s=some (e,s')->wp O (.loop a) (fun e2 s2=>e2=e/\s2=s'.st) s.st/\s.ob.length<=s'.ob.length:=by
   intro k
   induction k with
   | zero=>intro s h; cases h
   | succ k ihk =>
    intro s h
    simp only [c7r] at h
    split at h
    ·cases h
    ·rename_i s1 h1
     obtain ⟨p,q⟩:=ih h1
     obtain ⟨p2,q2⟩:=ihk s1 h
     exact ⟨j7x p p2,Nat.le_trans q q2⟩
    ·rename_i i s1 h1
     cases h
     obtain ⟨p,q⟩:=ih h1
     exact ⟨g1i (by simp) p ⟨rfl,rfl⟩,q⟩
    ·rename_i s1 h1
     cases h
     obtain ⟨p,q⟩:=ih h1
     exact ⟨g1i (by simp) p ⟨rfl,rfl⟩,q⟩
  exact key n s h
 | exit id=>intro s s' e h; cases h; exact ⟨⟨rfl,rfl⟩,Nat.le_refl _⟩
 | ret=>intro s s' e h; cases h; exact ⟨⟨rfl,rfl⟩,Nat.le_refl _⟩
 | ghost =>
  intro s s' e h
  cases h
  refine ⟨⟨s.st,⟨fun _=>false,rfl,rfl,fun id sz es' hes=>⟨rfl,es',hes,.inl rfl,fun i j d hd=>⟨d,hd,.inl rfl⟩⟩,fun t=>.inl rfl⟩,rfl,rfl⟩,Nat.le_refl _⟩
end
theorem g2x {O:Orac} {tbl:List (String × XFunc)} [MapsOk O] (ht:∀ p∈tbl,Has O p.1 p.2):∀ d,d04 O (c4q tbl d)
 | 0=>⟨inferInstance,fun f as ob rs ob' h=>by cases h⟩
 | d+1=>⟨inferInstance,fun f as ob rs ob' h=>by
  simp only [c4q] at h
  split at h
  ·cases h
  ·rename_i p hp
   split at h
   ·rename_i hnp
    have hm:=List.mem_of_find?_eq_some hp
    have hf:p.1=f:=by have:=List.find?_some hp; simpa using this
    subst hf
    split at h
    ·cases h
    ·cases h
    ·rename_i e s' hex hrun
     split at h
     ·rename_i rs' hres
      cases h
      obtain ⟨t,ht0,hrun⟩:=bE9.1 hrun
      obtain ⟨a,b⟩:=l4w (g2x ht d) 10000 _ hrun
      rw [l2b ht0] at a
      refine ⟨p.2,e,s',ht p hm,hnp,?_,a,hres,rfl,b⟩
      cases e with
      | normal=>exact .inl rfl
      | ret=>exact .inr rfl
      | exit i=>exact absurd rfl (hex i)
     ·cases h
   ·cases h⟩
theorem l44 {O:Orac} [MapsOk O] {tbl:List (String × XFunc)} (ht:∀ p∈tbl,Has O p.1 p.2) {d:Nat} {f:String} {x:Value} {ob':List (Option Ob)} (h:c4q tbl d f [] []=some ([.v x],ob')):O f [] (.v x) []:=by
 obtain ⟨fn,e,s',hhas,hnp,hen,hwp,hres,hob1,_⟩:=(g2x ht d).2 _ _ _ _ _ h
 refine hhas.p [] _ [] hnp ?_ (fun a ha=>by cases ha)
 have hs:(start [])={ start [] with h:=b1l [] }:=by rw [d8i]; rfl
 rw [hs]
 refine s8m _ ?_ hwp
 rintro e2 s2 ⟨rfl,rfl⟩
 have hd:b4b fn.res (.v x) [] s'.st:=.inl ⟨rfl,_,hres,.refl _ (.v x)⟩
 rcases hen with rfl|rfl <;> exact hd
end Go.Nw
