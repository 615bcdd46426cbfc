/- Own maps, typed: as lists of keys with what is laid there. -/
import Derived.Test.YtinmifhfkkjccaaDoorNwWcall
import Derived.Test.YtinmifhfkkjccaaDoorNwMap
set_option linter.all false
namespace Go.Nw
section
variable {κ ν:Type} [DecidableEq κ]
def b2u:List (κ × ν)->κ->Nat->Option (Nat × ν)
 | [],_,_=>none
 | p :: l,k,i=>if k=p.1 then some (i,p.2) else b2u l k (i+1)
def b7g (l:List (κ × ν)) (k:κ):Option ν:=(b2u l k 0).map (·.2)
def b2w (l:List (κ × ν)) (k:κ) (z:ν):ν:=(b7g l k).getD z
def b6m (l:List (κ × ν)) (k:κ):Bool:=(b7g l k).isSome
def b3w (l:List (κ × ν)) (k:κ) (v:ν):List (κ × ν):=match b2u l k 0 with|some (i,_)=>l.set i (k,v)|none=>l++[(k,v)]
def eM (fk:κ->Value) (fv:ν->Value) (p:κ × ν):List AV:=[.v (fv p.2),.v (fk p.1)]
def vI (n:Int):Value:=.int .i64 n
def vB (b:Bool):Value:=.bool b
def vS (s:ByteArray):Value:=.string s
theorem c7t {str:Bool} {fk:κ->Value} {fv:ν->Value} (hk:∀ a b,b3o str (fk a) (fk b)=some (decide (a=b))) (k:κ):∀ (l:List (κ × ν)) (i:Nat),
  b3p str (fk k) (l.map (eM fk fv)) i=some ((b2u l k i).map fun p=>(p.1,fv p.2))
 | [],i=>rfl
 | p :: l,i=>by
  simp only [List.map_cons,eM,b3p,hk,b2u]
  by_cases h:k=p.1
  ·simp [h]
  ·simp only [h,decide_false,if_false]
   exact c7t hk k l (i+1)
theorem g1l {two:Bool} {fv:ν->Value} {z:ν} (l:List (κ × ν)) (k:κ):c7u two (fv z) ((b2u l k 0).map fun p=>(p.1,fv p.2))=if two then .tup [.v (fv (b2w l k z)),.v (.bool (b6m l k))] else .v (fv (b2w l k z)):=by
 unfold b2w b6m b7g
 cases b2u l k 0 <;> cases two <;> rfl
theorem j74 {fk:κ->Value} {fv:ν->Value} (l:List (κ × ν)) (k:κ) (v:ν):b6l (l.map (eM fk fv)) (fk k) (fv v) ((b2u l k 0).map fun p=>(p.1,fv p.2))=(b3w l k v).map (eM fk fv):=by
 unfold b3w
 cases b2u l k 0 with
 | none=>simp [b6l,eM]
 | some p=>simp [b6l,eM,List.map_set]
end
section
variable {O:Orac} [MapsOk O] {h:Heap} {k:AV->Heap->Prop} {κ ν:Type} [DecidableEq κ] {fk:κ->Value} {fv:ν->Value} {str:Bool}
theorem g0d {e:List (List AV)} (he:e=[]) (hk:k (.mp h.nx) (h.new (0,e))):@s3q O "#mk" [] h ⟨k⟩:=by
 subst he; exact b79 (k:=.mk) rfl rfl hk
theorem g0c {f:String} {id:Nat} {key:AV} {n:Int} {l:List (κ × ν)} {x:κ} {z:ν} (hm:b2k f=some (.look str false)) (hkk:∀ a b,b3o str (fk a) (fk b)=some (decide (a=b))) (hv:b6j n key=some (fk x)) (ho:h.ob id=some (0,l.map (eM fk fv)))
  (hk : k (.v (fv (b2w l x z))) h) (hn:∀ a,nv1 (.v (fv a)) = .v (fv a):=by intros; rfl):@s3q O f [.mp id,key,.v (fv z),I n] h ⟨k⟩:=by
 refine b79 hm (r:=.v (fv (b2w l x z))) (h':=h) ?_ hk
 simp only [nv,hn,b2i,ho,bS9,hv,if_true,c7t hkk,Option.map_some,g1l,fT9,if_false]
theorem j5x {f:String} {id:Nat} {key:AV} {n:Int} {l:List (κ × ν)} {x:κ} {z:ν} (hm:b2k f=some (.look str true)) (hkk:∀ a b,b3o str (fk a) (fk b)=some (decide (a=b))) (hv:b6j n key=some (fk x)) (ho:h.ob id=some (0,l.map (eM fk fv)))
  (hk : k (.tup [.v (fv (b2w l x z)),B (b6m l x)]) h) (hn:∀ a,nv1 (.v (fv a)) = .v (fv a):=by intros; rfl):@s3q O f [.mp id,key,.v (fv z),I n] h ⟨k⟩:=by
 refine b79 hm (r:=.tup [.v (fv (b2w l x z)),B (b6m l x)]) (h':=h) ?_ hk
 simp only [nv,hn,b2i,ho,bS9,hv,if_true,c7t hkk,Option.map_some,g1l]
theorem d2i {f:String} {id:Nat} {key:AV} {n:Int} {l:List (κ × ν)} {x:κ} {v:ν} (hm:b2k f=some (.put str)) (hkk:∀ a b,b3o str (fk a) (fk b)=some (decide (a=b))) (hv:b6j n key=some (fk x)) (ho:h.ob id=some (0,l.map (eM fk fv)))
  (hk : k .dead (h.upd id (some (0,(b3w l x v).map (eM fk fv))))):@s3q O f [.mp id,key,.v (fv v),I n] h ⟨k⟩:=by
 refine b79 hm (r:=.dead) (h':=h.upd id (some (0,(b3w l x v).map (eM fk fv)))) ?_ hk
 simp only [unv,b2i,ho,bS9,hv,if_true,c7t hkk,Option.map_some,j74]
theorem g64 {a b:ByteArray} (h:a.toList=b.toList):a=b:=by
 rw [Go.ByteArray.toList_eq,Go.ByteArray.toList_eq] at h
 cases a; cases b; simp only [ByteArray.mk.injEq]; exact Array.ext' h
theorem d07 (a b:ByteArray):(a.toList == b.toList)=decide (a=b):=by
 by_cases h:a=b
 ·rw [decide_eq_true h,h]; exact beq_self_eq_true _
 ·rw [decide_eq_false h,beq_eq_false_iff_ne]
  exact fun e=>h (g64 e)
theorem j0y (a b:ByteArray):feq [.s] [vS a] [vS b]=if a.toList == b.toList then some true else some false:=rfl
theorem d3z (a b:ByteArray):b3o true (vS a) (vS b)=some (decide (a=b)):=by
 rw [show b3o true (vS a) (vS b)=feq [.s] [vS a] [vS b] from rfl,j0y,d07]
 cases decide (a=b) <;> rfl
theorem j5w {s:ByteArray} (hk:k (.fs 1 (s.data.toList.map fun b=>[.v (.int .u8 b.toNat)])) h):@s3q O "#sb" [.v (.string s)] h ⟨k⟩ :=
 b79 (k:=.sb) rfl rfl hk
end
end Go.Nw
namespace Go.Nw
def b3q (s:ByteArray):List Int:=s.data.toList.map fun b=>(b.toNat:Int)
theorem d42 (s:ByteArray):(b3q s).length=s.size:=by unfold b3q; rw [List.length_map]; rfl
def c2m (x:Int):List AV:=[.v (.int .u8 x)]
def eS (x:ByteArray):List AV:=[.v (.string x)]
theorem b0z (x:ByteArray):∀ c∈eS x,Frz c:=b0a (b0e _) b0j
theorem c3u (x:ByteArray):(eS x).length=1:=rfl
theorem l5h {l:List ByteArray} {n:Nat} {v:ByteArray}:(List.map eS l).set n [.v (.string v)]=List.map eS (l.set n v):=by rw [List.map_set]; rfl
section
variable {O:Orac} {h:Heap} {k:AV->Heap->Prop} {k1:AV->Prop} {t:Slots} {d:Option Nat} {g:Nat} {b0:Bool} {r:List XO} {K:Slots->Heap->Prop}
theorem j5y [MapsOk O] {s:ByteArray} (hk:k (.fs 1 (List.map c2m (b3q s))) h):@s3q O "#sb" [.v (.string s)] h ⟨k⟩ :=
 j5w (by simpa [b3q,List.map_map,Function.comp_def,c2m] using hk)
def chr (n:Int):ByteArray:=Utf8.encode n
theorem J30 [MapsOk O] {kd:IntKind} {n:Int} (hk:k (.v (.string (chr n))) h):@s3q O "#chr" [.v (.int kd n)] h ⟨k⟩ :=
 b79 (k:=.chr) rfl rfl hk
def cat (a b:ByteArray):Option ByteArray:=if a.size+b.size<=2 ^ 40 then some (a++b) else none
theorem J1o {e:EqK} {a b c:ByteArray} (hc:cat a b=some c):@b2g .add e (.v (.string a)) (.v (.string b)) ⟨k1⟩=k1 (.v (.string c)):=by
 unfold cat at hc
 split at hc
 ·rename_i h0
  cases hc
  show b1u _ _ _ _ _=_
  simp only [b1u,b3f,p2d,if_pos h0,Option.map_some,iE9,exists_eq_left']
 ·cases hc
theorem d88 {e:EqK} {a b:ByteArray}:@b2g .eql e (.v (.string a)) (.v (.string b)) ⟨k1⟩=k1 (B (decide (a=b))):=by
 show b1u _ _ _ _ _=_
 simp only [b1u,b3f,p2d,d07,Option.map_some,iE9,exists_eq_left']
theorem d89 {e:EqK} {a b:ByteArray}:@b2g .neq e (.v (.string a)) (.v (.string b)) ⟨k1⟩=k1 (B (!(decide (a=b)))):=by
 show b1u _ _ _ _ _=_
 simp only [b1u,b3f,p2d,d07,Option.map_some,iE9,exists_eq_left']
theorem j4s {x}:b0d O (⟨d,none,.len true x⟩ :: r) K t h=@iop O (.len true x) t h ⟨fun v h'=>b0d O r K (b0l t d v) h'⟩:=b2n rfl
theorem j5t {x}:b0d O (⟨d,some (g,b0),.len true x⟩ :: r) K t h=@b2h (t g) b0 ⟨@iop O (.len true x) (upd t g (B b0)) h ⟨fun v h'=>b0d O r K (b0l (upd t g (B b0)) d v) h'⟩⟩ ⟨b0d O r K (b0l (upd t g (B (!b0))) d U) h⟩ ⟨b0d O r K (b0l t d U) h⟩:=b2l rfl
def c7k (x:AV) [k:K1 Int]:Prop:=∃ s,x = .v (.string s)/\k.k s.size
theorem j6t {x}:@iop O (.len true x) t h ⟨k⟩=@c7k (evT t x) ⟨fun n=>k (I n) h⟩:=by
 simp only [iop,op1,c7k,eff,if_true]
 generalize evT t x=y
 apply propext; constructor
 ·rintro ⟨r,h',he,hk⟩
  split at he
  ·cases he; exact ⟨_,rfl,hk⟩
  ·cases he
 ·rintro ⟨s,rfl,hk⟩; exact ⟨_,_,rfl,hk⟩
theorem g0x {s:ByteArray} {k:Int->Prop}:@c7k (.v (.string s)) ⟨k⟩=k s.size:=by
 simp only [c7k,AV.v.injEq,Value.string.injEq,exists_eq_left']
theorem j4g {x i}:b0d O (⟨d,none,.ixS x i⟩ :: r) K t h=@iop O (.ixS x i) t h ⟨fun v h'=>b0d O r K (b0l t d v) h'⟩:=b2n rfl
theorem j5h {x i}:b0d O (⟨d,some (g,b0),.ixS x i⟩ :: r) K t h=@b2h (t g) b0 ⟨@iop O (.ixS x i) (upd t g (B b0)) h ⟨fun v h'=>b0d O r K (b0l (upd t g (B b0)) d v) h'⟩⟩ ⟨b0d O r K (b0l (upd t g (B (!b0))) d U) h⟩ ⟨b0d O r K (b0l t d U) h⟩:=b2l rfl
def d2e (x i:AV) [k:K1 Int]:Prop:=∃ s kd n b,x = .v (.string s)/\i = .v (.int kd n)/\get (b3q s) n=some b/\k.k b
theorem j6h {x i}:@iop O (.ixS x i) t h ⟨k⟩=@d2e (evT t x) (evT t i) ⟨fun n=>k (.v (.int .u8 n)) h⟩:=by
 simp only [iop,op1,d2e,eff]
 generalize evT t x=y
 generalize evT t i=z
 apply propext; constructor
 ·rintro ⟨r,h',he,hk⟩
  split at he
  ·rename_i s kd n
   split at he
   ·rename_i h0
    cases hb:s.data.toList[n.toNat]? with
    | none=>simp [hb] at he
    | some b =>
     simp only [hb,Option.map_some,iE9,Prod.mk.injEq] at he
     obtain ⟨rfl,rfl⟩:=he
     exact ⟨s,kd,n,_,rfl,rfl,by simp [get,h0,b3q,List.getElem?_map,hb],hk⟩
   ·cases he
  ·cases he
 ·rintro ⟨s,kd,n,b,rfl,rfl,hb,hk⟩
  have h0:=b05 hb
  have h1:=b8j hb
  simp only [b3q,List.getElem?_map,mE9] at h1
  obtain ⟨c,hc,rfl⟩:=h1
  exact ⟨_,_,by simp only [if_pos h0,hc,Option.map_some],hk⟩
theorem c61:r7h [] [] []=some true:=rfl
theorem b3u {ks:List FK} {a b:Int} {xs ys:List AV} {c:Bool} (h:r7h ks xs ys=some c):r7h (.i :: ks) (I a :: xs) (I b :: ys)=some (decide (a=b) && c):=by
 by_cases e:a=b <;> simp [r7h,e,h]
theorem d8r {ks:List FK} {xs ys:List AV} {c d:Bool} (hl:xs.length=ks.length) (hm:ys.length=ks.length) (h:r7h ks xs ys=some c) (e:c=d):@b2g .eql (.flat ks) (.agg xs) (.agg ys) ⟨k1⟩=k1 (B d):=by
 show b1u _ _ _ _ _=_
 subst e
 simp only [b1u,b3f,b2z,hl,hm,and_self,if_true,h,Option.map_some,iE9,exists_eq_left']
theorem d80 {ks:List FK} {xs ys:List AV} {c d:Bool} (hl:xs.length=ks.length) (hm:ys.length=ks.length) (h:r7h ks xs ys=some c) (e:c=d):@b2g .neq (.flat ks) (.agg xs) (.agg ys) ⟨k1⟩=k1 (B (!d)):=by
 show b1u _ _ _ _ _=_
 subst e
 simp only [b1u,b3f,b2z,hl,hm,and_self,if_true,h,Option.map_some,iE9,exists_eq_left']
def vks {κ:Type} (f:κ->List Int) (x:κ):Value:=.agg ((f x).map (Value.int .i64)).toArray
theorem d7x:∀ (xs ys:List Int),xs.length=ys.length->feq (List.replicate xs.length .i) (xs.map (Value.int .i64)) (ys.map (Value.int .i64))=some (decide (xs=ys))
 | [],[],_=>rfl
 | x :: xs,y :: ys,h=>by
  have ih:=d7x xs ys (by simpa using h)
  simp only [List.length_cons,List.replicate_succ,List.map_cons,feq,if_true,ih]
  by_cases e:x=y <;> simp [e]
 | [],_ :: _,h=>by simp at h
 | _ :: _,[],h=>by simp at h
theorem j7d {κ:Type} [DecidableEq κ] {f:κ->List Int} {n:Nat} (hn:∀ x,(f x).length=n) (inj:∀ a b,f a=f b->a=b) (a b:κ):b3o false (vks f a) (vks f b)=some (decide (a=b)):=by
 have hl:(f a).length=(f b).length:=by rw [hn,hn]
 unfold b3o vks
 simp only [fT9,List.size_toArray,List.length_map,hl,ne_eq,not_true_eq_false,or_self,if_false]
 rw [<- hl,d7x _ _ hl]
 congr 1
 exact decide_eq_decide.2 ⟨inj a b,fun e=>by rw [e]⟩
def b1n (i j:Int) (v o:Int):Int:=if i=j then v else o
theorem c0c {cs:List AV} {off:Nat} {l:List Int} {i x:Int} (h:get l i=some x) (hc:(cs.drop off).take l.length=l.map I):@c0b cs (off+i.toNat) ⟨k1⟩=k1 (I x):=by
 show b4x _ _ _=_
 unfold b4x
 have h1:=b8j h
 have hlt:=(gS9.1 h1).1
 have : cs[off+i.toNat]?=some (I x):=by
  have e:((cs.drop off).take l.length)[i.toNat]?=some (I x):=by rw [hc,List.getElem?_map,h1]; rfl
  rw [List.getElem?_take,if_pos hlt,List.getElem?_drop] at e
  exact e
 simp [this]
theorem d94 {cs:List AV} {off n:Nat} {l:List Int} {i x:Int} {kd:IntKind} (hg:get l i=some x) (hn:n=l.length):@c0d 1 n (.fp cs off) (.v (.int kd i)) h ⟨k⟩=k (.fp cs (off+i.toNat)) h:=by
 have h0:=b05 hg
 have h1:=b06 hg
 simp only [c0d,eff,evT,if_true,Nat.one_ne_zero,if_false]
 rw [if_pos ⟨h0,by rw [hn]; exact h1⟩]
 simp only [Nat.mul_one,iE9,Prod.mk.injEq]
 apply propext
 exact ⟨fun ⟨_,_,⟨e1,e2⟩,hk⟩=>by subst e1; subst e2; exact hk,fun hk=>⟨_,_,⟨rfl,rfl⟩,hk⟩⟩
theorem c7f {id j off n:Nat} {l:List Int} {i x:Int} {kd:IntKind} (hg:get l i=some x) (hn:n=l.length) (ho:(h.ob id).isSome=true):@c0d 1 n (.rp id j off) (.v (.int kd i)) h ⟨k⟩=k (.rp id j (off+i.toNat)) h:=by
 have h0:=b05 hg
 have h1:=b06 hg
 obtain ⟨o,ho⟩:=Option.isSome_iff_exists.1 ho
 simp only [c0d,eff,evT,if_true,Nat.one_ne_zero,if_false,ho,bS9]
 rw [if_pos ⟨h0,by rw [hn]; exact h1⟩]
 simp only [Nat.mul_one,iE9,Prod.mk.injEq]
 apply propext
 exact ⟨fun ⟨_,_,⟨e1,e2⟩,hk⟩=>by subst e1; subst e2; exact hk,fun hk=>⟨_,_,⟨rfl,rfl⟩,hk⟩⟩
theorem c1e {cs:List AV} {off:Nat} {l:List Int} {i x v:Int} (h:get l i=some x) (hc:(cs.drop off).take l.length=l.map I):cs.take (off+i.toNat)++[I v]++cs.drop (off+i.toNat+1)=cs.take off++(l.set i.toNat v).map I++cs.drop (off+l.length):=by
 have h1:=b8j h
 have hlt:=(gS9.1 h1).1
 have hlen:off+l.length<=cs.length:=by
  have := congrArg List.length hc
  simp at this
  omega
 apply List.ext_getElem?
 intro j
 have e:∀ q,q<l.length->cs[off+q]?=(l[q]?).map I:=fun q hq=>by
  have e:((cs.drop off).take l.length)[q]?=(l[q]?).map I:=by rw [hc,List.getElem?_map]
  rw [List.getElem?_take,if_pos hq,List.getElem?_drop] at e
  exact e
 simp only [List.getElem?_append,List.length_append,List.length_take,List.length_cons,List.length_nil,List.length_map,List.length_set,List.getElem?_take,List.getElem?_drop,List.getElem?_map,List.getElem?_set]
 have h2:min (off+i.toNat) cs.length=off+i.toNat:=by omega
 have h3:min off cs.length=off:=by omega
 rw [h2,h3]
 by_cases c1:j<off
 ·rw [if_pos (by omega),if_pos (by omega),if_pos (by omega),if_pos (by omega),if_pos (by omega),if_pos (by omega)]
 ·by_cases c2:j<off+l.length
  ·obtain ⟨q,rfl⟩:∃ q,j=off+q:=⟨j - off,by omega⟩
   rw [if_pos (show off+q<off+l.length by omega),if_neg (show ¬ off+q<off by omega)]
   have hq:off+q - off=q:=by omega
   rw [hq]
   by_cases c3:q<i.toNat
   ·rw [if_pos (by omega),if_pos (by omega),if_pos (by omega),if_neg (by omega),e q (by omega)]
   ·by_cases c4:q=i.toNat
    ·subst c4
     rw [if_pos (by omega),if_neg (by omega)]
     simp [hlt]
    ·rw [if_neg (by omega),if_neg (by omega),<- e q (by omega)]
     congr 1; omega
  ·rw [if_neg (by omega),if_neg (by omega)]
   congr 1; omega
theorem c1d {a b i v x:Int} (h:get [a,b] i=some x):([a,b].set i.toNat v)=[b1n i 0 v a,b1n i 1 v b]:=by
 have h0:=b05 h
 have h1:=b06 h
 have : i=0\/i=1:=by simp at h1; omega
 rcases this with rfl|rfl <;> rfl
end
attribute [go_sem ↓] d88 d89 j4s j5t j6t j4g j5h j6h g0x
attribute [go_sem] d88 d89 g0x l5h c2m eS
end Go.Nw
namespace Go.Nw
theorem u8y:b2k "#li"=some (.look false false):=rfl
theorem j8c:b2k "#lj"=some (.look false true):=rfl
theorem g1s:b2k "#ls"=some (.look true false):=rfl
theorem g1t:b2k "#pi"=some (.put false):=rfl
theorem j8d:b2k "#ps"=some (.put true):=rfl
theorem c0a {l:List Int} {i x:Int} (h:get l i=some x):Int.toNat i+1<=l.length:=by
 have := b06 h; have:=b05 h; omega
section
variable {k1:AV->Prop}
theorem L0t {cs:List AV} {l:List Int} {i x:Int} (h:get l i=some x) (hc:(cs.drop 0).take l.length=l.map I):@c0b cs i.toNat ⟨k1⟩=k1 (I x):=by
 have := c0c (k1:=k1) h hc
 rwa [Nat.zero_add] at this
theorem o9p {cs:List AV} {l:List Int} {i x v:Int} (h:get l i=some x) (hc:(cs.drop 0).take l.length=l.map I):cs.take i.toNat++[I v]++cs.drop (i.toNat+1)=cs.take 0++(l.set i.toNat v).map I++cs.drop (0+l.length):=by
 have := c1e (v:=v) h hc
 rwa [Nat.zero_add] at this
end
theorem K83 {a b c i v x:Int} (h:get [a,b,c] i=some x):([a,b,c].set i.toNat v)=[b1n i 0 v a,b1n i 1 v b,b1n i 2 v c]:=by
 have h0:=b05 h
 have h1:=b06 h
 have : i=0\/i=1\/i=2:=by simp at h1; omega
 rcases this with rfl|rfl|rfl <;> rfl
attribute [go_sem] vI vB vS
end Go.Nw
namespace Go.Nw
section
variable {O:Orac} {h:Heap} {k:AV->Heap->Prop} {t:Slots} {d:Option Nat} {g:Nat} {b0:Bool} {r:List XO} {K:Slots->Heap->Prop}
theorem j5g {sz len x i}:b0d O (⟨d,some (g,b0),.ixP sz len x i⟩ :: r) K t h=@b2h (t g) b0 ⟨@iop O (.ixP sz len x i) (upd t g (B b0)) h ⟨fun v h'=>b0d O r K (b0l (upd t g (B b0)) d v) h'⟩⟩ ⟨b0d O r K (b0l (upd t g (B (!b0))) d U) h⟩ ⟨b0d O r K (b0l t d U) h⟩:=b2l rfl
def d96 (sz len:Nat) (agg:Bool) (x i:AV) (h:Heap) [k:K2]:Prop:=∃ r h',eff (.ixV sz len agg (.t 0) (.t 1)) (evT fun j=>if j=0 then x else i) h=some (r,h')/\k.k r h'
theorem j4h {sz len agg x i}:b0d O (⟨d,none,.ixV sz len agg x i⟩ :: r) K t h=@iop O (.ixV sz len agg x i) t h ⟨fun v h'=>b0d O r K (b0l t d v) h'⟩:=b2n rfl
theorem j5i {sz len agg x i}:b0d O (⟨d,some (g,b0),.ixV sz len agg x i⟩ :: r) K t h=@b2h (t g) b0 ⟨@iop O (.ixV sz len agg x i) (upd t g (B b0)) h ⟨fun v h'=>b0d O r K (b0l (upd t g (B b0)) d v) h'⟩⟩ ⟨b0d O r K (b0l (upd t g (B (!b0))) d U) h⟩ ⟨b0d O r K (b0l t d U) h⟩:=b2l rfl
theorem j6i {sz len agg x i}:@iop O (.ixV sz len agg x i) t h ⟨k⟩=@d96 sz len agg (evT t x) (evT t i) h ⟨k⟩:=by
 show op1 _ _ _ _ _=_
 simp only [op1,d96,eff,evT,if_true,Nat.one_ne_zero,if_false]
theorem o9i {cs:List AV} {n:Nat} {l:List Int} {i x:Int} {kd:IntKind} (hg:get l i=some x) (hn:n=l.length) (hc:cs=l.map I):@d96 1 n false (.agg cs) (.v (.int kd i)) h ⟨k⟩=k (I x) h:=by
 have h0:=b05 hg
 have h1:=b06 hg
 have h2:=b8j hg
 simp only [d96,eff,evT,if_true,Nat.one_ne_zero,if_false]
 rw [if_pos ⟨h0,by rw [hn]; exact h1⟩]
 subst hc
 simp only [fT9,if_false,Nat.mul_one,List.getElem?_map,h2,Option.map_some,iE9,Prod.mk.injEq]
 apply propext
 exact ⟨fun ⟨_,_,⟨e1,e2⟩,hk⟩=>by subst e1; subst e2; exact hk,fun hk=>⟨_,_,⟨rfl,rfl⟩,hk⟩⟩
end
attribute [go_sem ↓] j5g j4h j5i j6i
end Go.Nw
namespace Go.Nw
theorem d1l {O:Orac} {a:XCode} {Q:XExit->Slots->Heap->Prop} {t:Slots} {h:Heap} (hw:cw O (.seq a .skip) Q t h):cw O a Q t h:=by
 refine s8m a ?_ hw
 intro e s hq
 cases e <;> exact hq
end Go.Nw
namespace Go.Nw
theorem j64 {id:Nat} {k:AV->Prop}:@b4y (.mp id) ⟨k⟩=k (.mp id):=rfl
attribute [go_sem] j64
end Go.Nw
namespace Go.Nw
end Go.Nw
namespace Go.Nw
section
variable {O:Orac} {h:Heap} {t:Slots} {d:Option Nat} {g:Nat} {b0:Bool} {r:List XO} {K:Slots->Heap->Prop}
theorem j5a {f l}:b0d O (⟨d,some (g,b0),.callw f l⟩ :: r) K t h=@b2h (t g) b0 ⟨@iop O (.callw f l) (upd t g (B b0)) h ⟨fun v h'=>b0d O r K (b0l (upd t g (B b0)) d v) h'⟩⟩ ⟨b0d O r K (b0l (upd t g (B (!b0))) d U) h⟩ ⟨b0d O r K (b0l t d U) h⟩:=b2l rfl
end
attribute [go_sem ↓] j5a
end Go.Nw
namespace Go.Nw
section
variable {O:Orac} [MapsOk O] {h:Heap} {k:AV->Heap->Prop} {t:Slots}
theorem d19 (hk:k (I 0) h):@s3q O "#cap" [.v (.slice none 0 0)] h ⟨k⟩:=b79 (k:=.cap) rfl rfl hk
theorem j3z {n:Int} {z:Value} (h0:0<n) (h1:n * 16<=2 ^ 40) (hk:k (.rs h.nx 0 n.toNat) (h.new (1,List.replicate n.toNat [.v z]))):@s3q O "#ax" [.v (.slice none 0 0),I n,.v z] h ⟨k⟩:=by
 refine b79 (k:=.ax) rfl (r:=.rs h.nx 0 n.toNat) (h':=h.new (1,List.replicate n.toNat [.v z])) ?_ hk
 show (if 0<n/\n * 16<=2 ^ 40 then _ else none)=_
 rw [if_pos ⟨h0,h1⟩]
theorem j6x {n:Nat} (hk:k (.v (.slice none 0 0)) h):@d2q n (.v (.slice none 0 0)) none (some (I 0)) h ⟨k⟩:=⟨_,_,rfl,hk⟩
theorem j6y {n id m:Nat} {rows:List (List AV)} (ho:h.ob id=some (n,rows)) (hk:k (.rs id 0 0) h):@d2q n (.rs id 0 m) none (some (I 0)) h ⟨k⟩:=by
 refine ⟨.rs id 0 0,h,?_,hk⟩
 simp only [b2x,bS9,b5d,b5i,ho]
 simp
theorem g9t {n id sz:Nat} {rows:List (List AV)} (ht:t n = .rs id 0 0) (ho:h.ob id=some (sz,rows)) (hp:∀ r∈rows,r.length=sz/\∀ c∈r,∃ x,c = .v x) :
  b4b [.t n] (.rs 0 0 0) [(sz,rows)] ⟨t,h⟩:=by
 refine .inr ⟨[t n],[id],rfl,rfl,by simp,?_,fun k sz' ds hh=>?_⟩
 ·show Ren _ (t n) _
  rw [ht]
  exact .rs id 0 0 _ (by simp [List.range_succ,List.find?])
 ·cases k with
  | zero =>
   simp only [List.getElem?_cons_zero,iE9,Prod.mk.injEq] at hh
   obtain ⟨rfl,rfl⟩:=hh
   refine ⟨id,rows,rfl,ho,rfl,fun r hr=>(hp r hr).1,fun i j c hc=>⟨c,hc,?_⟩⟩
   obtain ⟨r,h1,h2⟩:=b9m hc
   obtain ⟨x,rfl⟩:=(hp r (mG9 h1)).2 c (mG9 h2)
   exact .frz _ (.v x)
  | succ k=>simp at hh
theorem j4v {f:String} {as:List AV} {sz:Nat} {rows:List (List AV)} (hz:∀ a∈as,Frz a) (hf:O f as (.rs 0 0 0) [(sz,rows)]) (hp:∀ r∈rows,r.length=sz/\∀ c∈r,∃ x,c = .v x)
  (hk : k (.rs h.nx 0 0) (h.new (sz,rows))):@K5x O f as h ⟨k⟩:=by
 refine ⟨_,_,⟨as,_,[(sz,rows)],[(sz,rows)],.frz hz,hf,.inl hz,.rs 0 (h.nx+0) 0 _ (by simp),rfl,fun k sz' es hh=>?_,rfl⟩,hk⟩
 cases k with
 | zero =>
  simp only [List.getElem?_cons_zero,iE9,Prod.mk.injEq] at hh
  obtain ⟨rfl,rfl⟩:=hh
  refine ⟨_,rfl,rfl,fun r hr=>(hp r hr).1,fun i j c hc=>⟨c,hc,?_⟩⟩
  obtain ⟨r,h1,h2⟩:=b9m hc
  obtain ⟨x,rfl⟩:=(hp r (mG9 h1)).2 c (mG9 h2)
  exact .frz _ (.v x)
 | succ k=>simp at hh
theorem j3v {α:Type} {f:α->List AV} {sz b id:Nat} {l m r:List α} {es:List (List AV)} (ho:h.ob id=some (sz,es)) (he:es.take l.length=List.map f l) (hl:l.length<=es.length)
  (ha : ap b l m=some r) (hk:k (.rs h.nx 0 (List.length r)) ((h.upd id none).new (sz,List.map f r))):@b8k sz b (.rs id 0 (List.length l)) (.fs sz (List.map f m)) h ⟨k⟩:=by
 obtain ⟨hb,rfl⟩:=r9o ha
 rw [List.length_append,List.map_append,<- he] at hk
 refine ⟨_,_,?_,hk⟩
 simp only [eff,evT,if_true,Nat.one_ne_zero,if_false,ho,bS9,List.length_map]
 rw [if_pos ⟨trivial,trivial,by omega,hb⟩]
 simp
theorem j3x {sz b n:Nat} (hk:k (.v (.slice none 0 0)) h):@b8k sz b (.v (.slice none 0 0)) (.fs n []) h ⟨k⟩:=⟨_,_,rfl,hk⟩
theorem g2n:c5y eS 1:=fun a=>⟨rfl,fun c hc=>⟨_,List.mem_singleton.1 hc⟩⟩
end
theorem c9m {α:Type} {ls:List (List α)} {i:Nat} {x:List α} (h:ls[i]?=some x):(ls.take (i+1)).flatten=(ls.take i).flatten++x:=by
 rw [List.take_add_one,h]; simp
end Go.Nw
namespace Go.Nw
theorem l0p {v w:AV} {j:Nat} (e:v=w) (h:b07 v j):b07 w j:=e ▸ h
end Go.Nw
