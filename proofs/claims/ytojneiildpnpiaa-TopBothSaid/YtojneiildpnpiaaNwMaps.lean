/- Own maps, typed: as lists of keys with what is laid there. -/
import Derived.Test.YtojneiildpnpiaaNwWcall
import Derived.Test.YtojneiildpnpiaaNwMap
set_option linter.all false
namespace Go.Nw
section
variable {κ ν:Type} [DecidableEq κ]
def b2u:List (κ × ν)->κ->Nat->Option (Nat × ν)
 | [],_,_=>none
 | p :: l,k,i=>if k=p.1 then some (i,p.2) else b2u l k (i+1)
def b7g (l:List (κ × ν)) (k:κ):Option ν:=(b2u l k 0).map (·.2)
def b2w (l:List (κ × ν)) (k:κ) (z:ν):ν:=(b7g l k).getD z
def b6m (l:List (κ × ν)) (k:κ):Bool:=(b7g l k).isSome
def b3w (l:List (κ × ν)) (k:κ) (v:ν):List (κ × ν):=match b2u l k 0 with|some (i,_)=>l.set i (k,v)|none=>l++[(k,v)]
def eM (fk:κ->Value) (fv:ν->Value) (p:κ × ν):List AV:=[.v (fv p.2),.v (fk p.1)]
def vI (n:Int):Value:=.int .i64 n
def vB (b:Bool):Value:=.bool b
def vS (s:ByteArray):Value:=.string s
theorem c7t {str:Bool} {fk:κ->Value} {fv:ν->Value} (hk:∀ a b,b3o str (fk a) (fk b)=some (decide (a=b))) (k:κ):∀ (l:List (κ × ν)) (i:Nat),
  b3p str (fk k) (l.map (eM fk fv)) i=some ((b2u l k i).map fun p=>(p.1,fv p.2))
 | [],i=>rfl
 | p :: l,i=>by
  simp only [List.map_cons,eM,b3p,hk,b2u]
  by_cases h:k=p.1
  ·simp [h]
  ·simp only [h,decide_false,if_false]
   exact c7t hk k l (i+1)
theorem g1l {two:Bool} {fv:ν->Value} {z:ν} (l:List (κ × ν)) (k:κ):c7u two (fv z) ((b2u l k 0).map fun p=>(p.1,fv p.2))=if two then .tup [.v (fv (b2w l k z)),.v (.bool (b6m l k))] else .v (fv (b2w l k z)):=by
 unfold b2w b6m b7g
 cases b2u l k 0 <;> cases two <;> rfl
theorem j74 {fk:κ->Value} {fv:ν->Value} (l:List (κ × ν)) (k:κ) (v:ν):b6l (l.map (eM fk fv)) (fk k) (fv v) ((b2u l k 0).map fun p=>(p.1,fv p.2))=(b3w l k v).map (eM fk fv):=by
 unfold b3w
 cases b2u l k 0 with
 | none=>simp [b6l,eM]
 | some p=>simp [b6l,eM,List.map_set]
end
section
variable {O:Orac} [MapsOk O] {h:Heap} {k:AV->Heap->Prop} {κ ν:Type} [DecidableEq κ] {fk:κ->Value} {fv:ν->Value} {str:Bool}
theorem g0d {e:List (List AV)} (he:e=[]) (hk:k (.mp h.nx) (h.new (0,e))):@s3q O "#mk" [] h ⟨k⟩:=by
 subst he; exact b79 (k:=.mk) rfl rfl hk
theorem g0c {f:String} {id:Nat} {key:AV} {n:Int} {l:List (κ × ν)} {x:κ} {z:ν} (hm:b2k f=some (.look str false)) (hkk:∀ a b,b3o str (fk a) (fk b)=some (decide (a=b))) (hv:b6j n key=some (fk x)) (ho:h.ob id=some (0,l.map (eM fk fv)))
  (hk : k (.v (fv (b2w l x z))) h):@s3q O f [.mp id,key,.v (fv z),I n] h ⟨k⟩:=by
 refine b79 hm (r:=.v (fv (b2w l x z))) (h':=h) ?_ hk
 simp only [b2i,ho,bS9,hv,if_true,c7t hkk,Option.map_some,g1l,fT9,if_false]
theorem d2i {f:String} {id:Nat} {key:AV} {n:Int} {l:List (κ × ν)} {x:κ} {v:ν} (hm:b2k f=some (.put str)) (hkk:∀ a b,b3o str (fk a) (fk b)=some (decide (a=b))) (hv:b6j n key=some (fk x)) (ho:h.ob id=some (0,l.map (eM fk fv)))
  (hk : k .dead (h.upd id (some (0,(b3w l x v).map (eM fk fv))))):@s3q O f [.mp id,key,.v (fv v),I n] h ⟨k⟩:=by
 refine b79 hm (r:=.dead) (h':=h.upd id (some (0,(b3w l x v).map (eM fk fv)))) ?_ hk
 simp only [b2i,ho,bS9,hv,if_true,c7t hkk,Option.map_some,j74]
theorem g64 {a b:ByteArray} (h:a.toList=b.toList):a=b:=by
 rw [Go.ByteArray.toList_eq,Go.ByteArray.toList_eq] at h
 cases a; cases b; simp only [ByteArray.mk.injEq]; exact Array.ext' h
theorem d07 (a b:ByteArray):(a.toList == b.toList)=decide (a=b):=by
 by_cases h:a=b
 ·rw [decide_eq_true h,h]; exact beq_self_eq_true _
 ·rw [decide_eq_false h,beq_eq_false_iff_ne]
  exact fun e=>h (g64 e)
end
end Go.Nw
namespace Go.Nw
def b3q (s:ByteArray):List Int:=s.data.toList.map fun b=>(b.toNat:Int)
def c2m (x:Int):List AV:=[.v (.int .u8 x)]
def eS (x:ByteArray):List AV:=[.v (.string x)]
theorem l5h {l:List ByteArray} {n:Nat} {v:ByteArray}:(List.map eS l).set n [.v (.string v)]=List.map eS (l.set n v):=by rw [List.map_set]; rfl
section
variable {O:Orac} {h:Heap} {k:AV->Heap->Prop} {k1:AV->Prop} {t:Slots} {d:Option Nat} {g:Nat} {b0:Bool} {r:List XO} {K:Slots->Heap->Prop}
def chr (n:Int):ByteArray:=Utf8.encode n
theorem d88 {e:EqK} {a b:ByteArray}:@b2g .eql e (.v (.string a)) (.v (.string b)) ⟨k1⟩=k1 (B (decide (a=b))):=by
 show b1u _ _ _ _ _=_
 simp only [b1u,b3f,p2d,d07,Option.map_some,iE9,exists_eq_left']
theorem d89 {e:EqK} {a b:ByteArray}:@b2g .neq e (.v (.string a)) (.v (.string b)) ⟨k1⟩=k1 (B (!(decide (a=b)))):=by
 show b1u _ _ _ _ _=_
 simp only [b1u,b3f,p2d,d07,Option.map_some,iE9,exists_eq_left']
theorem j4s {x}:b0d O (⟨d,none,.len true x⟩ :: r) K t h=@iop O (.len true x) t h ⟨fun v h'=>b0d O r K (b0l t d v) h'⟩:=b2n rfl
theorem j5t {x}:b0d O (⟨d,some (g,b0),.len true x⟩ :: r) K t h=@b2h (t g) b0 ⟨@iop O (.len true x) (upd t g (B b0)) h ⟨fun v h'=>b0d O r K (b0l (upd t g (B b0)) d v) h'⟩⟩ ⟨b0d O r K (b0l (upd t g (B (!b0))) d U) h⟩ ⟨b0d O r K (b0l t d U) h⟩:=b2l rfl
def c7k (x:AV) [k:K1 Int]:Prop:=∃ s,x = .v (.string s)/\k.k s.size
theorem j6t {x}:@iop O (.len true x) t h ⟨k⟩=@c7k (evT t x) ⟨fun n=>k (I n) h⟩:=by
 simp only [iop,op1,c7k,eff,if_true]
 generalize evT t x=y
 apply propext; constructor
 ·rintro ⟨r,h',he,hk⟩
  split at he
  ·cases he; exact ⟨_,rfl,hk⟩
  ·cases he
 ·rintro ⟨s,rfl,hk⟩; exact ⟨_,_,rfl,hk⟩
theorem g0x {s:ByteArray} {k:Int->Prop}:@c7k (.v (.string s)) ⟨k⟩=k s.size:=by
 simp only [c7k,AV.v.injEq,Value.string.injEq,exists_eq_left']
theorem j4g {x i}:b0d O (⟨d,none,.ixS x i⟩ :: r) K t h=@iop O (.ixS x i) t h ⟨fun v h'=>b0d O r K (b0l t d v) h'⟩:=b2n rfl
theorem j5h {x i}:b0d O (⟨d,some (g,b0),.ixS x i⟩ :: r) K t h=@b2h (t g) b0 ⟨@iop O (.ixS x i) (upd t g (B b0)) h ⟨fun v h'=>b0d O r K (b0l (upd t g (B b0)) d v) h'⟩⟩ ⟨b0d O r K (b0l (upd t g (B (!b0))) d U) h⟩ ⟨b0d O r K (b0l t d U) h⟩:=b2l rfl
def d2e (x i:AV) [k:K1 Int]:Prop:=∃ s kd n b,x = .v (.string s)/\i = .v (.int kd n)/\get (b3q s) n=some b/\k.k b
theorem j6h {x i}:@iop O (.ixS x i) t h ⟨k⟩=@d2e (evT t x) (evT t i) ⟨fun n=>k (.v (.int .u8 n)) h⟩:=by
 simp only [iop,op1,d2e,eff]
 generalize evT t x=y
 generalize evT t i=z
 apply propext; constructor
 ·rintro ⟨r,h',he,hk⟩
  split at he
  ·rename_i s kd n
   split at he
   ·rename_i h0
    cases hb:s.data.toList[n.toNat]? with
    | none=>simp [hb] at he
    | some b =>
     simp only [hb,Option.map_some,iE9,Prod.mk.injEq] at he
     obtain ⟨rfl,rfl⟩:=he
     exact ⟨s,kd,n,_,rfl,rfl,by simp [get,h0,b3q,List.getElem?_map,hb],hk⟩
   ·cases he
  ·cases he
 ·rintro ⟨s,kd,n,b,rfl,rfl,hb,hk⟩
  have h0:=b05 hb
  have h1:=b8j hb
  simp only [b3q,List.getElem?_map,mE9] at h1
  obtain ⟨c,hc,rfl⟩:=h1
  exact ⟨_,_,by simp only [if_pos h0,hc,Option.map_some],hk⟩
end
attribute [go_sem ↓] d88 d89 j4s j5t j6t j4g j5h j6h g0x
attribute [go_sem] d88 d89 g0x l5h c2m eS
end Go.Nw
namespace Go.Nw
theorem u8y:b2k "#li"=some (.look false false):=rfl
theorem g1t:b2k "#pi"=some (.put false):=rfl
theorem C0m (a b:Int):b3o false (vI a) (vI b)=some (decide (a=b)):=by
 rw [show b3o false (vI a) (vI b)=if a == b then some true else some false from rfl]
 by_cases h:a=b <;> simp [h]
section
variable {k1:AV->Prop}
end
attribute [go_sem] vI vB vS
end Go.Nw
namespace Go.Nw
section
variable {O:Orac} {h:Heap} {k:AV->Heap->Prop} {t:Slots} {d:Option Nat} {g:Nat} {b0:Bool} {r:List XO} {K:Slots->Heap->Prop}
theorem j5g {sz len x i}:b0d O (⟨d,some (g,b0),.ixP sz len x i⟩ :: r) K t h=@b2h (t g) b0 ⟨@iop O (.ixP sz len x i) (upd t g (B b0)) h ⟨fun v h'=>b0d O r K (b0l (upd t g (B b0)) d v) h'⟩⟩ ⟨b0d O r K (b0l (upd t g (B (!b0))) d U) h⟩ ⟨b0d O r K (b0l t d U) h⟩:=b2l rfl
def d96 (sz len:Nat) (agg:Bool) (x i:AV) (h:Heap) [k:K2]:Prop:=∃ r h',eff (.ixV sz len agg (.t 0) (.t 1)) (evT fun j=>if j=0 then x else i) h=some (r,h')/\k.k r h'
theorem j4h {sz len agg x i}:b0d O (⟨d,none,.ixV sz len agg x i⟩ :: r) K t h=@iop O (.ixV sz len agg x i) t h ⟨fun v h'=>b0d O r K (b0l t d v) h'⟩:=b2n rfl
theorem j5i {sz len agg x i}:b0d O (⟨d,some (g,b0),.ixV sz len agg x i⟩ :: r) K t h=@b2h (t g) b0 ⟨@iop O (.ixV sz len agg x i) (upd t g (B b0)) h ⟨fun v h'=>b0d O r K (b0l (upd t g (B b0)) d v) h'⟩⟩ ⟨b0d O r K (b0l (upd t g (B (!b0))) d U) h⟩ ⟨b0d O r K (b0l t d U) h⟩:=b2l rfl
theorem j6i {sz len agg x i}:@iop O (.ixV sz len agg x i) t h ⟨k⟩=@d96 sz len agg (evT t x) (evT t i) h ⟨k⟩:=by
 show op1 _ _ _ _ _=_
 simp only [op1,d96,eff,evT,if_true,Nat.one_ne_zero,if_false]
end
attribute [go_sem ↓] j5g j4h j5i j6i
end Go.Nw
namespace Go.Nw
end Go.Nw
namespace Go.Nw
theorem j64 {id:Nat} {k:AV->Prop}:@b4y (.mp id) ⟨k⟩=k (.mp id):=rfl
attribute [go_sem] j64
end Go.Nw
namespace Go.Nw
end Go.Nw
namespace Go.Nw
section
variable {O:Orac} {h:Heap} {t:Slots} {d:Option Nat} {g:Nat} {b0:Bool} {r:List XO} {K:Slots->Heap->Prop}
theorem j5a {f l}:b0d O (⟨d,some (g,b0),.callw f l⟩ :: r) K t h=@b2h (t g) b0 ⟨@iop O (.callw f l) (upd t g (B b0)) h ⟨fun v h'=>b0d O r K (b0l (upd t g (B b0)) d v) h'⟩⟩ ⟨b0d O r K (b0l (upd t g (B (!b0))) d U) h⟩ ⟨b0d O r K (b0l t d U) h⟩:=b2l rfl
end
attribute [go_sem ↓] j5a
end Go.Nw
namespace Go.Nw
section
variable {O:Orac} [MapsOk O] {h:Heap} {k:AV->Heap->Prop} {t:Slots}
end
end Go.Nw
namespace Go.Nw
end Go.Nw
