/- One rule for each operation. -/
import Derived.Test.YtojneiildpnpiaaNwVcg
set_option linter.all false
namespace Go.Nw
def nxs (n:Nat):Nat:=n+1
def b5c (a b:Bool):Bool:=a == b
def s3s {α:Type} (l:List α) (i:Int) (k:α->Prop):Prop:=∃ a,0<=i/\l[i.toNat]?=some a/\k a
def b4x (cs:List AV) (i:Nat) (k:AV->Prop):Prop:=∃ v,cs[i]?=some v/\k v
def b5m (agg:Bool) (n:Nat) (cs:List AV) (off:Nat) (k:AV->Prop):Prop:=if agg then off+n<=cs.length/\k (.agg ((cs.drop off).take n)) else b4x cs off k
def b7r (o:Option Ob) (i:Nat) (k:Nat->List (List AV)->List AV->Prop):Prop:=∃ sz es cs,o=some (sz,es)/\es[i]?=some cs/\k sz es cs
def obK (o:Option Ob) (k:Nat->List (List AV)->Prop):Prop:=∃ sz es,o=some (sz,es)/\k sz es
def d33 (agg:Bool) (n:Nat) (x:AV) (h:Heap) (k:AV->Prop):Prop :=
 match x with
 | .fp cs off=>b5m agg n cs off k
 | .rp id i off=>b7r (h.ob id) i fun _ _ cs=>b5m agg n cs off k
 | _=>False
def d5h (n:Nat) (a x:AV) (h:Heap) (k:Heap->Prop):Prop :=
 match a with
 | .rp id i off=>b7r (h.ob id) i fun sz es cs=>b2d x=true/\(cellsOf x).length=n/\off+n<=cs.length/\k (h.upd id (some (sz,es.set i (cs.take off++cellsOf x++cs.drop (off+n)))))
 | _=>False
def c3z (c:AV) (p q:Prop):Prop:=match c with | .v (.bool true)=>p | .v (.bool false)=>q|_=>False
def b4e (x:AV) (k:List AV->Prop):Prop:=b2d x=true/\k (cellsOf x)
def d4f (x:AV) (h:Heap) (k:AV->Prop):Prop :=
 match x with | .fp cs off=>k (.fp cs off) | .rp id i off=>(h.ob id).isSome=true/\k (.rp id i off) | .fn f a b=>k (.fn f a b)|_=>False
def d11 (off:Nat) (x:AV) (h:Heap) (k:AV->Prop):Prop:=match x with | .fp cs o=>k (.fp cs (o+off)) | .rp id i o=>(h.ob id).isSome=true/\k (.rp id i (o+off))|_=>False
def d2r (n:Nat) (x i:AV) (h:Heap) (k:AV->Prop):Prop :=
 match x,i with
 | .fs sz es,.v (.int _ j)=>sz=n/\s3s es j fun cs=>k (.fp cs 0)
 | .rs id lo len,.v (.int _ j)=>obK (h.ob id) fun sz _=>sz=n/\0<=j/\j<len/\k (.rp id (lo+j.toNat) 0)
 | _,_=>False
def b1u (op:BinOp) (e:EqK) (x y:AV) (k:AV->Prop):Prop:=∃ r,b3f op e x y=some r/\k r
def unK (op:UnOp) (x:AV) (k:AV->Prop):Prop:=∃ r,b7u op x=some r/\k r
def b6k (x:AV) (k:Int->Prop):Prop:=∃ n,b2x x=some n/\k n
def d1s (x:AV) (i:Nat) (k:AV->Prop):Prop:=match x with | .tup vs=>b4x vs i k|_=>False
section
variable {O:Orac} {t:Slots} {h:Heap} {k:AV->Heap->Prop}
theorem ex1 {a:AV} {b:Heap} {k:AV->Heap->Prop}:(∃ r h',some (a,b)=some (r,h')/\k r h')=k a b:=by
 apply propext; constructor
 ·rintro ⟨r,h',e,hk⟩; cases e; exact hk
 ·exact fun hk=>⟨_,_,rfl,hk⟩
theorem ex0 {k:AV->Heap->Prop}:(∃ r h',(none:Option (AV × Heap))=some (r,h')/\k r h')=False:=by simp
theorem l2y {x}:op1 O (.mv x) t h k=k (evT t x) h:=by simp only [op1,eff,ex1]
theorem x1d {c a b}:op1 O (.pick c a b) t h k=c3z (evT t c) (k (evT t a) h) (k (evT t b) h):=by
 simp only [op1,eff]
 generalize evT t c=x
 cases x with
 | v y=>cases y with
  | bool z=>cases z <;> simp only [c3z,ex1,if_true,fT9,if_false]
  | _=>simp only [c3z,ex0]
 | _=>simp only [c3z,ex0]
theorem l2p {x}:op1 O (.boxF x) t h k=b4e (evT t x) fun cs=>k (.fp cs 0) h:=rfl
theorem l2o {x}:op1 O (.box x) t h k=b4e (evT t x) fun cs=>cs.isEmpty=false/\k (.rp h.nx 0 0) (h.new (cs.length,[cs])):=by
 simp only [op1,eff,b4e]
 apply propext; constructor
 ·rintro ⟨r,h',he,hk⟩; split at he
  ·rename_i ho; cases he; exact ⟨ho.1,ho.2,hk⟩
  ·cases he
 ·rintro ⟨h1,h0,h2⟩; exact ⟨_,_,by rw [if_pos ⟨h1,h0⟩],h2⟩
theorem l2m {zs}:op1 O (.alloc zs) t h k=k (.rp h.nx 0 0) (h.new (zs.length,[zs.map .v])):=by simp only [op1,eff,ex1]
theorem l2w {agg n a}:op1 O (.load agg n a) t h k=d33 agg n (evT t a) h fun v=>k v h:=by
 simp only [op1,eff,d33]
 have cells:∀ cs off,(∃ r h',(if agg=true then (if off+n<=cs.length then some (AV.agg (List.take n (List.drop off cs)),h) else none) else Option.map (fun x=>(x,h)) cs[off]?)=some (r,h')/\k r h')=b5m agg n cs off fun v=>k v h:=by
  intro cs off
  unfold b5m b4x
  cases agg with
  | true =>
   simp only [if_true]
   apply propext; constructor
   ·rintro ⟨r,h',he,hk⟩; split at he
    ·rename_i ho; cases he; exact ⟨ho,hk⟩
    ·cases he
   ·rintro ⟨h1,h2⟩; exact ⟨_,_,by rw [if_pos h1],h2⟩
  | false =>
   simp only [fT9,if_false,mE9]
   apply propext; constructor
   ·rintro ⟨r,h',⟨x,h1,h2⟩,hk⟩; cases h2; exact ⟨_,h1,hk⟩
   ·rintro ⟨v,h1,h2⟩; exact ⟨v,h,⟨v,h1,rfl⟩,h2⟩
 generalize evT t a=x
 cases x with
 | fp cs off=>exact cells cs off
 | rp id i off =>
  simp only [b7r]
  apply propext; constructor
  ·rintro ⟨r,h',he,hk⟩
   simp only [bE9] at he
   obtain ⟨⟨sz,es⟩,h1,cs,h2,he⟩:=he
   exact ⟨sz,es,cs,h1,h2,by rw [<- cells]; exact ⟨r,h',he,hk⟩⟩
  ·rintro ⟨sz,es,cs,h1,h2,h3⟩
   rw [<- cells] at h3
   obtain ⟨r,h',he,hk⟩:=h3
   exact ⟨r,h',by simp only [h1,bS9,h2]; exact he,hk⟩
 | _=>simp
theorem l24 {n a x}:op1 O (.store n a x) t h k=d5h n (evT t a) (evT t x) h fun h'=>k .dead h':=by
 simp only [op1,eff,d5h]
 generalize evT t a=y
 cases y with
 | rp id i off =>
  simp only [b7r]
  apply propext; constructor
  ·rintro ⟨r,h',he,hk⟩
   simp only [bE9] at he
   obtain ⟨⟨sz,es⟩,h1,cs,h2,he⟩:=he
   split at he
   ·rename_i hc; cases he; exact ⟨sz,es,cs,h1,h2,hc.1,hc.2.1,hc.2.2,hk⟩
   ·cases he
  ·rintro ⟨sz,es,cs,h1,h2,h3,h4,h5,h6⟩
   exact ⟨_,_,by simp only [h1,bS9,h2]; rw [if_pos ⟨h3,h4,h5⟩],h6⟩
 | _=>simp
theorem l2z {x}:op1 O (.nilck x) t h k=d4f (evT t x) h fun v=>k v h:=by
 simp only [op1,eff,d4f]
 generalize evT t x=y
 cases y with
 | rp id i off =>
  cases ho:h.ob id with
  | none=>simp only [ho,Option.bind_none,ex0,Option.isSome_none,fT9,false_and]
  | some o=>simp only [ho,bS9,ex1,Option.isSome_some,true_and]
 | fp cs off=>exact ex1
 | fn f a b=>first|exact ex1|exact ex0
 | _=>exact ex0
theorem l2t {o x}:op1 O (.fldA o x) t h k=d11 o (evT t x) h fun v=>k v h:=by
 simp only [op1,eff,d11]
 generalize evT t x=y
 cases y with
 | rp id i off =>
  cases ho:h.ob id with
  | none=>simp only [ho,Option.bind_none,ex0,Option.isSome_none,fT9,false_and]
  | some o=>simp only [ho,bS9,ex1,Option.isSome_some,true_and]
 | fp cs off=>exact ex1
 | fn f a b=>first|exact ex1|exact ex0
 | _=>exact ex0
theorem l2u {n x i}:op1 O (.ixA n x i) t h k=d2r n (evT t x) (evT t i) h fun v=>k v h:=by
 simp only [op1,eff,d2r]
 generalize evT t x=y
 generalize evT t i=z
 cases y with
 | fs sz es =>
  cases z with
  | v w=>cases w with
   | int kd j =>
    simp only [s3s]
    apply propext; constructor
    ·rintro ⟨r,h',he,hk⟩
     split at he
     ·rename_i hc
      simp only [mE9] at he
      obtain ⟨cs,h1,h2⟩:=he
      cases h2
      exact ⟨hc.1,cs,hc.2,h1,hk⟩
     ·cases he
    ·rintro ⟨h1,cs,h2,h3,h4⟩
     exact ⟨_,_,by rw [if_pos ⟨h1,h2⟩,h3]; rfl,h4⟩
   | _=>simp
  | _=>simp
 | rs id lo len =>
  cases z with
  | v w=>cases w with
   | int kd j =>
    simp only [obK]
    apply propext; constructor
    ·rintro ⟨r,h',he,hk⟩
     simp only [bE9] at he
     obtain ⟨⟨sz,es⟩,h1,he⟩:=he
     split at he
     ·rename_i hc; cases he; exact ⟨sz,es,h1,hc.1,hc.2.1,hc.2.2,hk⟩
     ·cases he
    ·rintro ⟨sz,es,h1,h2,h3,h4,h5⟩
     exact ⟨_,_,by simp only [h1,bS9]; rw [if_pos ⟨h2,h3,h4⟩],h5⟩
   | _=>simp
  | _=>simp
 | _=>simp
theorem l2n {op e x y}:op1 O (.bin op e x y) t h k=b1u op e (evT t x) (evT t y) fun v=>k v h:=by
 simp only [op1,eff,b1u,mE9]
 apply propext; constructor
 ·rintro ⟨r,h',⟨v,h1,h2⟩,hk⟩; cases h2; exact ⟨_,h1,hk⟩
 ·rintro ⟨v,h1,h2⟩; exact ⟨v,h,⟨v,h1,rfl⟩,h2⟩
theorem l26 {op x}:op1 O (.un op x) t h k=unK op (evT t x) fun v=>k v h:=by
 simp only [op1,eff,unK,mE9]
 apply propext; constructor
 ·rintro ⟨r,h',⟨v,h1,h2⟩,hk⟩; cases h2; exact ⟨_,h1,hk⟩
 ·rintro ⟨v,h1,h2⟩; exact ⟨v,h,⟨v,h1,rfl⟩,h2⟩
theorem l2v {x}:op1 O (.len false x) t h k=b6k (evT t x) fun n=>k (I n) h:=by
 simp only [op1,eff,b6k,fT9,if_false,mE9]
 apply propext; constructor
 ·rintro ⟨r,h',⟨v,h1,h2⟩,hk⟩; cases h2; exact ⟨_,h1,hk⟩
 ·rintro ⟨v,h1,h2⟩; exact ⟨_,h,⟨v,h1,rfl⟩,h2⟩
theorem l2s {x i}:op1 O (.ext x i) t h k=d1s (evT t x) i fun v=>k v h:=by
 simp only [op1,eff,d1s]
 generalize evT t x=y
 cases y with
 | tup vs =>
  simp only [b4x,mE9]
  apply propext; constructor
  ·rintro ⟨r,h',⟨v,h1,h2⟩,hk⟩; cases h2; exact ⟨_,h1,hk⟩
  ·rintro ⟨v,h1,h2⟩; exact ⟨v,h,⟨v,h1,rfl⟩,h2⟩
 | _=>simp
theorem l2x {f a b}:op1 O (.mkfn f a b) t h k=k (.fn f (a.map (evT t)) (b.map (evT t))) h:=by simp only [op1,eff,ex1]
theorem l2q {f l}:op1 O (.call f l) t h k=b6z O f (l.map (evT t)) h k:=rfl
theorem l2r {f l}:op1 O (.callv f l) t h k=∃ n a b,callee (evT t f)=some (n,a,b)/\b6z O n (a++l.map (evT t)++b) h k:=rfl
end
section
variable {O:Orac} {d:Option Nat} {g:Nat} {b0:Bool} {r:List XO} {K:Slots->Heap->Prop} {t:Slots} {h:Heap}
theorem g71 {x}:b0d O (⟨d,none,.mv x⟩ :: r) K t h=op1 O (.mv x) t h (fun v h'=>b0d O r K (b0l t d v) h'):=b2n rfl
theorem j1q {x}:b0d O (⟨d,some (g,b0),.mv x⟩ :: r) K t h=b3c (t g) b0 (op1 O (.mv x) (upd t g (B b0)) h (fun v h'=>b0d O r K (b0l (upd t g (B b0)) d v) h')) (b0d O r K (b0l (upd t g (B (!b0))) d U) h) (b0d O r K (b0l t d U) h):=b2l rfl
theorem g73 {c a b}:b0d O (⟨d,none,.pick c a b⟩ :: r) K t h=op1 O (.pick c a b) t h (fun v h'=>b0d O r K (b0l t d v) h'):=b2n rfl
theorem j1s {c a b}:b0d O (⟨d,some (g,b0),.pick c a b⟩ :: r) K t h=b3c (t g) b0 (op1 O (.pick c a b) (upd t g (B b0)) h (fun v h'=>b0d O r K (b0l (upd t g (B b0)) d v) h')) (b0d O r K (b0l (upd t g (B (!b0))) d U) h) (b0d O r K (b0l t d U) h):=b2l rfl
theorem g7j {x}:b0d O (⟨d,none,.boxF x⟩ :: r) K t h=op1 O (.boxF x) t h (fun v h'=>b0d O r K (b0l t d v) h'):=b2n rfl
theorem j1h {x}:b0d O (⟨d,some (g,b0),.boxF x⟩ :: r) K t h=b3c (t g) b0 (op1 O (.boxF x) (upd t g (B b0)) h (fun v h'=>b0d O r K (b0l (upd t g (B b0)) d v) h')) (b0d O r K (b0l (upd t g (B (!b0))) d U) h) (b0d O r K (b0l t d U) h):=b2l rfl
theorem g7i {x}:b0d O (⟨d,none,.box x⟩ :: r) K t h=op1 O (.box x) t h (fun v h'=>b0d O r K (b0l t d v) h'):=b2n rfl
theorem j1g {x}:b0d O (⟨d,some (g,b0),.box x⟩ :: r) K t h=b3c (t g) b0 (op1 O (.box x) (upd t g (B b0)) h (fun v h'=>b0d O r K (b0l (upd t g (B b0)) d v) h')) (b0d O r K (b0l (upd t g (B (!b0))) d U) h) (b0d O r K (b0l t d U) h):=b2l rfl
theorem g7g {zs}:b0d O (⟨d,none,.alloc zs⟩ :: r) K t h=op1 O (.alloc zs) t h (fun v h'=>b0d O r K (b0l t d v) h'):=b2n rfl
theorem j1e {zs}:b0d O (⟨d,some (g,b0),.alloc zs⟩ :: r) K t h=b3c (t g) b0 (op1 O (.alloc zs) (upd t g (B b0)) h (fun v h'=>b0d O r K (b0l (upd t g (B b0)) d v) h')) (b0d O r K (b0l (upd t g (B (!b0))) d U) h) (b0d O r K (b0l t d U) h):=b2l rfl
theorem g7z {agg n a}:b0d O (⟨d,none,.load agg n a⟩ :: r) K t h=op1 O (.load agg n a) t h (fun v h'=>b0d O r K (b0l t d v) h'):=b2n rfl
theorem j1o {agg n a}:b0d O (⟨d,some (g,b0),.load agg n a⟩ :: r) K t h=b3c (t g) b0 (op1 O (.load agg n a) (upd t g (B b0)) h (fun v h'=>b0d O r K (b0l (upd t g (B b0)) d v) h')) (b0d O r K (b0l (upd t g (B (!b0))) d U) h) (b0d O r K (b0l t d U) h):=b2l rfl
theorem g8t {n a x}:b0d O (⟨d,none,.store n a x⟩ :: r) K t h=op1 O (.store n a x) t h (fun v h'=>b0d O r K (b0l t d v) h'):=b2n rfl
theorem j1t {n a x}:b0d O (⟨d,some (g,b0),.store n a x⟩ :: r) K t h=b3c (t g) b0 (op1 O (.store n a x) (upd t g (B b0)) h (fun v h'=>b0d O r K (b0l (upd t g (B b0)) d v) h')) (b0d O r K (b0l (upd t g (B (!b0))) d U) h) (b0d O r K (b0l t d U) h):=b2l rfl
theorem g72 {x}:b0d O (⟨d,none,.nilck x⟩ :: r) K t h=op1 O (.nilck x) t h (fun v h'=>b0d O r K (b0l t d v) h'):=b2n rfl
theorem j1r {x}:b0d O (⟨d,some (g,b0),.nilck x⟩ :: r) K t h=b3c (t g) b0 (op1 O (.nilck x) (upd t g (B b0)) h (fun v h'=>b0d O r K (b0l (upd t g (B b0)) d v) h')) (b0d O r K (b0l (upd t g (B (!b0))) d U) h) (b0d O r K (b0l t d U) h):=b2l rfl
theorem g7s {o x}:b0d O (⟨d,none,.fldA o x⟩ :: r) K t h=op1 O (.fldA o x) t h (fun v h'=>b0d O r K (b0l t d v) h'):=b2n rfl
theorem j1l {o x}:b0d O (⟨d,some (g,b0),.fldA o x⟩ :: r) K t h=b3c (t g) b0 (op1 O (.fldA o x) (upd t g (B b0)) h (fun v h'=>b0d O r K (b0l (upd t g (B b0)) d v) h')) (b0d O r K (b0l (upd t g (B (!b0))) d U) h) (b0d O r K (b0l t d U) h):=b2l rfl
theorem g7t {n x i}:b0d O (⟨d,none,.ixA n x i⟩ :: r) K t h=op1 O (.ixA n x i) t h (fun v h'=>b0d O r K (b0l t d v) h'):=b2n rfl
theorem j1m {n x i}:b0d O (⟨d,some (g,b0),.ixA n x i⟩ :: r) K t h=b3c (t g) b0 (op1 O (.ixA n x i) (upd t g (B b0)) h (fun v h'=>b0d O r K (b0l (upd t g (B b0)) d v) h')) (b0d O r K (b0l (upd t g (B (!b0))) d U) h) (b0d O r K (b0l t d U) h):=b2l rfl
theorem g7h {op e x y}:b0d O (⟨d,none,.bin op e x y⟩ :: r) K t h=op1 O (.bin op e x y) t h (fun v h'=>b0d O r K (b0l t d v) h'):=b2n rfl
theorem j1f {op e x y}:b0d O (⟨d,some (g,b0),.bin op e x y⟩ :: r) K t h=b3c (t g) b0 (op1 O (.bin op e x y) (upd t g (B b0)) h (fun v h'=>b0d O r K (b0l (upd t g (B b0)) d v) h')) (b0d O r K (b0l (upd t g (B (!b0))) d U) h) (b0d O r K (b0l t d U) h):=b2l rfl
theorem g8u {op x}:b0d O (⟨d,none,.un op x⟩ :: r) K t h=op1 O (.un op x) t h (fun v h'=>b0d O r K (b0l t d v) h'):=b2n rfl
theorem j1u {op x}:b0d O (⟨d,some (g,b0),.un op x⟩ :: r) K t h=b3c (t g) b0 (op1 O (.un op x) (upd t g (B b0)) h (fun v h'=>b0d O r K (b0l (upd t g (B b0)) d v) h')) (b0d O r K (b0l (upd t g (B (!b0))) d U) h) (b0d O r K (b0l t d U) h):=b2l rfl
theorem g7y {x}:b0d O (⟨d,none,.len false x⟩ :: r) K t h=op1 O (.len false x) t h (fun v h'=>b0d O r K (b0l t d v) h'):=b2n rfl
theorem j1n {x}:b0d O (⟨d,some (g,b0),.len false x⟩ :: r) K t h=b3c (t g) b0 (op1 O (.len false x) (upd t g (B b0)) h (fun v h'=>b0d O r K (b0l (upd t g (B b0)) d v) h')) (b0d O r K (b0l (upd t g (B (!b0))) d U) h) (b0d O r K (b0l t d U) h):=b2l rfl
theorem g7r {x i}:b0d O (⟨d,none,.ext x i⟩ :: r) K t h=op1 O (.ext x i) t h (fun v h'=>b0d O r K (b0l t d v) h'):=b2n rfl
theorem j1k {x i}:b0d O (⟨d,some (g,b0),.ext x i⟩ :: r) K t h=b3c (t g) b0 (op1 O (.ext x i) (upd t g (B b0)) h (fun v h'=>b0d O r K (b0l (upd t g (B b0)) d v) h')) (b0d O r K (b0l (upd t g (B (!b0))) d U) h) (b0d O r K (b0l t d U) h):=b2l rfl
theorem g70 {f a b}:b0d O (⟨d,none,.mkfn f a b⟩ :: r) K t h=op1 O (.mkfn f a b) t h (fun v h'=>b0d O r K (b0l t d v) h'):=b2n rfl
theorem j1p {f a b}:b0d O (⟨d,some (g,b0),.mkfn f a b⟩ :: r) K t h=b3c (t g) b0 (op1 O (.mkfn f a b) (upd t g (B b0)) h (fun v h'=>b0d O r K (b0l (upd t g (B b0)) d v) h')) (b0d O r K (b0l (upd t g (B (!b0))) d U) h) (b0d O r K (b0l t d U) h):=b2l rfl
theorem g7k {f l}:b0d O (⟨d,none,.call f l⟩ :: r) K t h=op1 O (.call f l) t h (fun v h'=>b0d O r K (b0l t d v) h'):=b2n rfl
theorem j1i {f l}:b0d O (⟨d,some (g,b0),.call f l⟩ :: r) K t h=b3c (t g) b0 (op1 O (.call f l) (upd t g (B b0)) h (fun v h'=>b0d O r K (b0l (upd t g (B b0)) d v) h')) (b0d O r K (b0l (upd t g (B (!b0))) d U) h) (b0d O r K (b0l t d U) h):=b2l rfl
theorem g7l {f l}:b0d O (⟨d,none,.callv f l⟩ :: r) K t h=op1 O (.callv f l) t h (fun v h'=>b0d O r K (b0l t d v) h'):=b2n rfl
theorem j1j {f l}:b0d O (⟨d,some (g,b0),.callv f l⟩ :: r) K t h=b3c (t g) b0 (op1 O (.callv f l) (upd t g (B b0)) h (fun v h'=>b0d O r K (b0l (upd t g (B b0)) d v) h')) (b0d O r K (b0l (upd t g (B (!b0))) d U) h) (b0d O r K (b0l t d U) h):=b2l rfl
end
section
variable {k:AV->Prop} {h:Heap}
theorem g80 {n cs off}:b5m false n cs off k=b4x cs off k:=by simp [b5m]
theorem g81 {n cs off}:b5m true n cs off k=(off+n<=cs.length/\k (.agg ((cs.drop off).take n))):=by simp [b5m]
theorem j1w {c cs}:b4x (c :: cs) 0 k=k c:=by simp [b4x]
theorem j1x {c cs n}:b4x (c :: cs) (n+1) k=b4x cs n k:=by simp [b4x]
theorem g2v {sz es i} {k:Nat->List (List AV)->List AV->Prop}:b7r (some (sz,es)) i k=∃ cs,es[i]?=some cs/\k sz es cs:=by
 apply propext; constructor
 ·rintro ⟨a,b,c,h1,h2,h3⟩; cases h1; exact ⟨c,h2,h3⟩
 ·rintro ⟨c,h2,h3⟩; exact ⟨_,_,c,rfl,h2,h3⟩
theorem l4k {sz cs} {k:Nat->List (List AV)->List AV->Prop}:b7r (some (sz,[cs])) 0 k=k sz [cs] cs:=by simp [g2v]
theorem l2a {sz es} {k:Nat->List (List AV)->Prop}:obK (some (sz,es)) k=k sz es:=by
 apply propext; constructor
 ·rintro ⟨a,b,h1,h2⟩; cases h1; exact h2
 ·exact fun h=>⟨_,_,rfl,h⟩
theorem j0n {α β:Type} {f:α->β} {l:List α} {i:Int} {k:β->Prop}:s3s (l.map f) i k=s3s l i fun a=>k (f a):=by
 simp only [s3s,List.getElem?_map,mE9]
 apply propext; constructor
 ·rintro ⟨b,h1,⟨a,h2,rfl⟩,h3⟩; exact ⟨a,h1,h2,h3⟩
 ·rintro ⟨a,h1,h2,h3⟩; exact ⟨_,h1,⟨a,h2,rfl⟩,h3⟩
theorem g6n {cs} {k:List AV->Prop}:b4e (.agg cs) k=k cs:=by simp [b4e,b2d,cellsOf]
theorem g6q {kd n} {k:List AV->Prop}:b4e (.v (.int kd n)) k=k [.v (.int kd n)]:=by simp [b4e,b2d,cellsOf,Value.oneCell']
theorem g6o {b} {k:List AV->Prop}:b4e (.v (.bool b)) k=k [.v (.bool b)]:=by simp [b4e,b2d,cellsOf,Value.oneCell']
theorem g6s {a b c} {k:List AV->Prop}:b4e (.v (.slice a b c)) k=k [.v (.slice a b c)]:=by simp [b4e,b2d,cellsOf,Value.oneCell']
theorem g6p {sz es} {k:List AV->Prop}:b4e (.fs sz es) k=k [.fs sz es]:=by simp [b4e,b2d,cellsOf]
theorem g6r {a b c} {k:List AV->Prop}:b4e (.rs a b c) k=k [.rs a b c]:=by simp [b4e,b2d,cellsOf]
theorem j7i {sz es} {k:Int->Prop}:b6k (.fs sz es) k=k es.length:=by simp [b6k,b2x]
theorem j7k {id lo len} {k:Int->Prop}:b6k (.rs id lo len) k=k len:=by simp [b6k,b2x]
theorem j7j {k:Int->Prop}:b6k (.v (.slice none 0 0)) k=k 0:=by simp [b6k,b2x]
theorem b65 {op e kd a b} {r:Value} (hr:b3m op kd a kd b=some r):b1u op e (.v (.int kd a)) (.v (.int kd b)) k=k (.v r):=by simp [b1u,b3f,hr]
section
variable {e:EqK} {kd:IntKind} {a b:Int}
theorem g6b:b1u .add e (.v (.int kd a)) (.v (.int kd b)) k=k (.v (.int kd (kd.wrap (a+b)))):=b65 (by simp [b3m,b4d])
theorem g6l:b1u .sub e (.v (.int kd a)) (.v (.int kd b)) k=k (.v (.int kd (kd.wrap (a - b)))):=b65 (by simp [b3m,b4d])
theorem g6j:b1u .mul e (.v (.int kd a)) (.v (.int kd b)) k=k (.v (.int kd (kd.wrap (a * b)))):=b65 (by simp [b3m,b4d])
theorem g6e:b1u .eql e (.v (.int kd a)) (.v (.int kd b)) k=k (B (decide (a=b))):=b65 (by simp only [b3m,b4d,if_true]; by_cases h:a=b <;> simp [h])
theorem g6k:b1u .neq e (.v (.int kd a)) (.v (.int kd b)) k=k (B (decide (¬ a=b))):=b65 (by simp only [b3m,b4d,if_true]; by_cases h:a=b <;> simp [h])
theorem g6i:b1u .lss e (.v (.int kd a)) (.v (.int kd b)) k=k (B (decide (a<b))):=b65 (by simp [b3m,b4d])
theorem g6h:b1u .leq e (.v (.int kd a)) (.v (.int kd b)) k=k (B (decide (a<=b))):=b65 (by simp [b3m,b4d])
theorem g6g:b1u .gtr e (.v (.int kd a)) (.v (.int kd b)) k=k (B (decide (b<a))):=b65 (by simp [b3m,b4d])
theorem g6f:b1u .geq e (.v (.int kd a)) (.v (.int kd b)) k=k (B (decide (b<=a))):=b65 (by simp [b3m,b4d])
theorem g6c {a b:Bool}:b1u .eql .bool (B a) (B b) k=k (B (b5c a b)):=by simp [b1u,b3f,b2z,b5c]
theorem g6d {a b:Bool}:b1u .neq .bool (B a) (B b) k=k (B (!(b5c a b))):=by simp [b1u,b3f,b2z,b5c]
end
theorem l55 {b:Bool}:unK .not (B b) k=k (B (!b)):=by simp [unK,b7u]
theorem l54 {kd a}:unK .neg (.v (.int kd a)) k=k (.v (.int kd (kd.wrap (0 - a)))):=by simp [unK,b7u]
theorem l0n {o:Ob}:(h.new o).ob h.nx=some o:=by simp [Heap.new]
theorem l0m {o:Ob}:(h.new o).nx=nxs h.nx:=by simp [Heap.new,nxs]
theorem s5o {o id}:(h.upd id o).ob id=o:=by simp [Heap.upd]
theorem H1t {o id}:(h.upd id o).nx=h.nx:=by simp [Heap.upd]
theorem j0u {t:Slots} {n}:evT t (.t n)=t n:=rfl
theorem j0r {t:Slots} {v}:evT t (.c v) = .v v:=rfl
theorem j0v {t:Slots} {n}:evT t (.tf n)=r7o (t n):=rfl
theorem j09 {cs off}:r7o (.fp cs off) = .fp cs off:=rfl
theorem j1a {sz es}:r7o (.fs sz es) = .fs sz es:=rfl
theorem j0t {t:Slots} {n cs}:evT t (.g n cs) = .fp (cs.map GC.av) 0:=rfl
theorem j0s {t:Slots} {n}:evT t (.f n) = .fn n [] []:=rfl
theorem l32 {t:Slots} {n x}:b0l t (some n) x=upd t n x:=rfl
theorem x1e {t:Slots} {x}:b0l t none x=t:=rfl
end
theorem g3z {n:Int} (h1 : -9223372036854775808<=n) (h2:n<9223372036854775808):IntKind.i64.wrap n=n:=by
 unfold IntKind.wrap
 simp only [IntKind.bits,IntKind.signed,Bool.true_and]
 split <;> rename_i h <;> simp at h <;> omega
attribute [go_sem] j0v j09 j1a j0u j0r j0s j0t l32 x1e g3t g3r l0n l0m s5o H1t
attribute [go_sem ↓] b0s b09 b0x b5n b0u b0f b1b b1p b02 b2e b1a c0s
end Go.Nw
