/- How a function's proof begins and ends. -/
import Derived.Test.YtojneiildpnpiaaNwI
set_option linter.all false
namespace Go.Nw
def st0 (as:List AV):Slots:=fun i=>as.getD i U
def c4n (res:List XRes) (r:AV) (frag:b3z):XExit->Slots->Heap->Prop
 | .normal,t,h | .ret,t,h=>b4b res r frag ⟨t,h⟩
 | .exit _,_,_=>False
theorem c7b {O:Orac} {f:String} {fn:XFunc} (hf:Has O f fn) {as:List AV} {r:AV} {frag:b3z} (hl:as.length=fn.np) (hz:∀ a∈as,Frz a) (hw:cw O fn.body (c4n fn.res r frag) (st0 as) Heap.empty):O f as r frag:=by
 refine hf.p as r frag hl ?_ hz
 refine s8m fn.body ?_ hw
 intro e s h
 cases e <;> exact h
structure Fn (O:Orac) (f:String) (as:List AV) (r:AV):Prop where
 o : O f as r []
 a : ∀ a∈as,Frz a
 r : Frz r
theorem b1i {O:Orac} {f:String} {fn:XFunc} (hf:Has O f fn) {as:List AV} {r:AV} (hl:as.length=fn.np) (hz:∀ a∈as,Frz a) (hr:Frz r) (hw:cw O fn.body (c4n fn.res r []) (st0 as) Heap.empty):Fn O f as r :=
 ⟨c7b hf hl hz hw,hz,hr⟩
theorem FzL.frz {h:Heap}:∀ {as:List AV},(∀ a∈as,Frz a)->FzL h as as
 | [],_=>.nil
 | a :: as,ha=>.cons (.refl _ (ha a List.mem_cons_self)) (FzL.frz fun x hx=>ha x (List.mem_cons_of_mem _ hx))
theorem b01 {O:Orac} {f:String} {as:List AV} {r:AV} {h:Heap} {k:AV->Heap->Prop} (hf:Fn O f as r) (hk:k r h):@K5x O f as h ⟨k⟩ :=
 ⟨r,h,⟨as,r,[],[],.frz hf.a,hf.o,.inl hf.a,.frz r hf.r,rfl,fun k sz es hh=>by simp at hh,rfl⟩,hk⟩
theorem o5t {O:Orac} {n:String} {a b as:List AV} {r:AV} {h:Heap} {k:AV->Heap->Prop} (hf:Fn O n (a++as++b) r) (hk:k r h):@d9l O (.fn n a b) as h ⟨k⟩ :=
 ⟨n,a,b,rfl,r,h,⟨_,r,[],[],.frz hf.a,hf.o,.inl hf.a,.frz r hf.r,rfl,fun k sz es hh=>by simp at hh,rfl⟩,hk⟩
theorem b8l {O:Orac} {f:String} {as as':List AV} {r:AV} {h:Heap} {k:AV->Heap->Prop} (hz:FzL h as as') (hf:Fn O f as' r) (ho:Own r) (hk:k r h):@K5x O f as h ⟨k⟩ :=
 ⟨r,h,⟨as',r,[],[],hz,hf.o,.inr ⟨ho,fun o hh=>by simp at hh⟩,.frz r hf.r,rfl,fun k sz es hh=>by simp at hh,rfl⟩,hk⟩
theorem l4h {res r frag t h}:c4n res r frag .normal t h=b4b res r frag ⟨t,h⟩:=rfl
theorem b0y {res r frag t h}:c4n res r frag .ret t h=b4b res r frag ⟨t,h⟩:=rfl
theorem l5q {a as}:st0 (a :: as) 0=a:=rfl
theorem l5r {a as n}:st0 (a :: as) (n+1)=st0 as n:=rfl
theorem b04 {n:Nat} {r:AV} {t:Slots} {h:Heap} (ht:t n=r) (hr:Frz r):b4b [.t n] r [] ⟨t,h⟩:=by
 subst ht
 exact .inl ⟨rfl,[t n],rfl,.refl _ hr⟩
theorem d1m {n m:Nat} {r s:AV} {t:Slots} {h:Heap} (ht:t n=r) (hs:t m=s) (hr:Frz r) (hs':Frz s):b4b [.t n,.t m] (.tup [r,s]) [] ⟨t,h⟩:=by
 subst ht; subst hs
 exact .inl ⟨rfl,[t n,t m],rfl,.refl _ (.tup _ fun c hc=>by simp at hc; rcases hc with rfl|rfl <;> assumption)⟩
theorem N5b (n:Int):Frz (I n):=.v _
theorem b0c {α:Type} {sz:Nat} {f:α->List AV} {l:List α} (h:∀ a∈l,∀ c∈f a,Frz c):Frz (.fs sz (l.map f)):=.fs _ _ fun e he c hc=>by
 obtain ⟨a,ha,rfl⟩:=List.mem_map.1 he
 exact h a ha c hc
attribute [go_sem] l4h b0y l5q l5r
end Go.Nw
