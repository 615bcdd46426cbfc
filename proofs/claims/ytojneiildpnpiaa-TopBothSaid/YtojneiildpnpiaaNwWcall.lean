/- Calls that work in the caller's heap: how such a contract is shown and used. -/
import Derived.Test.YtojneiildpnpiaaNwRows
import Derived.Test.YtojneiildpnpiaaNwExact
set_option linter.all false
namespace Go.Nw
def d4z (res:List XRes) (Post:AV->Heap->Prop):XExit->Slots->Heap->Prop
 | .normal,t,h | .ret,t,h=>∃ rs,res.mapM (l18 ⟨t,h⟩)=some rs/\Post (E6z rs) h
 | .exit _,_,_=>False
theorem l4i {res Post t h}:d4z res Post .normal t h=∃ rs,res.mapM (l18 ⟨t,h⟩)=some rs/\Post (E6z rs) h:=rfl
theorem l4j {res Post t h}:d4z res Post .ret t h=∃ rs,res.mapM (l18 ⟨t,h⟩)=some rs/\Post (E6z rs) h:=rfl
attribute [go_sem] l4i l4j
theorem d8g {O:Orac} {f:String} {fn:XFunc} (hf:Has O f fn) {as:List AV} {h:Heap} {Post:AV->Heap->Prop} (hl:as.length=fn.np)
  (hw : cw O fn.body (d4z fn.res Post) (st0 as) h):b6e O f as h Post:=by
 obtain ⟨e,s',hq,hfr,w⟩:=g3x fn.body hw
 have go:∀ {e},(∃ rs,fn.res.mapM (l18 s')=some rs/\Post (E6z rs) s'.h)->(∀ r,(∃ rs,fn.res.mapM (l18 s')=some rs/\E6z rs=r)->d65 fn.res r s'.h e s') ->
   wp O fn.body (fun e2 s2=>e2=e/\s2=s') ⟨st0 as,h⟩->b6e O f as h Post:=by
  rintro e ⟨rs,h1,h2⟩ hd hw2
  refine ⟨E6z rs,s'.h,hf.w as h _ _ hl ?_,hfr,h2⟩
  refine s8m fn.body ?_ hw2
  rintro e2 s2 ⟨rfl,rfl⟩
  exact hd _ ⟨rs,h1,rfl⟩
 cases e with
 | normal=>exact go (e:=.normal) hq (fun r hr=>⟨hr,rfl⟩) w
 | ret=>exact go (e:=.ret) hq (fun r hr=>⟨hr,rfl⟩) w
 | exit i=>exact hq.elim
theorem d9m {O:Orac} {f:String} {as:List AV} {h:Heap} {Post:AV->Heap->Prop} {k:AV->Heap->Prop} (hc:b6e O f as h Post) (hk:∀ r h',Post r h'->k r h'):@s3q O f as h ⟨k⟩:=by
 obtain ⟨r,h',h1,h2,h3⟩:=hc
 exact ⟨r,h',h1,h2,hk r h' h3⟩
theorem y65 {n:Nat} {v:AV} {t:Slots} {h:Heap} {Post:AV->Heap->Prop} (ht:t n=v) (hp:Post v h):∃ rs,[XRes.t n].mapM (l18 ⟨t,h⟩)=some rs/\Post (E6z rs) h:=by
 subst ht; exact ⟨[t n],rfl,hp⟩
theorem E2j {n id lo m:Nat} (h:n<=id):∀ j,¬ b07 (.rs id lo m) j->n<=j:=fun j hj=>by
 have : id=j:=by simpa [b07] using hj
 omega
theorem N5e {n id lo m:Nat} (h:∀ j,¬ b07 (.rs id lo m) j->n<=j):n<=id:=h id (by simp [b07])
end Go.Nw
