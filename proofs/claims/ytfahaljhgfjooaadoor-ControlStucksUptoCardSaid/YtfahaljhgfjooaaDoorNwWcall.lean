/- Calls that work in the caller's heap: how such a contract is shown and used. -/
import Derived.Test.YtfahaljhgfjooaaDoorNwRows
import Derived.Test.YtfahaljhgfjooaaDoorNwExact
set_option linter.all false
namespace Go.Nw
def d3l (res : List XRes) (Post : AV -> Heap -> Prop) : XExit -> Slots -> Heap -> Prop
 | .normal, t, h | .ret, t, h => ∃ rs, res.mapM (b3t ⟨t, h⟩) = some rs /\ Post (b3s rs) h
 | .exit _, _, _ => False
theorem l18 {res Post t h} : d3l res Post .normal t h = ∃ rs, res.mapM (b3t ⟨t, h⟩) = some rs /\ Post (b3s rs) h := rfl
theorem l19 {res Post t h} : d3l res Post .ret t h = ∃ rs, res.mapM (b3t ⟨t, h⟩) = some rs /\ Post (b3s rs) h := rfl
attribute [go_sem] l18 l19
theorem d6f {O : Orac} {f : String} {fn : XFunc} (hf : Has O f fn) {as : List AV} {h : Heap} {Post : AV -> Heap -> Prop} (hl : as.length = fn.np)
  (hw : cw O fn.body (d3l fn.res Post) (st0 as) h) : b52 O f as h Post := by
 obtain ⟨e, s', hq, hfr, w⟩ := g1s fn.body hw
 have go : ∀ {e}, (∃ rs, fn.res.mapM (b3t s') = some rs /\ Post (b3s rs) s'.h) -> (∀ r, (∃ rs, fn.res.mapM (b3t s') = some rs /\ b3s rs = r) -> d47 fn.res r s'.h e s') ->
   wp O fn.body (fun e2 s2 => e2 = e /\ s2 = s') ⟨st0 as, h⟩ -> b52 O f as h Post := by
  rintro e ⟨rs, h1, h2⟩ hd hw2
  refine ⟨b3s rs, s'.h, hf.w as h _ _ hl ?_, hfr, h2⟩
  refine b2v fn.body ?_ hw2
  rintro e2 s2 ⟨rfl, rfl⟩
  exact hd _ ⟨rs, h1, rfl⟩
 cases e with
 | normal => exact go (e := .normal) hq (fun r hr => ⟨hr, rfl⟩) w
 | ret => exact go (e := .ret) hq (fun r hr => ⟨hr, rfl⟩) w
 | exit i => exact hq.elim
theorem d7n {O : Orac} {f : String} {as : List AV} {h : Heap} {Post : AV -> Heap -> Prop} {k : AV -> Heap -> Prop} (hc : b52 O f as h Post) (hk : ∀ r h', Post r h' -> k r h') : @b5w O f as h ⟨k⟩ := by
 obtain ⟨r, h', h1, h2, h3⟩ := hc
 exact ⟨r, h', h1, h2, hk r h' h3⟩
theorem c3f {t : Slots} {h : Heap} {Post : AV -> Heap -> Prop} (hp : Post (.tup []) h) : ∃ rs, ([] : List XRes).mapM (b3t ⟨t, h⟩) = some rs /\ Post (b3s rs) h := ⟨[], rfl, hp⟩
end Go.Nw
