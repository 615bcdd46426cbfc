/- Calls that work in the caller's heap: how such a contract is shown and used. -/
import Derived.Test.YtkoonfmgmgfmdaaDoorNwRows
import Derived.Test.YtkoonfmgmgfmdaaDoorNwExact
set_option linter.all false
set_option linter.unusedVariables false
set_option linter.unusedSimpArgs false
set_option linter.unusedSectionVars false
namespace Go.Nw
def d1t (res : List XRes) (Post : AV → Heap → Prop) : XExit → Slots → Heap → Prop
  | .normal, t, h | .ret, t, h => ∃ rs, res.mapM (b3t ⟨t, h⟩) = some rs ∧ Post (b3y rs) h
  | .exit _, _, _ => False
theorem j74 {res Post t h} : d1t res Post .normal t h = ∃ rs, res.mapM (b3t ⟨t, h⟩) = some rs ∧ Post (b3y rs) h := rfl
theorem j75 {res Post t h} : d1t res Post .ret t h = ∃ rs, res.mapM (b3t ⟨t, h⟩) = some rs ∧ Post (b3y rs) h := rfl
attribute [go_sem] j74 j75
theorem d4x {O : Orac} {f : String} {fn : XFunc} (hf : Has O f fn) {as : List AV} {h : Heap} {Post : AV → Heap → Prop} (hl : as.length = fn.np)
    (hw : cw O fn.body (d1t fn.res Post) (st0 as) h) : b60 O f as h Post := by
  obtain ⟨e, s', hq, hfr, w⟩ := d9t fn.body hw
  have go : ∀ {e}, (∃ rs, fn.res.mapM (b3t s') = some rs ∧ Post (b3y rs) s'.h) → (∀ r, (∃ rs, fn.res.mapM (b3t s') = some rs ∧ b3y rs = r) → d3t fn.res r s'.h e s') →
      wp O fn.body (fun e2 s2 => e2 = e ∧ s2 = s') ⟨st0 as, h⟩ → b60 O f as h Post := by
    rintro e ⟨rs, h1, h2⟩ hd hw2
    refine ⟨b3y rs, s'.h, hf.w as h _ _ hl ?_, hfr, h2⟩
    refine b28 fn.body ?_ hw2
    rintro e2 s2 ⟨rfl, rfl⟩
    exact hd _ ⟨rs, h1, rfl⟩
  cases e with
  | normal => exact go (e := .normal) hq (fun r hr => ⟨hr, rfl⟩) w
  | ret => exact go (e := .ret) hq (fun r hr => ⟨hr, rfl⟩) w
  | exit i => exact hq.elim
theorem d52 {O : Orac} {f : String} {as : List AV} {h : Heap} {Post : AV → Heap → Prop} {k : AV → Heap → Prop} (hc : b60 O f as h Post) (hk : ∀ r h', Post r h' → k r h') : @d51 O f as h ⟨k⟩ := by
  obtain ⟨r, h', h1, h2, h3⟩ := hc
  exact ⟨r, h', h1, h2, hk r h' h3⟩
theorem d8w {n : Nat} {v : AV} {t : Slots} {h : Heap} {Post : AV → Heap → Prop} (ht : t n = v) (hp : Post v h) : ∃ rs, [XRes.t n].mapM (b3t ⟨t, h⟩) = some rs ∧ Post (b3y rs) h := by
  subst ht; exact ⟨[t n], rfl, hp⟩
theorem b56 {n i j : Nat} (h : n ≤ i) (hj : j < n) : ¬ j = i := by omega
theorem b5f {n j : Nat} {v : AV} (h : ∀ j, ¬ b0c v j → n ≤ j) (hj : j < n) : b0c v j := Classical.byContradiction fun hc => by have := h j hc; omega
theorem g67 {n j : Nat} {v : AV} {hs : List AV} (h : ∀ j, ¬ b0n v hs j → n ≤ j) (hj : j < n) : b0n v hs j := Classical.byContradiction fun hc => by have := h j hc; omega
theorem c41 {n id lo m : Nat} (h : n ≤ id) : ∀ j, ¬ b0c (.rs id lo m) j → n ≤ j := fun j hj => by
  have : id = j := by simpa [b0c] using hj
  omega
theorem g66 {n id lo m : Nat} {v u : AV} {hs : List AV} (h : ∀ j, ¬ b0n v hs j → n ≤ j) (hi : n ≤ id) (hu : ∀ j, ¬ b0c u j → n ≤ j) : ∀ j, ¬ b0n (.rs id lo m) (hs ++ [u]) j → n ≤ j := fun j hj => Classical.byContradiction fun hn =>
  hj (j77 (Classical.byContradiction fun hc => hn (h j hc)) (Classical.byContradiction fun hc => hn (hu j hc)) (fun e => hn (e ▸ hi)))
theorem b2q {u : AV} {iq lo n : Nat} {hs : List AV} (h : ∀ j, ¬ b0c u j → b0n (.rs iq lo n) hs j) : b0c u iq := Classical.byContradiction fun hc => (h iq hc).1 rfl
theorem b2p {u v : AV} {ir lo n : Nat} {i : Int} {hs : List AV} (h : ∀ j, ¬ b0c u j → b0n v hs j) (hw : get hs i = some (.rs ir lo n)) : b0c u ir := Classical.byContradiction fun hc => b1a (h ir hc) hw rfl
end Go.Nw
