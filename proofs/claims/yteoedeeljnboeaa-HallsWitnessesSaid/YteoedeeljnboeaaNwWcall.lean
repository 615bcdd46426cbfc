/- Calls that work in the caller's heap: how such a contract is shown and used. -/
import Derived.Test.YteoedeeljnboeaaNwRows
import Derived.Test.YteoedeeljnboeaaNwExact
set_option linter.all false
set_option linter.unusedVariables false
set_option linter.unusedSimpArgs false
set_option linter.unusedSectionVars false
namespace Go.Nw
def d2b (res : List XRes) (Post : AV → Heap → Prop) : XExit → Slots → Heap → Prop
  | .normal, t, h | .ret, t, h => ∃ rs, res.mapM (b4q ⟨t, h⟩) = some rs ∧ Post (b5a rs) h
  | .exit _, _, _ => False
theorem j7g {res Post t h} : d2b res Post .normal t h = ∃ rs, res.mapM (b4q ⟨t, h⟩) = some rs ∧ Post (b5a rs) h := rfl
theorem j7h {res Post t h} : d2b res Post .ret t h = ∃ rs, res.mapM (b4q ⟨t, h⟩) = some rs ∧ Post (b5a rs) h := rfl
attribute [go_sem] j7g j7h
theorem d5x {O : Orac} {f : String} {fn : XFunc} (hf : Has O f fn) {as : List AV} {h : Heap} {Post : AV → Heap → Prop} (hl : as.length = fn.np)
    (hw : cw O fn.body (d2b fn.res Post) (st0 as) h) : b7b O f as h Post := by
  obtain ⟨e, s', hq, hfr, w⟩ := j9f fn.body hw
  have go : ∀ {e}, (∃ rs, fn.res.mapM (b4q s') = some rs ∧ Post (b5a rs) s'.h) → (∀ r, (∃ rs, fn.res.mapM (b4q s') = some rs ∧ b5a rs = r) → d31 fn.res r s'.h e s') →
      wp O fn.body (fun e2 s2 => e2 = e ∧ s2 = s') ⟨st0 as, h⟩ → b7b O f as h Post := by
    rintro e ⟨rs, h1, h2⟩ hd hw2
    refine ⟨b5a rs, s'.h, hf.w as h _ _ hl ?_, hfr, h2⟩
    refine b5t fn.body ?_ hw2
    rintro e2 s2 ⟨rfl, rfl⟩
    exact hd _ ⟨rs, h1, rfl⟩
  cases e with
  | normal => exact go (e := .normal) hq (fun r hr => ⟨hr, rfl⟩) w
  | ret => exact go (e := .ret) hq (fun r hr => ⟨hr, rfl⟩) w
  | exit i => exact hq.elim
theorem c0r {O : Orac} {f : String} {as : List AV} {h : Heap} {Post : AV → Heap → Prop} {k : AV → Heap → Prop} (hc : b7b O f as h Post) (hk : ∀ r h', Post r h' → k r h') : @d6x O f as h ⟨k⟩ := by
  obtain ⟨r, h', h1, h2, h3⟩ := hc
  exact ⟨r, h', h1, h2, hk r h' h3⟩
theorem d9e {n : Nat} {v : AV} {t : Slots} {h : Heap} {Post : AV → Heap → Prop} (ht : t n = v) (hp : Post v h) : ∃ rs, [XRes.t n].mapM (b4q ⟨t, h⟩) = some rs ∧ Post (b5a rs) h := by
  subst ht; exact ⟨[t n], rfl, hp⟩
theorem b6n {n i j : Nat} (h : n ≤ i) (hj : j < n) : ¬ j = i := by omega
theorem b5o {n j : Nat} {v : AV} (h : ∀ j, ¬ b0a v j → n ≤ j) (hj : j < n) : b0a v j := Classical.byContradiction fun hc => by have := h j hc; omega
theorem g6z {n j : Nat} {v : AV} {hs : List AV} (h : ∀ j, ¬ b0d v hs j → n ≤ j) (hj : j < n) : b0d v hs j := Classical.byContradiction fun hc => by have := h j hc; omega
theorem c5f {n id lo m : Nat} (h : n ≤ id) : ∀ j, ¬ b0a (.rs id lo m) j → n ≤ j := fun j hj => by
  have : id = j := by simpa [b0a] using hj
  omega
theorem g6y {n id lo m : Nat} {v u : AV} {hs : List AV} (h : ∀ j, ¬ b0d v hs j → n ≤ j) (hi : n ≤ id) (hu : ∀ j, ¬ b0a u j → n ≤ j) : ∀ j, ¬ b0d (.rs id lo m) (hs ++ [u]) j → n ≤ j := fun j hj => Classical.byContradiction fun hn =>
  hj (j7j (Classical.byContradiction fun hc => hn (h j hc)) (Classical.byContradiction fun hc => hn (hu j hc)) (fun e => hn (e ▸ hi)))
theorem b1i {u : AV} {iq lo n : Nat} {hs : List AV} (h : ∀ j, ¬ b0a u j → b0d (.rs iq lo n) hs j) : b0a u iq := Classical.byContradiction fun hc => (h iq hc).1 rfl
theorem b1q {u v : AV} {ir lo n : Nat} {i : Int} {hs : List AV} (h : ∀ j, ¬ b0a u j → b0d v hs j) (hw : get hs i = some (.rs ir lo n)) : b0a u ir := Classical.byContradiction fun hc => b0v (h ir hc) hw rfl
end Go.Nw
