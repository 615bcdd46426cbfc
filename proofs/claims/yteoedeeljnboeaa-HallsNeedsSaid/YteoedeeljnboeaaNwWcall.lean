/- Calls that work in the caller's heap: how such a contract is shown and used. -/
import Derived.Test.YteoedeeljnboeaaNwRows
import Derived.Test.YteoedeeljnboeaaNwExact
set_option linter.all false
set_option linter.unusedVariables false
set_option linter.unusedSimpArgs false
set_option linter.unusedSectionVars false
namespace Go.Nw
def d2j (res : List XRes) (Post : AV → Heap → Prop) : XExit → Slots → Heap → Prop
  | .normal, t, h | .ret, t, h => ∃ rs, res.mapM (b5a ⟨t, h⟩) = some rs ∧ Post (b5n rs) h
  | .exit _, _, _ => False
theorem j75 {res Post t h} : d2j res Post .normal t h = ∃ rs, res.mapM (b5a ⟨t, h⟩) = some rs ∧ Post (b5n rs) h := rfl
theorem j76 {res Post t h} : d2j res Post .ret t h = ∃ rs, res.mapM (b5a ⟨t, h⟩) = some rs ∧ Post (b5n rs) h := rfl
attribute [go_sem] j75 j76
theorem d58 {O : Orac} {f : String} {fn : XFunc} (hf : Has O f fn) {as : List AV} {h : Heap} {Post : AV → Heap → Prop} (hl : as.length = fn.np)
    (hw : cw O fn.body (d2j fn.res Post) (st0 as) h) : b7m O f as h Post := by
  obtain ⟨e, s', hq, hfr, w⟩ := j92 fn.body hw
  have go : ∀ {e}, (∃ rs, fn.res.mapM (b5a s') = some rs ∧ Post (b5n rs) s'.h) → (∀ r, (∃ rs, fn.res.mapM (b5a s') = some rs ∧ b5n rs = r) → d4e fn.res r s'.h e s') →
      wp O fn.body (fun e2 s2 => e2 = e ∧ s2 = s') ⟨st0 as, h⟩ → b7m O f as h Post := by
    rintro e ⟨rs, h1, h2⟩ hd hw2
    refine ⟨b5n rs, s'.h, hf.w as h _ _ hl ?_, hfr, h2⟩
    refine b52 fn.body ?_ hw2
    rintro e2 s2 ⟨rfl, rfl⟩
    exact hd _ ⟨rs, h1, rfl⟩
  cases e with
  | normal => exact go (e := .normal) hq (fun r hr => ⟨hr, rfl⟩) w
  | ret => exact go (e := .ret) hq (fun r hr => ⟨hr, rfl⟩) w
  | exit i => exact hq.elim
theorem c05 {O : Orac} {f : String} {as : List AV} {h : Heap} {Post : AV → Heap → Prop} {k : AV → Heap → Prop} (hc : b7m O f as h Post) (hk : ∀ r h', Post r h' → k r h') : @d7a O f as h ⟨k⟩ := by
  obtain ⟨r, h', h1, h2, h3⟩ := hc
  exact ⟨r, h', h1, h2, hk r h' h3⟩
theorem d95 {n : Nat} {v : AV} {t : Slots} {h : Heap} {Post : AV → Heap → Prop} (ht : t n = v) (hp : Post v h) : ∃ rs, [XRes.t n].mapM (b5a ⟨t, h⟩) = some rs ∧ Post (b5n rs) h := by
  subst ht; exact ⟨[t n], rfl, hp⟩
theorem b6v {n i j : Nat} (h : n ≤ i) (hj : j < n) : ¬ j = i := by omega
theorem b5w {n j : Nat} {v : AV} (h : ∀ j, ¬ b0a v j → n ≤ j) (hj : j < n) : b0a v j := Classical.byContradiction fun hc => by have := h j hc; omega
theorem g7p {n j : Nat} {v : AV} {hs : List AV} (h : ∀ j, ¬ b0d v hs j → n ≤ j) (hj : j < n) : b0d v hs j := Classical.byContradiction fun hc => by have := h j hc; omega
theorem c5s {n id lo m : Nat} (h : n ≤ id) : ∀ j, ¬ b0a (.rs id lo m) j → n ≤ j := fun j hj => by
  have : id = j := by simpa [b0a] using hj
  omega
theorem g7o {n id lo m : Nat} {v u : AV} {hs : List AV} (h : ∀ j, ¬ b0d v hs j → n ≤ j) (hi : n ≤ id) (hu : ∀ j, ¬ b0a u j → n ≤ j) : ∀ j, ¬ b0d (.rs id lo m) (hs ++ [u]) j → n ≤ j := fun j hj => Classical.byContradiction fun hn =>
  hj (j78 (Classical.byContradiction fun hc => hn (h j hc)) (Classical.byContradiction fun hc => hn (hu j hc)) (fun e => hn (e ▸ hi)))
theorem b1f {u : AV} {iq lo n : Nat} {hs : List AV} (h : ∀ j, ¬ b0a u j → b0d (.rs iq lo n) hs j) : b0a u iq := Classical.byContradiction fun hc => (h iq hc).1 rfl
theorem b1p {u v : AV} {ir lo n : Nat} {i : Int} {hs : List AV} (h : ∀ j, ¬ b0a u j → b0d v hs j) (hw : get hs i = some (.rs ir lo n)) : b0a u ir := Classical.byContradiction fun hc => b0t (h ir hc) hw rfl
end Go.Nw
