/- Calls that work in the caller's heap: how such a contract is shown and used. -/
import Derived.Test.YteoedeeljnboeaaNwRows
import Derived.Test.YteoedeeljnboeaaNwExact
set_option linter.all false
set_option linter.unusedVariables false
set_option linter.unusedSimpArgs false
set_option linter.unusedSectionVars false
namespace Go.Nw
def retW (res : List XRes) (Post : AV → Heap → Prop) : XExit → Slots → Heap → Prop
  | .normal, t, h | .ret, t, h => ∃ rs, res.mapM (resOf ⟨t, h⟩) = some rs ∧ Post (packed rs) h
  | .exit _, _, _ => False
theorem retW_normal {res Post t h} : retW res Post .normal t h = ∃ rs, res.mapM (resOf ⟨t, h⟩) = some rs ∧ Post (packed rs) h := rfl
theorem retW_ret {res Post t h} : retW res Post .ret t h = ∃ rs, res.mapM (resOf ⟨t, h⟩) = some rs ∧ Post (packed rs) h := rfl
attribute [go_sem] retW_normal retW_ret
theorem hasw_cw {O : Orac} {f : String} {fn : XFunc} (hf : Has O f fn) {as : List AV} {h : Heap} {Post : AV → Heap → Prop} (hl : as.length = fn.np)
    (hw : cw O fn.body (retW fn.res Post) (st0 as) h) : callwWp O f as h Post := by
  obtain ⟨e, s', hq, hfr, w⟩ := wp_exact fn.body hw
  have go : ∀ {e}, (∃ rs, fn.res.mapM (resOf s') = some rs ∧ Post (packed rs) s'.h) → (∀ r, (∃ rs, fn.res.mapM (resOf s') = some rs ∧ packed rs = r) → doneW fn.res r s'.h e s') →
      wp O fn.body (fun e2 s2 => e2 = e ∧ s2 = s') ⟨st0 as, h⟩ → callwWp O f as h Post := by
    rintro e ⟨rs, h1, h2⟩ hd hw2
    refine ⟨packed rs, s'.h, hf.w as h _ _ hl ?_, hfr, h2⟩
    refine wpx_mono fn.body ?_ hw2
    rintro e2 s2 ⟨rfl, rfl⟩
    exact hd _ ⟨rs, h1, rfl⟩
  cases e with
  | normal => exact go (e := .normal) hq (fun r hr => ⟨hr, rfl⟩) w
  | ret => exact go (e := .ret) hq (fun r hr => ⟨hr, rfl⟩) w
  | exit i => exact hq.elim
theorem icallw_of {O : Orac} {f : String} {as : List AV} {h : Heap} {Post : AV → Heap → Prop} {k : AV → Heap → Prop} (hc : callwWp O f as h Post) (hk : ∀ r h', Post r h' → k r h') : @icallw O f as h ⟨k⟩ := by
  obtain ⟨r, h', h1, h2, h3⟩ := hc
  exact ⟨r, h', h1, h2, hk r h' h3⟩
theorem retw_t {n : Nat} {v : AV} {t : Slots} {h : Heap} {Post : AV → Heap → Prop} (ht : t n = v) (hp : Post v h) : ∃ rs, [XRes.t n].mapM (resOf ⟨t, h⟩) = some rs ∧ Post (packed rs) h := by
  subst ht; exact ⟨[t n], rfl, hp⟩
/- What is as old as the heap of the beginning. -/
theorem ge_ne {n i j : Nat} (h : n ≤ i) (hj : j < n) : ¬ j = i := by omega
theorem ge_nid {n j : Nat} {v : AV} (h : ∀ j, ¬ NotId v j → n ≤ j) (hj : j < n) : NotId v j := Classical.byContradiction fun hc => by have := h j hc; omega
theorem ge_rn {n j : Nat} {v : AV} {hs : List AV} (h : ∀ j, ¬ RNot v hs j → n ≤ j) (hj : j < n) : RNot v hs j := Classical.byContradiction fun hc => by have := h j hc; omega
theorem ge_rs {n id lo m : Nat} (h : n ≤ id) : ∀ j, ¬ NotId (.rs id lo m) j → n ≤ j := fun j hj => by
  have : id = j := by simpa [NotId] using hj
  omega
theorem ge_app {n id lo m : Nat} {v u : AV} {hs : List AV} (h : ∀ j, ¬ RNot v hs j → n ≤ j) (hi : n ≤ id) (hu : ∀ j, ¬ NotId u j → n ≤ j) : ∀ j, ¬ RNot (.rs id lo m) (hs ++ [u]) j → n ≤ j := fun j hj => Classical.byContradiction fun hn =>
  hj (rnot_app (Classical.byContradiction fun hc => hn (h j hc)) (Classical.byContradiction fun hc => hn (hu j hc)) (fun e => hn (e ▸ hi)))
theorem rm_top {u : AV} {iq lo n : Nat} {hs : List AV} (h : ∀ j, ¬ NotId u j → RNot (.rs iq lo n) hs j) : NotId u iq := Classical.byContradiction fun hc => (h iq hc).1 rfl
theorem rm_row {u v : AV} {ir lo n : Nat} {i : Int} {hs : List AV} (h : ∀ j, ¬ NotId u j → RNot v hs j) (hw : get hs i = some (.rs ir lo n)) : NotId u ir := Classical.byContradiction fun hc => rn_ne (h ir hc) hw rfl
end Go.Nw
