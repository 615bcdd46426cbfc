/- How a function's proof begins and ends. -/
import Derived.Test.YteoedeeljnboeaaNwI
set_option linter.all false
set_option linter.unusedVariables false
set_option linter.unusedSimpArgs false
set_option linter.unusedSectionVars false
namespace Go.Nw

def st0 (as : List AV) : Slots := fun i => as.getD i U

def retQ (res : List XRes) (r : AV) (frag : Frag) : XExit → Slots → Heap → Prop
  | .normal, t, h | .ret, t, h => Done res r frag ⟨t, h⟩
  | .exit _, _, _ => False

theorem has_cw {O : Orac} {f : String} {fn : XFunc} (hf : Has O f fn) {as : List AV} {r : AV} {frag : Frag} (hl : as.length = fn.np) (hz : ∀ a ∈ as, Frz a) (hw : cw O fn.body (retQ fn.res r frag) (st0 as) Heap.empty) : O f as r frag := by
  refine hf.p as r frag hl ?_ hz
  refine wpx_mono fn.body ?_ hw
  intro e s h
  cases e <;> exact h

/-- A function's contract: all that comes in and out is only read. -/
structure Fn (O : Orac) (f : String) (as : List AV) (r : AV) : Prop where
  o : O f as r []
  a : ∀ a ∈ as, Frz a
  r : Frz r
theorem fn_cw {O : Orac} {f : String} {fn : XFunc} (hf : Has O f fn) {as : List AV} {r : AV} (hl : as.length = fn.np) (hz : ∀ a ∈ as, Frz a) (hr : Frz r) (hw : cw O fn.body (retQ fn.res r []) (st0 as) Heap.empty) : Fn O f as r :=
  ⟨has_cw hf hl hz hw, hz, hr⟩
theorem FzL.frz {h : Heap} : ∀ {as : List AV}, (∀ a ∈ as, Frz a) → FzL h as as
  | [], _ => .nil
  | a :: as, ha => .cons (.refl _ (ha a List.mem_cons_self)) (FzL.frz fun x hx => ha x (List.mem_cons_of_mem _ hx))
/-- A call, all whose arguments are only read. -/
theorem icall_fn {O : Orac} {f : String} {as : List AV} {r : AV} {h : Heap} {k : AV → Heap → Prop} (hf : Fn O f as r) (hk : k r h) : @icall O f as h ⟨k⟩ :=
  ⟨r, h, ⟨as, r, [], [], .frz hf.a, hf.o, .inl hf.a, .frz r hf.r, rfl, fun k sz es hh => by simp at hh, rfl⟩, hk⟩
theorem icallv_fn {O : Orac} {n : String} {a b as : List AV} {r : AV} {h : Heap} {k : AV → Heap → Prop} (hf : Fn O n (a ++ as ++ b) r) (hk : k r h) : @icallv O (.fn n a b) as h ⟨k⟩ :=
  ⟨n, a, b, rfl, r, h, ⟨_, r, [], [], .frz hf.a, hf.o, .inl hf.a, .frz r hf.r, rfl, fun k sz es hh => by simp at hh, rfl⟩, hk⟩
/-- A call whose arguments read so; the result leads nowhere. -/
theorem icall_fz {O : Orac} {f : String} {as as' : List AV} {r : AV} {h : Heap} {k : AV → Heap → Prop} (hz : FzL h as as') (hf : Fn O f as' r) (ho : Own r) (hk : k r h) : @icall O f as h ⟨k⟩ :=
  ⟨r, h, ⟨as', r, [], [], hz, hf.o, .inr ⟨ho, fun o hh => by simp at hh⟩, .frz r hf.r, rfl, fun k sz es hh => by simp at hh, rfl⟩, hk⟩

theorem retQ_normal {res r frag t h} : retQ res r frag .normal t h = Done res r frag ⟨t, h⟩ := rfl
theorem retQ_ret {res r frag t h} : retQ res r frag .ret t h = Done res r frag ⟨t, h⟩ := rfl
theorem st0_0 {a as} : st0 (a :: as) 0 = a := rfl
theorem st0_s {a as n} : st0 (a :: as) (n + 1) = st0 as n := rfl

/-- One result in a slot, only read. -/
theorem done_t {n : Nat} {r : AV} {t : Slots} {h : Heap} (ht : t n = r) (hr : Frz r) : Done [.t n] r [] ⟨t, h⟩ := by
  subst ht
  exact .inl ⟨rfl, [t n], rfl, .refl _ hr⟩
theorem done_t2 {n m : Nat} {r s : AV} {t : Slots} {h : Heap} (ht : t n = r) (hs : t m = s) (hr : Frz r) (hs' : Frz s) : Done [.t n, .t m] (.tup [r, s]) [] ⟨t, h⟩ := by
  subst ht; subst hs
  exact .inl ⟨rfl, [t n, t m], rfl, .refl _ (.tup _ fun c hc => by simp at hc; rcases hc with rfl | rfl <;> assumption)⟩

theorem frz_fs {α : Type} {sz : Nat} {f : α → List AV} {l : List α} (h : ∀ a ∈ l, ∀ c ∈ f a, Frz c) : Frz (.fs sz (l.map f)) := .fs _ _ fun e he c hc => by
  obtain ⟨a, ha, rfl⟩ := List.mem_map.1 he
  exact h a ha c hc

attribute [go_sem] retQ_normal retQ_ret st0_0 st0_s
end Go.Nw
