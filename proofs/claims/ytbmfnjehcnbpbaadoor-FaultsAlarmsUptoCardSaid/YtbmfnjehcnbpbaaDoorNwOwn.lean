/- Functions whose result is a slice of one's own; a slice that may be nil, held against nil. -/
import Derived.Test.YtbmfnjehcnbpbaaDoorNwHeap
set_option linter.all false
namespace Go.Nw
def c5y {α : Type} (e : α -> List AV) (sz : Nat) : Prop := ∀ a, (e a).length = sz /\ ∀ c ∈ e a, ∃ x, c = .v x
structure FnW {α : Type} (O : Orac) (f : String) (as : List AV) (sz : Nat) (e : α -> List AV) (l : List α) : Prop where
 o : O f as (.rs 0 0 (List.length l)) [(sz, List.map e l)]
 a : ∀ a ∈ as, Frz a
 p : c5y e sz
def p8x {α : Type} (e : α -> List AV) (sz : Nat) : Prop := ∀ a, (e a).length = sz /\ ∀ c ∈ e a, Frz c
structure FnWF {α : Type} (O : Orac) (f : String) (as : List AV) (sz : Nat) (e : α -> List AV) (l : List α) : Prop where
 o : O f as (.rs 0 0 (List.length l)) [(sz, List.map e l)]
 a : ∀ a ∈ as, Frz a
 p : p8x e sz
end Go.Nw
namespace Go.Nw
def c0d (sz len : Nat) (x i : AV) (h : Heap) [k : K2] : Prop := ∃ r h', eff (.ixP sz len (.t 0) (.t 1)) (evT fun j => if j = 0 then x else i) h = some (r, h') /\ k.k r h'
theorem j4f {O : Orac} {d r K t h sz len x i} : b0d O (⟨d, none, .ixP sz len x i⟩ :: r) K t h = @iop O (.ixP sz len x i) t h ⟨fun v h' => b0d O r K (b0l t d v) h'⟩ := b2n rfl
theorem j6g {O : Orac} {t h k sz len x i} : @iop O (.ixP sz len x i) t h ⟨k⟩ = @c0d sz len (evT t x) (evT t i) h ⟨k⟩ := by
 show op1 _ _ _ _ _ = _
 simp only [op1, c0d, eff, evT, if_true, Nat.one_ne_zero, if_false]
theorem B3f {kd kd' : IntKind} {l : List Int} {cs : List Value} {i x : Int} {n : Nat} {h : Heap} {k : AV -> Heap -> Prop} (hg : get l i = some x) (he : cs = List.map (Value.int kd) l) (hn : n = l.length) :
  @c0d 1 n (.fp (List.map AV.v cs) 0) (.v (.int kd' i)) h ⟨k⟩ = k (.fp (List.map AV.v cs) (Int.toNat i)) h := by
 have h0 := b05 hg
 have h1 := b06 hg
 simp only [c0d, eff, evT, if_true, Nat.one_ne_zero, if_false]
 rw [if_pos ⟨h0, by rw [hn]; exact h1⟩]
 simp only [Nat.zero_add, Nat.mul_one, iE9, Prod.mk.injEq]
 apply propext
 exact ⟨fun ⟨_, _, ⟨e1, e2⟩, hk⟩ => by subst e1; subst e2; exact hk, fun hk => ⟨_, _, ⟨rfl, rfl⟩, hk⟩⟩
theorem B3e {kd : IntKind} {l : List Int} {cs : List Value} {i x : Int} {k : AV -> Prop} (hg : get l i = some x) (he : cs = List.map (Value.int kd) l) :
  @c0b (List.map AV.v cs) (Int.toNat i) ⟨k⟩ = k (.v (.int kd x)) := by
 have h1 := b8j hg
 show b4x _ _ _ = _
 unfold b4x
 subst he
 simp [h1]
attribute [go_sem ↓] j4f j6g
theorem E0s {α : Type} {f : α -> List AV} {v : AV} {n : Nat} {o : Option (List α)} {k : Int -> Prop} (hv : D87 v n f o) : @l58 v ⟨k⟩ = k (List.length (Option.getD o []) : Int) := by
 cases o with
 | none => cases hv; exact d2f
 | some l => cases hv; rw [d99, List.length_map]; rfl
end Go.Nw
