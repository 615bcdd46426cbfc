/- Small arrays that are read at a fixed place. -/
import Derived.Test.YtjpgklcdlklhbaaDoorNwOwn
set_option linter.all false
namespace Go.Nw
theorem z9p {kd : IntKind} {cs : List AV} {i : Int} {n : Nat} {h : Heap} {k : AV -> Heap -> Prop} (h0 : 0 <= i) (h1 : i < n) :
  @c0d 1 n (.fp cs 0) (.v (.int kd i)) h ⟨k⟩ = k (.fp cs (Int.toNat i)) h := by
 simp only [c0d, eff, evT, if_true, Nat.one_ne_zero, if_false]
 rw [if_pos ⟨h0, h1⟩]
 simp only [Nat.zero_add, Nat.mul_one, iE9, Prod.mk.injEq]
 apply propext
 exact ⟨fun ⟨_, _, ⟨e1, e2⟩, hk⟩ => by subst e1; subst e2; exact hk, fun hk => ⟨_, _, ⟨rfl, rfl⟩, hk⟩⟩
@[go_sem] theorem B78 {kd : IntKind} {a b : AV} {h : Heap} {k : AV -> Heap -> Prop} : @c0d 1 2 (.fp [a, b] 0) (.v (.int kd 0)) h ⟨k⟩ = k (.fp [a, b] 0) h := z9p (by decide) (by decide)
@[go_sem] theorem B79 {kd : IntKind} {a b : AV} {h : Heap} {k : AV -> Heap -> Prop} : @c0d 1 2 (.fp [a, b] 0) (.v (.int kd 1)) h ⟨k⟩ = k (.fp [a, b] 1) h := z9p (by decide) (by decide)
end Go.Nw
