/- Arrays of three numbers in boxes, at a known place. -/
import Derived.Test.YtinmifhfkkjccaaDoorNwMaps
set_option linter.all false
namespace Go.Nw
theorem L67 {cs:List AV} {off n c:Nat} {kd:IntKind} {h:Heap} {k:AV->Heap->Prop} (hc:c<n):@c0d 1 n (.fp cs off) (.v (.int kd (c:Int))) h ⟨k⟩=k (.fp cs (off+c)) h:=by
 simp only [c0d,eff,evT,if_true,Nat.one_ne_zero,if_false]
 rw [if_pos ⟨by omega,by omega⟩]
 simp only [Int.toNat_natCast,Nat.mul_one,iE9,Prod.mk.injEq,eq_iff_iff]
 exact ⟨fun ⟨_,_,⟨e1,e2⟩,hk⟩=>by subst e1 e2; exact hk,fun hk=>⟨_,_,⟨rfl,rfl⟩,hk⟩⟩
theorem L69 {id j off n c:Nat} {kd:IntKind} {h:Heap} {k:AV->Heap->Prop} (hc:c<n) (ho:(h.ob id).isSome=true):@c0d 1 n (.rp id j off) (.v (.int kd (c:Int))) h ⟨k⟩=k (.rp id j (off+c)) h:=by
 obtain ⟨o,ho⟩:=Option.isSome_iff_exists.1 ho
 simp only [c0d,eff,evT,if_true,Nat.one_ne_zero,if_false,ho,bS9]
 rw [if_pos ⟨by omega,by omega⟩]
 simp only [Int.toNat_natCast,Nat.mul_one,iE9,Prod.mk.injEq,eq_iff_iff]
 exact ⟨fun ⟨_,_,⟨e1,e2⟩,hk⟩=>by subst e1 e2; exact hk,fun hk=>⟨_,_,⟨rfl,rfl⟩,hk⟩⟩
variable {cs:List AV} {kd:IntKind} {h:Heap} {k:AV->Heap->Prop} {id j:Nat}
@[go_sem] theorem M9w:@c0d 1 3 (.fp cs 0) (.v (.int kd 0)) h ⟨k⟩=k (.fp cs 0) h:=L67 (c:=0) (by decide)
@[go_sem] theorem M9x:@c0d 1 3 (.fp cs 0) (.v (.int kd 1)) h ⟨k⟩=k (.fp cs 1) h:=L67 (c:=1) (by decide)
@[go_sem] theorem M9y:@c0d 1 3 (.fp cs 0) (.v (.int kd 2)) h ⟨k⟩=k (.fp cs 2) h:=L67 (c:=2) (by decide)
@[go_sem] theorem M9z (ho:(h.ob id).isSome=true):@c0d 1 3 (.rp id j 0) (.v (.int kd 0)) h ⟨k⟩=k (.rp id j 0) h:=L69 (c:=0) (by decide) ho
@[go_sem] theorem M90 (ho:(h.ob id).isSome=true):@c0d 1 3 (.rp id j 0) (.v (.int kd 1)) h ⟨k⟩=k (.rp id j 1) h:=L69 (c:=1) (by decide) ho
@[go_sem] theorem M91 (ho:(h.ob id).isSome=true):@c0d 1 3 (.rp id j 0) (.v (.int kd 2)) h ⟨k⟩=k (.rp id j 2) h:=L69 (c:=2) (by decide) ho
end Go.Nw
