/- An append of several rows with slices that are nil; a ghost step that reads them. -/
import Derived.Test.YtinmifhfkkjccaaDoorNwOwnA
set_option linter.all false
namespace Go.Nw
theorem J3w {α:Type} {f:α->List AV} {sz b id2 n:Nat} {s:AV} {h:Heap} {k:AV->Heap->Prop} {l m r:List α} {raws:List (List AV)} (hs:b2a h s sz (List.map f l)) (hx:h.ob id2=some (sz,raws)) (hd:b07 s id2) (hn:n=raws.length) (hm:m.length=raws.length) (hne:raws≠[])
  (ha : ap b l m=some r) (hk:k (.rs h.nx 0 (List.length r)) (b5y h s (sz,List.map f l++raws))):@b8k sz b s (.rs id2 0 n) h ⟨k⟩:=by
 obtain ⟨hb,rfl⟩:=r9o ha
 rw [List.length_append,hm] at hk
 rw [hm] at hb
 subst hn
 have hpos:raws.length≠0:=fun e=>hne (List.eq_nil_of_length_eq_zero e)
 refine ⟨_,_,?_,hk⟩
 simp only [eff,evT,if_true,Nat.one_ne_zero,if_false]
 rcases hs with ⟨rfl,hl⟩|⟨id,rfl,ho,hlt⟩
 ·have hl':l=[]:=by simpa using hl
  subst hl'
  simp only [hx,bS9,List.map_nil,List.nil_append,List.length_nil,Nat.zero_add,c6k,hpos,if_false]
  rw [if_pos ⟨trivial,by simp,by simpa using hb⟩]
  simp [List.take_of_length_le]
 ·have hne':id≠id2:=hd
  simp only [ho,hx,bS9,List.length_map,z7t]
  rw [if_pos ⟨trivial,trivial,hne',by simp,by simp,hb⟩]
  simp [List.take_of_length_le]
theorem J1m {h:Heap}:∀ {xs ys:List (List AV)},FzR h xs ys->xs.length=ys.length/\∀ (i:Nat) x y,xs[i]?=some x->ys[i]?=some y->FzL h x y
 | [],[],.nil=>⟨rfl,fun i x y hx=>by simp at hx⟩
 | x :: xs,y :: ys,.cons a b=>by
  obtain ⟨h1,h2⟩:=J1m b
  refine ⟨by simp [h1],fun i u v hu hv=>?_⟩
  cases i with
  | zero=>simp at hu hv; subst hu hv; exact a
  | succ i=>exact h2 i u v (by simpa using hu) (by simpa using hv)
theorem J2y {α:Type} {f:α->List AV} {O:Orac} {t:Slots} {h:Heap} {b:XCode} {Q:XExit->Slots->Heap->Prop} {id sz:Nat} {l m:List α} {raws:List (List AV)} (ho:h.ob id=some (sz,List.map f l++raws))
  (hz : FzR (h.only fun _=>false) raws (List.map f m)) (hf:∀ a,∀ c∈f a,Frz c) (hl:∀ a,(f a).length=sz) (hw:cw O b Q t (h.upd id (some (sz,List.map f (l++m))))):cw O (.seq .ghost b) Q t h:=by
 obtain ⟨hlen,hrow⟩:=J1m hz
 refine c2j (t':=t) (h':=h.upd id (some (sz,List.map f (l++m)))) ⟨fun _=>false,rfl,rfl,fun j n es' hj=>?_,fun _=>.inl rfl⟩ hw
 have hj':(if j=id then some (sz,List.map f (l++m)) else h.ob j)=some (n,es'):=hj
 split at hj'
 ·rename_i e; subst e
  simp only [iE9,Prod.mk.injEq] at hj'
  obtain ⟨rfl,rfl⟩:=hj'
  refine ⟨rfl,_,ho,.inr ⟨by simp only [List.map_append,List.length_append,hlen],fun e he=>?_⟩,fun i k d hd=>?_⟩
  ·obtain ⟨x,_,rfl⟩:=List.mem_map.1 he; exact hl x
  ·rw [List.map_append] at hd
   by_cases hik:i<l.length
   ·refine ⟨d,?_,.inl rfl⟩
    simp only [at2] at hd ⊢
    rw [List.getElem?_append_left (by simpa using hik)] at hd ⊢
    exact hd
   ·simp only [at2] at hd ⊢
    rw [List.getElem?_append_right (by simp; omega)] at hd ⊢
    obtain ⟨y,hy,hd⟩:=bE9.1 hd
    have hi2:i - (List.map f l).length<raws.length:=by rw [hlen]; exact (gS9.1 hy).1
    have hxr:=gG9 hi2
    have hfz:=hrow _ _ _ hxr hy
    have hl2:=(b5h hfz).1
    obtain ⟨hk,_⟩:=gS9.1 hd
    have hk':k<(raws[i - (List.map f l).length]).length:=by rw [hl2]; exact hk
    refine ⟨(raws[i - (List.map f l).length])[k],by rw [hxr]; exact gG9 hk',.inr ⟨(b5h hfz).2 k _ _ (gG9 hk') hd,?_⟩⟩
    obtain ⟨a,_,rfl⟩:=List.mem_map.1 (mG9 hy)
    exact hf a _ (mG9 hd)
 ·exact ⟨rfl,es',hj',.inl rfl,fun i k d hd=>⟨d,hd,.inl rfl⟩⟩
end Go.Nw
