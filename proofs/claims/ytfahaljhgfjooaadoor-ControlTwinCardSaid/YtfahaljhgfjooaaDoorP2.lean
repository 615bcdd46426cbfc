/- Plain laws on the models. -/
import Derived.Test.YtfahaljhgfjooaaDoorKM
set_option linter.all false
namespace Go.Nw.KM
open Go.Nw.Ctl
set_option maxHeartbeats 4000000
variable {O : Orac} [MapsOk O]
theorem c64 (n : Int) : ∀ a ∈ [AV.v (.slice none 0 0), I n], Frz a := b0a (b0e _) (b0a (b0e _) b0j)
theorem j7a (hf : Has O "slices.Grow[[]string,string]" x_slices_Grow___string_string_) (n : Int) (h0 : 0 < n) (h1 : n * 16 <= 2 ^ 40) :
  O "slices.Grow[[]string,string]" [.v (.slice none 0 0), I n] (.rs 0 0 0) [(1, List.replicate n.toNat [.v (.string (ByteArray.mk #[]))])] := by
 refine c7b hf rfl (c64 n) ?_
 refine b1c (fun t h => t 0 = .v (.slice none 0 0) /\ t 1 = I n) ⟨rfl, rfl⟩ fun t h hs => ?_
 obtain ⟨s0, s1⟩ := hs
 simp only [x_slices_Grow___string_string_]
 refine b0b fun K hK => ?_
 simp only [go_sem]
 refine hK _ _ (b0v (b0b fun K hK => ?_))
 simp only [go_sem, s0, s1]
 refine hK _ _ (b0i fun K hK => ?_)
 simp only [go_sem]
 refine b0k (fun hc => ?_) (fun hc => ?_)
 ·have : n < 0 := of_decide_eq_true hc
  omega
 simp only [b0s, b02, b0f]
 refine hK _ _ (b0v (b0b fun K hK => ?_))
 simp only [go_sem, s0, s1]
 refine d19 ?_
 simp only [go_sem, s0, s1]
 refine hK _ _ (b0v (b0b fun K hK => ?_))
 have e1 : wr (n - wr (0 - 0)) = n := by
  rw [b3t (n := (0 : Int) - 0) (by omega) (by omega), b3t (by omega) (by omega)]; omega
 simp only [go_sem, s0, s1, e1]
 refine hK _ _ (b0i fun K hK => ?_)
 simp only [go_sem, s0, s1, e1]
 refine b0k (fun hc => ?_) (fun hc => ?_)
 ·rw [b5n]
  simp only [go_sem, s0, s1, e1]
  refine d19 ?_
  simp only [go_sem, s0, s1, e1]
  refine j6x ?_
  simp only [go_sem, s0, s1, e1]
  refine j3z h0 h1 ?_
  simp only [go_sem, s0, s1, e1]
  refine j6y (n := 1) (rows := List.replicate n.toNat [.v (.string (ByteArray.mk #[]))]) (by simp only [go_sem]) ?_
  simp only [go_sem, s0, s1, e1, b0f]
  refine hK _ _ (b0b fun K hK => ?_)
  simp only [go_sem]
  refine hK _ _ ?_
  simp only [b0x, b0y]
  refine g9t (id := h.nx) (by simp only [go_sem]) (by simp only [go_sem]) fun r hr => ?_
  obtain ⟨_, rfl⟩ := List.mem_replicate.1 hr
  exact ⟨rfl, fun c hc => ⟨_, List.mem_singleton.1 hc⟩⟩
 ·have : ¬ 0 < n := of_decide_eq_false hc
  omega
theorem j7b (hf : Has O "slices.Grow[[]string,string]" x_slices_Grow___string_string_) :
  O "slices.Grow[[]string,string]" [.v (.slice none 0 0), I 0] (.v (.slice none 0 0)) [] := by
 refine c7b hf rfl (c64 0) ?_
 refine b1c (fun t h => t 0 = .v (.slice none 0 0) /\ t 1 = I 0) ⟨rfl, rfl⟩ fun t h hs => ?_
 obtain ⟨s0, s1⟩ := hs
 simp only [x_slices_Grow___string_string_]
 refine b0b fun K hK => ?_
 simp only [go_sem]
 refine hK _ _ (b0v (b0b fun K hK => ?_))
 simp only [go_sem, s0, s1]
 refine hK _ _ (b0i fun K hK => ?_)
 simp only [go_sem]
 refine b0k (fun hc => ?_) (fun hc => ?_)
 ·have : (0 : Int) < 0 := of_decide_eq_true hc
  omega
 simp only [b0s, b02, b0f]
 refine hK _ _ (b0v (b0b fun K hK => ?_))
 simp only [go_sem, s0, s1]
 refine d19 ?_
 simp only [go_sem, s0, s1]
 refine hK _ _ (b0v (b0b fun K hK => ?_))
 have e1 : wr (0 - wr (0 - 0)) = 0 := by decide
 simp only [go_sem, s0, s1, e1]
 refine hK _ _ (b0i fun K hK => ?_)
 simp only [go_sem, s0, s1, e1]
 refine b0k (fun hc => ?_) (fun hc => ?_)
 ·have : (0 : Int) < 0 := of_decide_eq_true hc
  omega
 ·simp only [b0s, b02, b0f]
  refine hK _ _ (b0b fun K hK => ?_)
  simp only [go_sem, s0]
  refine hK _ _ ?_
  simp only [b0x, b0y]
  exact b04 (by simp only [go_sem]) (b0e _)
theorem d3q (hf : Has O "slices.Concat[[]string,string]" x_slices_Concat___string_string_) (hg : Has O "slices.Grow[[]string,string]" x_slices_Grow___string_string_) : d0t O := by
 intro sl r hm
 unfold c9i at hm
 split at hm
 case isFalse => cases hm
 rename_i hc
 obtain ⟨hc1, hc2, hc3⟩ := hc
 cases hm
 refine j04 hf rfl (b0a (b0c fun a _ => c65 a) b0j) g2n ?_
 refine b1c (fun t h => t 0 = .fs 1 (List.map b4f sl)) rfl fun t h s0 => ?_
 simp only [x_slices_Concat___string_string_]
 refine b0b fun K hK => ?_
 simp only [go_sem]
 refine hK _ _ (b0b fun K hK => ?_)
 simp only [go_sem]
 refine hK _ _ (b0v (b0b fun K hK => ?_))
 simp only [go_sem, s0, List.length_map]
 refine hK _ _ (b0i fun K hK => ?_)
 simp only [b0u]
 have hle : ∀ i, (sl.take i).flatten.length <= sl.flatten.length := fun i => by
  have := congrArg (fun l => (List.flatten l).length) (List.take_append_drop i sl)
  simp only [List.flatten_append, List.length_append] at this
  omega
 refine c2k (fun k t h => t 0 = .fs 1 (List.map b4f sl) /\ t 9 = .fs 1 (List.map b4f sl) /\ t 10 = I (sl.length : Int) /\ ∃ i : Nat, i <= sl.length /\ k = sl.length - i /\ t 11 = I (i : Int) /\ t 3 = I ((sl.take i).flatten.length : Int)) sl.length ?_ ?_
 ·exact ⟨by simp only [go_sem, s0], by simp only [go_sem, s0], by simp only [go_sem], 0, by omega, by omega, by simp only [go_sem]; rfl, by simp only [go_sem]; rfl⟩
 ·rintro k t h ⟨s0, s9, s10, i, hi, hk, s11, s3⟩
  rw [d5n]
  refine b0b fun K2 hK2 => ?_
  simp only [go_sem, s10, s11]
  refine hK2 _ _ (b0i fun K3 hK3 => ?_)
  simp only [go_sem]
  refine b0k (fun hb => ?_) (fun hb => ?_)
  ·simp only [b0s, b0f]
   refine hK3 _ _ (b0i fun K4 hK4 => ?_)
   simp only [b0u]
   have hlt : i < sl.length := by have := of_decide_eq_true hb; omega
   have hx : sl[i]? = some sl[i] := gG9 hlt
   generalize sl[i] = x at hx
   have h_x : get sl (i : Int) = some x := by unfold get; rw [if_pos (by omega)]; simpa using hx
   have hfl := c9m hx
   have hlen : (sl.take (i + 1)).flatten.length = (sl.take i).flatten.length + x.length := by rw [hfl, List.length_append]
   have hb1 := hle (i + 1)
   refine b0b fun K5 hK5 => ?_
   simp only [go_sem, s9, s11, b08 h_x, b3n h_x, b05 h_x, b06 h_x]
   refine hK5 _ _ (b0b fun K5 hK5 => ?_)
   have e1 : wr (((sl.take i).flatten.length : Int) + (x.length : Int)) = ((sl.take (i + 1)).flatten.length : Int) := by
    rw [b3t (by omega) (by omega)]; omega
   simp only [go_sem, s3, List.length_map, e1]
   refine hK5 _ _ (b0b fun K5 hK5 => ?_)
   simp only [go_sem]
   refine hK5 _ _ ?_
   simp only [go_sem]
   refine b0k (fun hd => ?_) (fun hd => ?_)
   ·have := of_decide_eq_true hd
    omega
   simp only [b0s, b02, b0f]
   refine hK4 _ _ ?_
   rw [b5n]
   have e2 : wr ((i : Int) + 1) = ((i + 1 : Nat) : Int) := by rw [b3t (by omega) (by omega)]; omega
   simp only [go_sem, s11, e2, b0f]
   exact ⟨k - 1, by omega, by simp only [go_sem, s0], by simp only [go_sem, s9], by simp only [go_sem, s10], i + 1, by omega, by omega, by simp only [go_sem], by simp only [go_sem]⟩
  ·have hge : sl.length <= i := by have := of_decide_eq_false hb; omega
   have hie : i = sl.length := by omega
   subst hie
   simp only [b09, b1b, b1a, c0s, b02, b0f, Nat.reduceEqDiff, not_false_eq_true]
   refine hK _ _ (b0b fun K hK => ?_)
   simp only [go_sem, s3]
   rw [List.take_length]
   refine j4v (c64 _) (j7a hg _ (by omega) (by omega)) (fun r hr => ?_) ?_
   ·obtain ⟨_, rfl⟩ := List.mem_replicate.1 hr
    exact ⟨rfl, fun c hc => ⟨_, List.mem_singleton.1 hc⟩⟩
   simp only [go_sem]
   refine hK _ _ (b0v (b0b fun K hK => ?_))
   simp only [go_sem, s0, List.length_map]
   refine hK _ _ (b0i fun K hK => ?_)
   simp only [b0u]
   refine c2k (fun k t h => t 25 = .fs 1 (List.map b4f sl) /\ t 26 = I (sl.length : Int) /\ ∃ (i id : Nat) (es : List (List AV)), i <= sl.length /\ k = sl.length - i /\ t 27 = I (i : Int) /\ t 6 = .rs id 0 (List.length (sl.take i).flatten) /\ h.ob id = some (1, es) /\ id < h.nx /\ es.take (sl.take i).flatten.length = List.map eS (sl.take i).flatten /\ (sl.take i).flatten.length <= es.length /\ (0 < i -> es = List.map eS (sl.take i).flatten)) sl.length ?_ ?_
   ·exact ⟨by simp only [go_sem, s0], by simp only [go_sem], 0, h.nx, List.replicate (Int.toNat (sl.flatten.length : Int)) [.v (.string (ByteArray.mk #[]))], by omega, by omega, by simp only [go_sem]; rfl, by simp only [go_sem]; rfl, by simp only [go_sem], by simp only [go_sem], by simp, by simp, fun h => by omega⟩
   ·rintro k t h ⟨s25, s26, i, id, es, hi, hk, s27, s6, ho, hlt0, he, hel, hex⟩
    rw [d5m]
    refine b0b fun K2 hK2 => ?_
    simp only [go_sem, s26, s27]
    refine hK2 _ _ (b0i fun K3 hK3 => ?_)
    simp only [go_sem]
    refine b0k (fun hb => ?_) (fun hb => ?_)
    ·simp only [b0s, b0f]
     refine hK3 _ _ (b0i fun K4 hK4 => ?_)
     simp only [b0u]
     have hlt : i < sl.length := by have := of_decide_eq_true hb; omega
     have hx : sl[i]? = some sl[i] := gG9 hlt
     generalize sl[i] = x at hx
     have h_x : get sl (i : Int) = some x := by unfold get; rw [if_pos (by omega)]; simpa using hx
     have hfl := c9m hx
     have hlen : (sl.take (i + 1)).flatten.length = (sl.take i).flatten.length + x.length := by rw [hfl, List.length_append]
     have hb1 := hle (i + 1)
     refine b0b fun K5 hK5 => ?_
     simp only [go_sem, s25, s27, b08 h_x, b3n h_x, b05 h_x, b06 h_x]
     refine hK5 _ _ ?_
     rw [b5n]
     simp only [go_sem, s6]
     refine j3v (f := eS) (r := (sl.take (i + 1)).flatten) ho he hel (by rw [hfl]; exact b9k (by omega)) ?_
     simp only [go_sem, b02, b0f]
     refine hK4 _ _ ?_
     rw [b5n]
     have e2 : wr ((i : Int) + 1) = ((i + 1 : Nat) : Int) := by rw [b3t (by omega) (by omega)]; omega
     simp only [go_sem, s27, e2, b0f]
     exact ⟨k - 1, by omega, by simp only [go_sem, s25], by simp only [go_sem, s26], i + 1, h.nx, _, by omega, by omega, by simp only [go_sem], by simp only [go_sem], by simp only [go_sem], by simp only [go_sem], List.take_of_length_le (Nat.le_of_eq (List.length_map _)), Nat.le_of_eq (List.length_map _).symm, fun _ => rfl⟩
    ·have hge : sl.length <= i := by have := of_decide_eq_false hb; omega
     have hie : i = sl.length := by omega
     subst hie
     simp only [b09, b1b, b1a, c0s, b02, b0f, Nat.reduceEqDiff, not_false_eq_true]
     refine hK _ _ (b0b fun K hK => ?_)
     rw [List.take_length] at s6 hex
     simp only [go_sem, s6]
     refine hK _ _ ?_
     simp only [b0x, b0y]
     have hpos : 0 < sl.length := by
      cases sl with
      | nil => simp at hc3
      | cons a l => simp
     rw [hex hpos] at ho
     exact g9v (id := id) (by simp only [go_sem]) (by simp only [go_sem, ho]) g2n
theorem d3r (hf : Has O "slices.Concat[[]string,string]" x_slices_Concat___string_string_) (hg : Has O "slices.Grow[[]string,string]" x_slices_Grow___string_string_) : d0u O := by
 intro sl r hm
 unfold c9j at hm
 split at hm
 case isFalse => cases hm
 rename_i hc
 obtain ⟨hc1, hc2⟩ := hc
 cases hm
 refine b1i hf rfl (b0a (b0c fun a _ => c65 a) b0j) (b0e _) ?_
 refine b1c (fun t h => t 0 = .fs 1 (List.map b4f sl)) rfl fun t h s0 => ?_
 simp only [x_slices_Concat___string_string_]
 refine b0b fun K hK => ?_
 simp only [go_sem]
 refine hK _ _ (b0b fun K hK => ?_)
 simp only [go_sem]
 refine hK _ _ (b0v (b0b fun K hK => ?_))
 simp only [go_sem, s0, List.length_map]
 refine hK _ _ (b0i fun K hK => ?_)
 simp only [b0u]
 have hle : ∀ i, (sl.take i).flatten.length <= sl.flatten.length := fun i => by
  have := congrArg (fun l => (List.flatten l).length) (List.take_append_drop i sl)
  simp only [List.flatten_append, List.length_append] at this
  omega
 refine c2k (fun k t h => t 0 = .fs 1 (List.map b4f sl) /\ t 9 = .fs 1 (List.map b4f sl) /\ t 10 = I (sl.length : Int) /\ ∃ i : Nat, i <= sl.length /\ k = sl.length - i /\ t 11 = I (i : Int) /\ t 3 = I ((sl.take i).flatten.length : Int)) sl.length ?_ ?_
 ·exact ⟨by simp only [go_sem, s0], by simp only [go_sem, s0], by simp only [go_sem], 0, by omega, by omega, by simp only [go_sem]; rfl, by simp only [go_sem]; rfl⟩
 ·rintro k t h ⟨s0, s9, s10, i, hi, hk, s11, s3⟩
  rw [d5n]
  refine b0b fun K2 hK2 => ?_
  simp only [go_sem, s10, s11]
  refine hK2 _ _ (b0i fun K3 hK3 => ?_)
  simp only [go_sem]
  refine b0k (fun hb => ?_) (fun hb => ?_)
  ·simp only [b0s, b0f]
   refine hK3 _ _ (b0i fun K4 hK4 => ?_)
   simp only [b0u]
   have hlt : i < sl.length := by have := of_decide_eq_true hb; omega
   have hx : sl[i]? = some sl[i] := gG9 hlt
   generalize sl[i] = x at hx
   have h_x : get sl (i : Int) = some x := by unfold get; rw [if_pos (by omega)]; simpa using hx
   have hfl := c9m hx
   have hlen : (sl.take (i + 1)).flatten.length = (sl.take i).flatten.length + x.length := by rw [hfl, List.length_append]
   have hb1 := hle (i + 1)
   refine b0b fun K5 hK5 => ?_
   simp only [go_sem, s9, s11, b08 h_x, b3n h_x, b05 h_x, b06 h_x]
   refine hK5 _ _ (b0b fun K5 hK5 => ?_)
   have e1 : wr (((sl.take i).flatten.length : Int) + (x.length : Int)) = ((sl.take (i + 1)).flatten.length : Int) := by
    rw [b3t (by omega) (by omega)]; omega
   simp only [go_sem, s3, List.length_map, e1]
   refine hK5 _ _ (b0b fun K5 hK5 => ?_)
   simp only [go_sem]
   refine hK5 _ _ ?_
   simp only [go_sem]
   refine b0k (fun hd => ?_) (fun hd => ?_)
   ·have := of_decide_eq_true hd
    omega
   simp only [b0s, b02, b0f]
   refine hK4 _ _ ?_
   rw [b5n]
   have e2 : wr ((i : Int) + 1) = ((i + 1 : Nat) : Int) := by rw [b3t (by omega) (by omega)]; omega
   simp only [go_sem, s11, e2, b0f]
   exact ⟨k - 1, by omega, by simp only [go_sem, s0], by simp only [go_sem, s9], by simp only [go_sem, s10], i + 1, by omega, by omega, by simp only [go_sem], by simp only [go_sem]⟩
  ·have hge : sl.length <= i := by have := of_decide_eq_false hb; omega
   have hie : i = sl.length := by omega
   subst hie
   simp only [b09, b1b, b1a, c0s, b02, b0f, Nat.reduceEqDiff, not_false_eq_true]
   refine hK _ _ (b0b fun K hK => ?_)
   simp only [go_sem, s3]
   rw [List.take_length]
   rw [hc1]
   refine b01 ⟨j7b hg, c64 _, b0e _⟩ ?_
   simp only [go_sem]
   refine hK _ _ (b0v (b0b fun K hK => ?_))
   simp only [go_sem, s0, List.length_map]
   refine hK _ _ (b0i fun K hK => ?_)
   simp only [b0u]
   refine c2k (fun k t h => t 25 = .fs 1 (List.map b4f sl) /\ t 26 = I (sl.length : Int) /\ ∃ i : Nat, i <= sl.length /\ k = sl.length - i /\ t 27 = I (i : Int) /\ t 6 = .v (.slice none 0 0)) sl.length ?_ ?_
   ·exact ⟨by simp only [go_sem, s0], by simp only [go_sem], 0, by omega, by omega, by simp only [go_sem]; rfl, by simp only [go_sem]⟩
   ·rintro k t h ⟨s25, s26, i, hi, hk, s27, s6⟩
    rw [d5m]
    refine b0b fun K2 hK2 => ?_
    simp only [go_sem, s26, s27]
    refine hK2 _ _ (b0i fun K3 hK3 => ?_)
    simp only [go_sem]
    refine b0k (fun hb => ?_) (fun hb => ?_)
    ·simp only [b0s, b0f]
     refine hK3 _ _ (b0i fun K4 hK4 => ?_)
     simp only [b0u]
     have hlt : i < sl.length := by have := of_decide_eq_true hb; omega
     have hx : sl[i]? = some sl[i] := gG9 hlt
     generalize sl[i] = x at hx
     have h_x : get sl (i : Int) = some x := by unfold get; rw [if_pos (by omega)]; simpa using hx
     have hfl := c9m hx
     have hlen : (sl.take (i + 1)).flatten.length = (sl.take i).flatten.length + x.length := by rw [hfl, List.length_append]
     have hb1 := hle (i + 1)
     have hx0 : x = [] := List.eq_nil_of_length_eq_zero (by omega)
     subst hx0
     refine b0b fun K5 hK5 => ?_
     simp only [go_sem, s25, s27, b08 h_x, b3n h_x, b05 h_x, b06 h_x]
     refine hK5 _ _ ?_
     rw [b5n]
     simp only [go_sem, s6]
     refine j3x ?_
     simp only [go_sem, b02, b0f]
     refine hK4 _ _ ?_
     have e2 : wr ((i : Int) + 1) = ((i + 1 : Nat) : Int) := by rw [b3t (by omega) (by omega)]; omega
     refine b03 fun K6 hK6 => ?_
     simp only [go_sem, s27, e2]
     refine hK6 _ _ ?_
     simp only [b0f]
     exact ⟨k - 1, by omega, by simp only [go_sem, s25], by simp only [go_sem, s26], i + 1, by omega, by omega, by simp only [go_sem], by simp only [go_sem]⟩
    ·have hge : sl.length <= i := by have := of_decide_eq_false hb; omega
     have hie : i = sl.length := by omega
     subst hie
     simp only [b09, b1b, b1a, c0s, b02, b0f, Nat.reduceEqDiff, not_false_eq_true]
     refine hK _ _ (b0b fun K hK => ?_)
     simp only [go_sem, s6]
     refine hK _ _ ?_
     simp only [b0x, b0y]
     exact b04 (by simp only [go_sem]) (b0e _)
end Go.Nw.KM
namespace Go.Nw.KM
open Go.Nw.Ctl
set_option maxHeartbeats 4000000
variable {O : Orac} [MapsOk O]
noncomputable def r15 (s : List Int) : Option (List Int) := match s with | [] => some [] | a :: l => r1w (a :: l)
def nN (x : List Int) : AV := match x with | [] => .v (.slice none 0 0) | a :: l => .fs 1 (List.map eI (a :: l))
@[go_sem] def c84 (x : List Int) : List AV := [nN x]
@[go_sem] theorem r7g {x : List Int} {k : AV -> Prop} : @b4y (nN x) ⟨k⟩ = k (nN x) := rfl
theorem r3y (x : List Int) : Frz (nN x) := by cases x with
 | nil => exact .v _
 | cons a l => exact b0c fun a _ => b1t a
theorem r3z {h : Heap} (x : List Int) : Fz h (nN x) (.fs 1 (List.map eI x)) := by cases x with
 | nil => exact .nil _
 | cons a l => exact .refl _ (b0c fun a _ => b1t a)
theorem r18 (x : List Int) : ∀ c ∈ c84 x, Frz c := b0a (r3y x) b0j
theorem r2f (x : List Int) : (c84 x).length = 1 := rfl
theorem r20 {b : Nat} {l r : List Int} {x : Int} (h : ap b l [x] = some r) : nN r = .fs 1 (List.map eI r) := by
 obtain ⟨_, rfl⟩ := l43 h
 cases l <;> rfl
theorem r4c {x : AV} : ∀ i, ¬ b07 (.v (.slice none 0 0)) i -> b07 x i := fun _ h => absurd trivial h
noncomputable def r1m : Option ((List Int) × Bool × Int) :=
 some ([], true, 0)
noncomputable def r1n (at_14 : Int) (runs_11_1 : List (List Int)) (pairs_12_1 : List control_pair) (found_13_1 : List (control_pair × Int)) : Option (Out ((List (List Int)) × (List control_pair) × (List (control_pair × Int)) × Int) (Unit ⊕ (((List Int) × Bool × Int)))) :=
 some (.nx (runs_11_1, pairs_12_1, found_13_1, wr (at_14 + 1)))
noncomputable def r04 (x_95 : Int) (runs_11_2 : List (List Int)) (pairs_12_2 : List control_pair) (found_13_2 : List (control_pair × Int)) : Option (Out ((List (List Int)) × (List control_pair) × (List (control_pair × Int)) × Int) (((List (List Int)) × (List control_pair) × (List (control_pair × Int))))) :=
 some (.nx (runs_11_2, pairs_12_2, found_13_2, wr (x_95 + 1)))
noncomputable def r03 (a : Machine) (b : Machine) (assume : List (List Literal)) (at_14 : Int) (x30 : control_pair) (y40 : Int) : ((List (List Int)) × (List control_pair) × (List (control_pair × Int)) × Int) -> Option (Out ((List (List Int)) × (List control_pair) × (List (control_pair × Int)) × Int) (((List (List Int)) × (List control_pair) × (List (control_pair × Int)))))
 | (runs_11_1, pairs_12_1, found_13_1, x_95) =>
  if decide (x_95 < y40) then
   (c1z (situation_Plant.mk (((b3h a).Plant).Machine)) assume (Place.mk x30.a.State (x30.a.Values.1, x30.a.Values.2)) x_95).bind fun y47 =>
   if !y47 then
    r04 x_95 runs_11_1 pairs_12_1 found_13_1
   else
    (l31 (situation_Plant.mk (((b3h a).Plant).Machine)) (Place.mk x30.a.State (x30.a.Values.1, x30.a.Values.2)) x_95).bind fun y52 =>
    (l31 (situation_Plant.mk (((b3h b).Plant).Machine)) (Place.mk x30.b.State (x30.b.Values.1, x30.b.Values.2)) x_95).bind fun y53 =>
    if !(b6m found_13_1 (control_pair.mk (Place.mk y52.State (y52.Values.1, y52.Values.2)) (Place.mk y53.State (y53.Values.1, y53.Values.2)))) then
     (ap 48 pairs_12_1 ([(control_pair.mk (Place.mk y52.State (y52.Values.1, y52.Values.2)) (Place.mk y53.State (y53.Values.1, y53.Values.2)))])).bind fun l56 =>
     (get runs_11_1 at_14).bind fun x61 =>
     (r15 x61).bind fun y62 =>
     (ap 8 y62 ([x_95])).bind fun l63 =>
     (ap 24 runs_11_1 ([l63])).bind fun l64 =>
     r04 x_95 l64 l56 (b3w found_13_1 (control_pair.mk (Place.mk y52.State (y52.Values.1, y52.Values.2)) (Place.mk y53.State (y53.Values.1, y53.Values.2))) ((List.length pairs_12_1 : Nat) : Int))
    else
     r04 x_95 runs_11_1 pairs_12_1 found_13_1
  else
   some (.br (runs_11_1, pairs_12_1, found_13_1))
noncomputable def l42 (a : Machine) (b : Machine) (assume : List (List Literal)) : ((List (List Int)) × (List control_pair) × (List (control_pair × Int)) × Int) -> Option (Out ((List (List Int)) × (List control_pair) × (List (control_pair × Int)) × Int) (Unit ⊕ (((List Int) × Bool × Int))))
 | (runs_11, pairs_12, found_13, at_14) =>
  if decide (at_14 < ((List.length pairs_12 : Nat) : Int)) then
   (get pairs_12 at_14).bind fun x30 =>
   (get a.States x30.a.State).bind fun x33 =>
   (get b.States x30.b.State).bind fun x34 =>
   if decide (¬x33.Shows = x34.Shows) then
    (get runs_11 at_14).bind fun x38 =>
    some (.br (.inr (x38, false, 0)))
   else
    (c1y (situation_Plant.mk (((b3h a).Plant).Machine))).bind fun y40 =>
    (b0w (r03 a b assume at_14 x30 y40) (runs_11, pairs_12, found_13, 0)).bind fun
     | (runs_11_1, pairs_12_1, found_13_1) => r1n at_14 runs_11_1 pairs_12_1 found_13_1
  else
   some (.br (.inl ()))
noncomputable def r02 (a : Machine) (b : Machine) (assume : List (List Literal)) : Option ((List Int) × Bool × Int) :=
 (c2f a).bind fun y2 =>
 if decide (¬y2 = 0) then
  some ([], false, y2)
 else
  (c2f b).bind fun y6 =>
  if decide (¬y6 = 0) then
   some ([], false, y6)
  else
   (b9x a ([assume])).bind fun y10 =>
   if decide (¬y10 = 0) then
    some ([], false, y10)
   else
    (r1a a.Inputs b.Inputs).bind fun y16 =>
    (if !y16 then some true else (r1a a.Outputs b.Outputs).bind fun y17 =>
    some (!y17)).bind fun c18 =>
    if c18 then
     some ([], false, 1)
    else
     (b0w (l42 a b assume) (([] ++ [([] : List Int)]), [(control_pair.mk (Place.mk 0 (0, 0)) (Place.mk 0 (0, 0)))], (b3w ([] : List (control_pair × Int)) (control_pair.mk (Place.mk 0 (0, 0)) (Place.mk 0 (0, 0))) 0), 0)).bind fun
      | (.inl ()) => r1m
      | (.inr r') => some r'
def r1z (O : Orac) : Prop := ∀ (a : Machine) (b : Machine) (assume : List (List Literal)) (r : (List Int) × Bool × Int) (hm0 : r02 a b assume = some r), Fn O "newel/control.Same" [.agg [.fs 1 (List.map eS a.Inputs), .fs 1 (List.map eS a.Outputs), .fs 2 (List.map b0o a.Counters), .fs 2 (List.map b0p a.States), .fs 4 (List.map b0m a.Rules)], .agg [.fs 1 (List.map eS b.Inputs), .fs 1 (List.map eS b.Outputs), .fs 2 (List.map b0o b.Counters), .fs 2 (List.map b0p b.States), .fs 4 (List.map b0m b.Rules)], .fs 1 (List.map b0t assume)] (.tup [.fs 1 (List.map eI r.1), B r.2.1, I r.2.2])
noncomputable def r1f (a : Machine) (b : Machine) (run : List Int) : Option Bool :=
 (c0u a).bind fun y10 =>
 (if decide (¬y10 = 0) then some true else (c0u b).bind fun y11 =>
 some (decide (¬y11 = 0))).bind fun c12 =>
 (if c12 then some true else (b8o a).bind fun y13 =>
 some y13).bind fun c14 =>
 (if c14 then some true else (r06 a).bind fun y15 =>
 some (decide (20 < y15))).bind fun c16 =>
 (if c16 then some true else (r06 b).bind fun y17 =>
 some (decide (20 < y17))).bind fun c18 =>
 if c18 || (decide (60 < (List.length run : Int))) then
  (c7n).bind fun y27 =>
  some y27
 else
  (r02 a a ([])).bind fun y29 =>
  if (decide (¬y29.2.2 = 0)) || (!y29.2.1) then
   some false
  else
   (r02 a b ([])).bind fun y34 =>
   if decide (¬y34.2.2 = 0) then
    (if decide (y34.2.2 = 1) then (c7n).bind fun y39 =>
    some y39 else some false).bind fun c40 =>
    some c40
   else
    (b93 a y34.1).bind fun y43 =>
    (b93 b y34.1).bind fun y45 =>
    if ((!y43.2) || (!y45.2)) || ((!y34.2.1) && (decide (y43.1 = y45.1))) then
     some false
    else
     (b93 a run).bind fun y52 =>
     (b93 b run).bind fun y54 =>
     (if (((!y34.2.1) || (!y52.2)) || (!y54.2)) || (decide (y52.1 = y54.1)) then (c7n).bind fun y57 =>
     some y57 else some false).bind fun c58 =>
     some c58
def r2k (O : Orac) : Prop := ∀ (a : Machine) (b : Machine) (run : List Int) (r : Bool) (hm0 : r1f a b run = some r), Fn O "newel/newellaw04.ControlTwin" [.agg [.fs 1 (List.map eS a.Inputs), .fs 1 (List.map eS a.Outputs), .fs 2 (List.map b0o a.Counters), .fs 2 (List.map b0p a.States), .fs 4 (List.map b0m a.Rules)], .agg [.fs 1 (List.map eS b.Inputs), .fs 1 (List.map eS b.Outputs), .fs 2 (List.map b0o b.Counters), .fs 2 (List.map b0p b.States), .fs 4 (List.map b0m b.Rules)], .fs 1 (List.map eI run)] (B r)
theorem r38 (hg : Has O "slices.Clone[[]int,int]" x_slices_Clone___int_int_) : Fn O "slices.Clone[[]int,int]" [.v (.slice none 0 0)] (.v (.slice none 0 0)) := by
 refine b1i hg rfl (b0a (b0e _) b0j) (b0e _) ?_
 refine b1c (fun t h => t 0 = .v (.slice none 0 0)) rfl fun t h s0 => ?_
 simp only [x_slices_Clone___int_int_]
 refine b0b fun K hK => ?_
 simp only [go_sem]
 refine hK _ _ ?_
 clear hK K
 refine b0v ?_
 refine b0b fun K hK => ?_
 simp only [go_sem, s0, d83]
 refine hK _ _ ?_
 clear hK K
 refine b0i fun K3 hK3 => ?_
 simp only [go_sem]
 refine b0b fun K hK => ?_
 simp only [go_sem]
 refine hK _ _ ?_
 clear hK K
 simp only [b0x, b1p, b0y]
 exact b04 (by simp only [go_sem]) (b0e _)
theorem r1p (hf : Has O "newel/control.Same" x_control_Same) (hg : Has O "slices.Clone[[]int,int]" x_slices_Clone___int_int_) (d24 : c96 O) (c3e : c5g O) (r1r : r13 O) (c3f : c5h O) (d2w : c9y O) (d2x : c9z O) (d20 : c92 O) (r2d : r12 O) : r1z O := by
 intro a b assume r hm0
 unfold r02 at hm0
 refine b1i hf rfl (b0a (.agg _ (b0a (b0c fun a _ => b0z a) (b0a (b0c fun a _ => b0z a) (b0a (b0c fun a _ => b1q a) (b0a (b0c fun a _ => b1s a) (b0a (b0c fun a _ => b1r a) b0j)))))) (b0a (.agg _ (b0a (b0c fun a _ => b0z a) (b0a (b0c fun a _ => b0z a) (b0a (b0c fun a _ => b1q a) (b0a (b0c fun a _ => b1s a) (b0a (b0c fun a _ => b1r a) b0j)))))) (b0a (b0c fun a _ => b2j a) b0j))) (.tup _ (b0a (b0c fun a _ => b1t a) (b0a (b0e _) (b0a (b0e _) b0j)))) ?_
 refine b1c (fun t h => t 0 = .agg [.fs 1 (List.map eS a.Inputs), .fs 1 (List.map eS a.Outputs), .fs 2 (List.map b0o a.Counters), .fs 2 (List.map b0p a.States), .fs 4 (List.map b0m a.Rules)] /\ t 1 = .agg [.fs 1 (List.map eS b.Inputs), .fs 1 (List.map eS b.Outputs), .fs 2 (List.map b0o b.Counters), .fs 2 (List.map b0p b.States), .fs 4 (List.map b0m b.Rules)] /\ t 2 = .fs 1 (List.map b0t assume)) ⟨rfl, rfl, rfl⟩ fun t h ⟨s0, s1, s2⟩ => ?_
 simp only [x_control_Same]
 refine b0b fun K hK => ?_
 simp only [go_sem, s0, s1]
 refine hK _ _ ?_
 clear hK K
 refine b0v ?_
 obtain ⟨y2, h_y2, hm0⟩ := b0g hm0
 refine b0b fun K hK => ?_
 simp only [go_sem]
 refine b01 (d24 a _ h_y2) ?_
 simp only [go_sem]
 refine hK _ _ ?_
 clear hK K
 refine b0v ?_
 refine b0b fun K hK => ?_
 simp only [go_sem]
 refine hK _ _ ?_
 clear hK K
 refine b0i fun K3 hK3 => ?_
 simp only [go_sem]
 refine b0k (fun hc4 => ?_) (fun hc4 => ?_)
 ·rw [b0r hc4] at hm0
  refine b0b fun K hK => ?_
  simp only [go_sem]
  refine hK _ _ ?_
  clear hK K
  simp only [b0x, b1p, b0y]
  obtain rfl := Option.some.inj hm0
  exact c2l (v := .v (.slice none 0 0)) (u := B false) (x := I y2) (by simp only [go_sem]) (by simp only [go_sem]) (by simp only [go_sem]) (.nil _) (.refl _ (b0e _)) (.refl _ (b0e _))
 ·rw [b0q hc4] at hm0
  simp only [b0s, b0f]
  refine hK3 _ _ ?_
  refine b0v ?_
  obtain ⟨y6, h_y6, hm0⟩ := b0g hm0
  refine b0b fun K hK => ?_
  simp only [go_sem]
  refine b01 (d24 b _ h_y6) ?_
  simp only [go_sem]
  refine hK _ _ ?_
  clear hK K
  refine b0v ?_
  refine b0b fun K hK => ?_
  simp only [go_sem]
  refine hK _ _ ?_
  clear hK K
  refine b0i fun K7 hK7 => ?_
  simp only [go_sem]
  refine b0k (fun hc8 => ?_) (fun hc8 => ?_)
  ·rw [b0r hc8] at hm0
   refine b0b fun K hK => ?_
   simp only [go_sem]
   refine hK _ _ ?_
   clear hK K
   simp only [b0x, b1p, b0y]
   obtain rfl := Option.some.inj hm0
   exact c2l (v := .v (.slice none 0 0)) (u := B false) (x := I y6) (by simp only [go_sem]) (by simp only [go_sem]) (by simp only [go_sem]) (.nil _) (.refl _ (b0e _)) (.refl _ (b0e _))
  ·rw [b0q hc8] at hm0
   simp only [b0s, b0f]
   refine hK7 _ _ ?_
   refine b0v ?_
   obtain ⟨y10, h_y10, hm0⟩ := b0g hm0
   refine b0b fun K hK => ?_
   simp only [go_sem, s2]
   refine b8l ?_ (c3e a ([assume]) _ h_y10) (.v _) ?_
   ·exact .cons (.refl _ (.agg _ (b0a (b0c fun a _ => b0z a) (b0a (b0c fun a _ => b0z a) (b0a (b0c fun a _ => b1q a) (b0a (b0c fun a _ => b1s a) (b0a (b0c fun a _ => b1r a) b0j))))))) (.cons (b29 (f := b4v) (l := ([assume])) (id := h.nx) (by simp only [go_sem]) (by first | rfl | simp only [go_sem, List.length_append, List.map_append]) b97 c7o) (.nil))
   simp only [go_sem]
   refine hK _ _ ?_
   clear hK K
   refine b0v ?_
   refine b0b fun K hK => ?_
   simp only [go_sem]
   refine hK _ _ ?_
   clear hK K
   refine b0i fun K11 hK11 => ?_
   simp only [go_sem]
   refine b0k (fun hc12 => ?_) (fun hc12 => ?_)
   ·rw [b0r hc12] at hm0
    refine b0b fun K hK => ?_
    simp only [go_sem]
    refine hK _ _ ?_
    clear hK K
    simp only [b0x, b1p, b0y]
    obtain rfl := Option.some.inj hm0
    exact c2l (v := .v (.slice none 0 0)) (u := B false) (x := I y10) (by simp only [go_sem]) (by simp only [go_sem]) (by simp only [go_sem]) (.nil _) (.refl _ (b0e _)) (.refl _ (b0e _))
   ·rw [b0q hc12] at hm0
    simp only [b0s, b0f]
    refine hK11 _ _ ?_
    refine b0v ?_
    obtain ⟨y16, h_y16, hm0⟩ := b0g hm0
    obtain ⟨c18, h_c18, hm0⟩ := b0g hm0
    refine b2p (fun t h => t 2 = .fs 1 (List.map b0t assume) /\ t 3 = .fp [.fs 1 (List.map eS a.Inputs), .fs 1 (List.map eS a.Outputs), .fs 2 (List.map b0o a.Counters), .fs 2 (List.map b0p a.States), .fs 4 (List.map b0m a.Rules)] 0 /\ t 4 = .fp [.fs 1 (List.map eS b.Inputs), .fs 1 (List.map eS b.Outputs), .fs 2 (List.map b0o b.Counters), .fs 2 (List.map b0p b.States), .fs 4 (List.map b0m b.Rules)] 0 /\ t 50 = B c18) (fun K hK => ?_) ?_
    ·simp only [go_sem]
     refine b01 (r1r a.Inputs b.Inputs _ h_y16) ?_
     simp only [go_sem]
     refine b0k (fun hg19 => ?_) (fun hg19 => ?_)
     ·simp only [hg19, eq_self, if_true] at h_c18
      obtain rfl := Option.some.inj h_c18
      simp only [go_sem, hg19]
      exact hK _ _ ⟨s2, (by first | (simp only [go_sem]; done) | rfl), (by first | (simp only [go_sem]; done) | rfl), (by first | (simp only [go_sem]; done) | rfl)⟩
     ·simp only [hg19, if_false, fT9] at h_c18
      obtain ⟨y17, h_y17, h_c18⟩ := b0g h_c18
      obtain rfl := Option.some.inj h_c18
      simp only [go_sem, hg19]
      refine b01 (r1r a.Outputs b.Outputs _ h_y17) ?_
      simp only [go_sem, hg19]
      exact hK _ _ ⟨s2, (by first | (simp only [go_sem]; done) | rfl), (by first | (simp only [go_sem]; done) | rfl), (by first | (simp only [go_sem]; done) | rfl)⟩
    ·rintro t h ⟨s2, s3, s4, s50⟩
     refine b0i fun K20 hK20 => ?_
     simp only [go_sem, s50]
     refine b0k (fun hc21 => ?_) (fun hc21 => ?_)
     ·rw [b0r hc21] at hm0
      refine b0b fun K hK => ?_
      simp only [go_sem]
      refine hK _ _ ?_
      clear hK K
      simp only [b0x, b1p, b0y]
      obtain rfl := Option.some.inj hm0
      exact c2l (v := .v (.slice none 0 0)) (u := B false) (x := I 1) (by simp only [go_sem]) (by simp only [go_sem]) (by simp only [go_sem]) (.nil _) (.refl _ (b0e _)) (.refl _ (b0e _))
     ·rw [b0q hc21] at hm0
      simp only [b0s, b0f]
      refine hK20 _ _ ?_
      refine b0b fun K hK => ?_
      simp only [go_sem, s3]
      refine b01 (c3f a) ?_
      simp only [go_sem, s4]
      refine b01 (c3f b) ?_
      simp only [go_sem]
      refine hK _ _ ?_
      clear hK K
      refine b0v ?_
      refine b0b fun K hK => ?_
      simp only [go_sem]
      refine hK _ _ ?_
      clear hK K
      refine g9k (id := (nxs (nxs h.nx))) (sz := 1) (f := c84) (l := ([])) (a := ([] : List Int)) (raw := [.v (.slice none 0 0)]) (fun j => false) (by simp only [go_sem]) (by simp) (.cons (.refl _ (b0e _)) (.nil)) r18 r2f ?_
      refine b0b fun K hK => ?_
      simp only [go_sem]
      refine hK _ _ ?_
      clear hK K
      refine b0b fun K hK => ?_
      simp only [go_sem]
      refine g0d (O := O) (e := List.map (eM (vks l13) vI) ([] : List (control_pair × Int))) rfl ?_
      simp only [go_sem, not_false_eq_true]
      refine d2i (O := O) (fk := (vks l13)) (fv := vI) (l := ([] : List (control_pair × Int))) (x := (control_pair.mk (Place.mk 0 (0, 0)) (Place.mk 0 (0, 0)))) (v := 0) g1t r2e ?_ ?_ ?_
      ·rfl
      ·simp only [go_sem]
      simp only [go_sem, not_false_eq_true]
      refine hK _ _ ?_
      clear hK K
      refine b0v ?_
      refine b0b fun K hK => ?_
      simp only [go_sem]
      refine hK _ _ ?_
      clear hK K
      refine b0i fun K22 hK22 => ?_
      have J23 : ∀ (t : Slots) (h : Heap), r1m = some r -> K22 t h := by
       intro t h hm0
       refine hK22 _ _ ?_
       unfold r1m at hm0
       refine b0b fun K hK => ?_
       simp only [go_sem]
       refine hK _ _ ?_
       clear hK K
       simp only [b0x, b0y]
       obtain rfl := Option.some.inj hm0
       exact c2l (v := .v (.slice none 0 0)) (u := B true) (x := I 0) (by simp only [go_sem]) (by simp only [go_sem]) (by simp only [go_sem]) (.nil _) (.refl _ (b0e _)) (.refl _ (b0e _))
      simp only [b0u]
      obtain ⟨b24, hl24, hm0⟩ := b0g hm0
      refine b1j hl24 (fun | (runs_11, pairs_12, found_13, at_14), t, h => ∃ i9 : Nat, ∃ i10 : Nat, ∃ i11 : Nat, ∃ i12 : Nat, ∃ i13 : Nat, t 2 = .fs 1 (List.map b0t assume) /\ t 3 = .fp [.fs 1 (List.map eS a.Inputs), .fs 1 (List.map eS a.Outputs), .fs 2 (List.map b0o a.Counters), .fs 2 (List.map b0p a.States), .fs 4 (List.map b0m a.Rules)] 0 /\ t 4 = .fp [.fs 1 (List.map eS b.Inputs), .fs 1 (List.map eS b.Outputs), .fs 2 (List.map b0o b.Counters), .fs 2 (List.map b0p b.States), .fs 4 (List.map b0m b.Rules)] 0 /\ t 9 = .rp i9 0 0 /\ t 10 = .rp i10 0 0 /\ t 11 = .rs i11 0 (List.length runs_11) /\ t 12 = .rs i12 0 (List.length pairs_12) /\ t 13 = .mp i13 /\ t 14 = I at_14 /\ h.ob i9 = some (5, [[.fs 1 (List.map eS ((((b3h a).Plant).Machine).Inputs)), .fs 1 (List.map eS ((((b3h a).Plant).Machine).Outputs)), .fs 2 (List.map b0o ((((b3h a).Plant).Machine).Counters)), .fs 2 (List.map b0p ((((b3h a).Plant).Machine).States)), .fs 4 (List.map b0m ((((b3h a).Plant).Machine).Rules))]]) /\ i9 < h.nx /\ h.ob i10 = some (5, [[.fs 1 (List.map eS ((((b3h b).Plant).Machine).Inputs)), .fs 1 (List.map eS ((((b3h b).Plant).Machine).Outputs)), .fs 2 (List.map b0o ((((b3h b).Plant).Machine).Counters)), .fs 2 (List.map b0p ((((b3h b).Plant).Machine).States)), .fs 4 (List.map b0m ((((b3h b).Plant).Machine).Rules))]]) /\ i10 < h.nx /\ h.ob i11 = some (1, List.map c84 runs_11) /\ i11 < h.nx /\ h.ob i12 = some (6, List.map d7o pairs_12) /\ i12 < h.nx /\ h.ob i13 = some (0, List.map (eM (vks l13) vI) found_13) /\ i13 < h.nx /\ ¬i9 = i10 /\ ¬i9 = i11 /\ ¬i9 = i12 /\ ¬i9 = i13 /\ ¬i10 = i11 /\ ¬i10 = i12 /\ ¬i10 = i13 /\ ¬i11 = i12 /\ ¬i11 = i13 /\ ¬i12 = i13) ?_ ?_
      ·exact ⟨h.nx, (nxs h.nx), (nxs (nxs h.nx)), (nxs (nxs (nxs h.nx))), (nxs (nxs (nxs (nxs h.nx)))), s2, s3, s4, (by first | (simp only [go_sem]; done) | rfl), (by first | (simp only [go_sem]; done) | rfl), (by first | (simp only [go_sem]; done) | rfl), (by first | (simp only [go_sem]; done) | rfl), (by first | (simp only [go_sem]; done) | rfl), (by first | (simp only [go_sem]; done) | rfl), (by simp only [go_sem, not_false_eq_true]), (by simp only [go_sem]), (by simp only [go_sem, not_false_eq_true]), (by simp only [go_sem]), (by simp only [go_sem, not_false_eq_true]), (by simp only [go_sem]), (by simp only [go_sem, not_false_eq_true]), (by simp only [go_sem]), (by simp only [go_sem]), (by simp only [go_sem]), (by first | first | assumption | omega | (simp only [nxs] <;> omega)), (by first | first | assumption | omega | (simp only [nxs] <;> omega)), (by first | first | assumption | omega | (simp only [nxs] <;> omega)), (by first | first | assumption | omega | (simp only [nxs] <;> omega)), (by first | first | assumption | omega | (simp only [nxs] <;> omega)), (by first | first | assumption | omega | (simp only [nxs] <;> omega)), (by first | first | assumption | omega | (simp only [nxs] <;> omega)), (by first | first | assumption | omega | (simp only [nxs] <;> omega)), (by first | first | assumption | omega | (simp only [nxs] <;> omega)), (by first | first | assumption | omega | (simp only [nxs] <;> omega))⟩
      ·rintro ⟨runs_11, pairs_12, found_13, at_14⟩ o t h ⟨i9, i10, i11, i12, i13, s2, s3, s4, s9, s10, s11, s12, s13, s14, ob_o9, lt_o9, ob_o10, lt_o10, ob_o11, lt_o11, ob_o12, lt_o12, ob_o13, lt_o13, ne_o9_o10, ne_o9_o11, ne_o9_o12, ne_o9_o13, ne_o10_o11, ne_o10_o12, ne_o10_o13, ne_o11_o12, ne_o11_o13, ne_o12_o13⟩ hm1 hb24
       simp only [l42] at hm1
       rw [r3e]
       refine b0v ?_
       refine b0b fun K hK => ?_
       simp only [go_sem, s12, s14]
       refine hK _ _ ?_
       clear hK K
       refine b0i fun K25 hK25 => ?_
       simp only [go_sem]
       refine b0k (fun hc26 => ?_) (fun hc26 => ?_)
       ·rw [b0r hc26] at hm1
        simp only [b0s, b0f]
        refine hK25 _ _ ?_
        refine b0i fun K27 hK27 => ?_
        have J28 : ∀ (runs_11_1 : List (List Int)) (pairs_12_1 : List control_pair) (found_13_1 : List (control_pair × Int)) (i11_1 : Nat) (i12_1 : Nat) (t : Slots) (h : Heap), t 2 = .fs 1 (List.map b0t assume) -> t 3 = .fp [.fs 1 (List.map eS a.Inputs), .fs 1 (List.map eS a.Outputs), .fs 2 (List.map b0o a.Counters), .fs 2 (List.map b0p a.States), .fs 4 (List.map b0m a.Rules)] 0 -> t 4 = .fp [.fs 1 (List.map eS b.Inputs), .fs 1 (List.map eS b.Outputs), .fs 2 (List.map b0o b.Counters), .fs 2 (List.map b0p b.States), .fs 4 (List.map b0m b.Rules)] 0 -> t 9 = .rp i9 0 0 -> t 10 = .rp i10 0 0 -> t 11 = .rs i11_1 0 (List.length runs_11_1) -> t 12 = .rs i12_1 0 (List.length pairs_12_1) -> t 13 = .mp i13 -> t 14 = I at_14 -> h.ob i9 = some (5, [[.fs 1 (List.map eS ((((b3h a).Plant).Machine).Inputs)), .fs 1 (List.map eS ((((b3h a).Plant).Machine).Outputs)), .fs 2 (List.map b0o ((((b3h a).Plant).Machine).Counters)), .fs 2 (List.map b0p ((((b3h a).Plant).Machine).States)), .fs 4 (List.map b0m ((((b3h a).Plant).Machine).Rules))]]) -> i9 < h.nx -> h.ob i10 = some (5, [[.fs 1 (List.map eS ((((b3h b).Plant).Machine).Inputs)), .fs 1 (List.map eS ((((b3h b).Plant).Machine).Outputs)), .fs 2 (List.map b0o ((((b3h b).Plant).Machine).Counters)), .fs 2 (List.map b0p ((((b3h b).Plant).Machine).States)), .fs 4 (List.map b0m ((((b3h b).Plant).Machine).Rules))]]) -> i10 < h.nx -> h.ob i11_1 = some (1, List.map c84 runs_11_1) -> i11_1 < h.nx -> h.ob i12_1 = some (6, List.map d7o pairs_12_1) -> i12_1 < h.nx -> h.ob i13 = some (0, List.map (eM (vks l13) vI) found_13_1) -> i13 < h.nx -> ¬i9 = i10 -> ¬i9 = i11_1 -> ¬i9 = i12_1 -> ¬i9 = i13 -> ¬i10 = i11_1 -> ¬i10 = i12_1 -> ¬i10 = i13 -> ¬i11_1 = i12_1 -> ¬i11_1 = i13 -> ¬i12_1 = i13 -> r1n at_14 runs_11_1 pairs_12_1 found_13_1 = some o -> K27 t h := by
         try clear s2 s3 s4 s9 s10 s11 s12 s13 s14 ob_o9 lt_o9 ob_o10 lt_o10 ob_o11 lt_o11 ob_o12 lt_o12 ob_o13 lt_o13 ne_o9_o10 ne_o9_o11 ne_o9_o12 ne_o9_o13 ne_o10_o11 ne_o10_o12 ne_o10_o13 ne_o11_o12 ne_o11_o13 ne_o12_o13
         intro runs_11_1 pairs_12_1 found_13_1 i11_1 i12_1 t h s2 s3 s4 s9 s10 s11 s12 s13 s14 ob_o9 lt_o9 ob_o10 lt_o10 ob_o11 lt_o11 ob_o12 lt_o12 ob_o13 lt_o13 ne_o9_o10 ne_o9_o11 ne_o9_o12 ne_o9_o13 ne_o10_o11 ne_o10_o12 ne_o10_o13 ne_o11_o12 ne_o11_o13 ne_o12_o13 hm1
         refine hK27 _ _ ?_
         unfold r1n at hm1
         refine b03 fun K hK => ?_
         simp only [go_sem, s14]
         refine hK _ _ ?_
         clear hK K
         simp only [b0f]
         obtain rfl := Option.some.inj hm1
         refine ⟨_, rfl, ?_⟩
         exact ⟨i9, i10, i11_1, i12_1, i13, s2, s3, s4, s9, s10, (by first | exact s11 | simp only [go_sem, s11, List.length_append, List.map_append]), (by first | exact s12 | simp only [go_sem, s12, List.length_append, List.map_append]), s13, (by first | (simp only [go_sem]; done) | rfl), ob_o9, lt_o9, ob_o10, lt_o10, ob_o11, lt_o11, ob_o12, lt_o12, ob_o13, lt_o13, ne_o9_o10, ne_o9_o11, ne_o9_o12, ne_o9_o13, ne_o10_o11, ne_o10_o12, ne_o10_o13, ne_o11_o12, ne_o11_o13, ne_o12_o13⟩
        simp only [b0u]
        obtain ⟨x30, h_x30, hm1⟩ := b0g hm1
        have h_x300 := b05 h_x30
        have h_x301 := b06 h_x30
        refine b0b fun K hK => ?_
        simp only [go_sem, s12, s14, ob_o12, b3n h_x30, h_x300, h_x301]
        refine hK _ _ ?_
        clear hK K
        refine b0v ?_
        obtain ⟨x33, h_x33, hm1⟩ := b0g hm1
        have h_x330 := b05 h_x33
        have h_x331 := b06 h_x33
        obtain ⟨x34, h_x34, hm1⟩ := b0g hm1
        have h_x340 := b05 h_x34
        have h_x341 := b06 h_x34
        refine b0b fun K hK => ?_
        simp only [go_sem, s3, s4, b08 h_x33, b08 h_x34]
        refine hK _ _ ?_
        clear hK K
        refine b0i fun K35 hK35 => ?_
        simp only [go_sem]
        refine b0k (fun hc36 => ?_) (fun hc36 => ?_)
        ·rw [b0r hc36] at hm1
         obtain ⟨x38, h_x38, hm1⟩ := b0g hm1
         have h_x380 := b05 h_x38
         have h_x381 := b06 h_x38
         refine b0b fun K hK => ?_
         simp only [go_sem, s11, s14, ob_o11, lt_o11, b3n h_x38, h_x380, h_x381]
         refine hK _ _ ?_
         clear hK K
         simp only [b0x, b1p, b2e, b0y]
         obtain rfl := Option.some.inj hm1
         obtain rfl := hb24 _ rfl
         try dsimp only at hm0
         obtain rfl := Option.some.inj hm0
         exact c2l (by simp only [go_sem]) (by simp only [go_sem]) (by simp only [go_sem]) (r3z x38) (.refl _ (b0e _)) (.refl _ (b0e _))
        ·rw [b0q hc36] at hm1
         simp only [b0s, b0f]
         refine hK35 _ _ ?_
         obtain ⟨y40, h_y40, hm1⟩ := b0g hm1
         refine b0b fun K hK => ?_
         simp only [go_sem, s9, ob_o9, lt_o9]
         refine b01 (d2w (situation_Plant.mk (((b3h a).Plant).Machine)) _ h_y40) ?_
         simp only [go_sem]
         refine hK _ _ ?_
         clear hK K
         simp only [b0u]
         obtain ⟨b41, hl41, hm1⟩ := b0g hm1
         refine b1j hl41 (fun | (runs_11_1, pairs_12_1, found_13_1, x_95), t, h => ∃ i11_1 : Nat, ∃ i12_1 : Nat, ∃ i15 : Nat, t 2 = .fs 1 (List.map b0t assume) /\ t 3 = .fp [.fs 1 (List.map eS a.Inputs), .fs 1 (List.map eS a.Outputs), .fs 2 (List.map b0o a.Counters), .fs 2 (List.map b0p a.States), .fs 4 (List.map b0m a.Rules)] 0 /\ t 4 = .fp [.fs 1 (List.map eS b.Inputs), .fs 1 (List.map eS b.Outputs), .fs 2 (List.map b0o b.Counters), .fs 2 (List.map b0p b.States), .fs 4 (List.map b0m b.Rules)] 0 /\ t 9 = .rp i9 0 0 /\ t 10 = .rp i10 0 0 /\ t 11 = .rs i11_1 0 (List.length runs_11_1) /\ t 12 = .rs i12_1 0 (List.length pairs_12_1) /\ t 13 = .mp i13 /\ t 14 = I at_14 /\ t 15 = .rp i15 0 0 /\ t 94 = I y40 /\ t 95 = I x_95 /\ h.ob i9 = some (5, [[.fs 1 (List.map eS ((((b3h a).Plant).Machine).Inputs)), .fs 1 (List.map eS ((((b3h a).Plant).Machine).Outputs)), .fs 2 (List.map b0o ((((b3h a).Plant).Machine).Counters)), .fs 2 (List.map b0p ((((b3h a).Plant).Machine).States)), .fs 4 (List.map b0m ((((b3h a).Plant).Machine).Rules))]]) /\ i9 < h.nx /\ h.ob i10 = some (5, [[.fs 1 (List.map eS ((((b3h b).Plant).Machine).Inputs)), .fs 1 (List.map eS ((((b3h b).Plant).Machine).Outputs)), .fs 2 (List.map b0o ((((b3h b).Plant).Machine).Counters)), .fs 2 (List.map b0p ((((b3h b).Plant).Machine).States)), .fs 4 (List.map b0m ((((b3h b).Plant).Machine).Rules))]]) /\ i10 < h.nx /\ h.ob i11_1 = some (1, List.map c84 runs_11_1) /\ i11_1 < h.nx /\ h.ob i12_1 = some (6, List.map d7o pairs_12_1) /\ i12_1 < h.nx /\ h.ob i13 = some (0, List.map (eM (vks l13) vI) found_13_1) /\ i13 < h.nx /\ h.ob i15 = some (6, [[I x30.a.State, I x30.a.Values.1, I x30.a.Values.2, I x30.b.State, I x30.b.Values.1, I x30.b.Values.2]]) /\ i15 < h.nx /\ ¬i9 = i10 /\ ¬i9 = i11_1 /\ ¬i9 = i12_1 /\ ¬i9 = i13 /\ ¬i9 = i15 /\ ¬i10 = i11_1 /\ ¬i10 = i12_1 /\ ¬i10 = i13 /\ ¬i10 = i15 /\ ¬i11_1 = i12_1 /\ ¬i11_1 = i13 /\ ¬i11_1 = i15 /\ ¬i12_1 = i13 /\ ¬i12_1 = i15 /\ ¬i13 = i15) ?_ ?_
         ·exact ⟨i11, i12, h.nx, s2, s3, s4, s9, s10, (by first | exact s11 | simp only [go_sem, s11, List.length_append, List.map_append]), (by first | exact s12 | simp only [go_sem, s12, List.length_append, List.map_append]), s13, s14, (by first | (simp only [go_sem]; done) | rfl), (by first | (simp only [go_sem]; done) | rfl), (by first | (simp only [go_sem]; done) | rfl), (by simp only [go_sem, ob_o9, lt_o9]), (by simp only [go_sem, lt_o9]), (by simp only [go_sem, ob_o10, lt_o10]), (by simp only [go_sem, lt_o10]), (by simp only [go_sem, ob_o11, lt_o11]), (by simp only [go_sem, lt_o11]), (by simp only [go_sem, ob_o12, lt_o12]), (by simp only [go_sem, lt_o12]), (by simp only [go_sem, ob_o13, lt_o13]), (by simp only [go_sem, lt_o13]), (by simp only [go_sem]), (by simp only [go_sem]), ne_o9_o10, ne_o9_o11, ne_o9_o12, ne_o9_o13, (by first | first | assumption | omega | (simp only [nxs] <;> omega)), ne_o10_o11, ne_o10_o12, ne_o10_o13, (by first | first | assumption | omega | (simp only [nxs] <;> omega)), ne_o11_o12, ne_o11_o13, (by first | first | assumption | omega | (simp only [nxs] <;> omega)), ne_o12_o13, (by first | first | assumption | omega | (simp only [nxs] <;> omega)), (by first | first | assumption | omega | (simp only [nxs] <;> omega))⟩
         ·try clear s2 s3 s4 s9 s10 s11 s12 s13 s14 ob_o9 lt_o9 ob_o10 lt_o10 ob_o11 lt_o11 ob_o12 lt_o12 ob_o13 lt_o13 ne_o9_o10 ne_o9_o11 ne_o9_o12 ne_o9_o13 ne_o10_o11 ne_o10_o12 ne_o10_o13 ne_o11_o12 ne_o11_o13 ne_o12_o13
          rintro ⟨runs_11_1, pairs_12_1, found_13_1, x_95⟩ o t h ⟨i11_1, i12_1, i15, s2, s3, s4, s9, s10, s11, s12, s13, s14, s15, s94, s95, ob_o9, lt_o9, ob_o10, lt_o10, ob_o11, lt_o11, ob_o12, lt_o12, ob_o13, lt_o13, ob_o15, lt_o15, ne_o9_o10, ne_o9_o11, ne_o9_o12, ne_o9_o13, ne_o9_o15, ne_o10_o11, ne_o10_o12, ne_o10_o13, ne_o10_o15, ne_o11_o12, ne_o11_o13, ne_o11_o15, ne_o12_o13, ne_o12_o15, ne_o13_o15⟩ hm2 hb41
          simp only [r03] at hm2
          rw [r3d]
          refine b0b fun K hK => ?_
          simp only [go_sem, s94, s95]
          refine hK _ _ ?_
          clear hK K
          refine b0i fun K42 hK42 => ?_
          simp only [go_sem]
          refine b0k (fun hc43 => ?_) (fun hc43 => ?_)
          ·rw [b0r hc43] at hm2
           simp only [b0s, b0f]
           refine hK42 _ _ ?_
           refine b0i fun K44 hK44 => ?_
           have J45 : ∀ (runs_11_2 : List (List Int)) (pairs_12_2 : List control_pair) (found_13_2 : List (control_pair × Int)) (i11_2 : Nat) (i12_2 : Nat) (t : Slots) (h : Heap), t 2 = .fs 1 (List.map b0t assume) -> t 3 = .fp [.fs 1 (List.map eS a.Inputs), .fs 1 (List.map eS a.Outputs), .fs 2 (List.map b0o a.Counters), .fs 2 (List.map b0p a.States), .fs 4 (List.map b0m a.Rules)] 0 -> t 4 = .fp [.fs 1 (List.map eS b.Inputs), .fs 1 (List.map eS b.Outputs), .fs 2 (List.map b0o b.Counters), .fs 2 (List.map b0p b.States), .fs 4 (List.map b0m b.Rules)] 0 -> t 9 = .rp i9 0 0 -> t 10 = .rp i10 0 0 -> t 11 = .rs i11_2 0 (List.length runs_11_2) -> t 12 = .rs i12_2 0 (List.length pairs_12_2) -> t 13 = .mp i13 -> t 14 = I at_14 -> t 15 = .rp i15 0 0 -> t 94 = I y40 -> t 95 = I x_95 -> h.ob i9 = some (5, [[.fs 1 (List.map eS ((((b3h a).Plant).Machine).Inputs)), .fs 1 (List.map eS ((((b3h a).Plant).Machine).Outputs)), .fs 2 (List.map b0o ((((b3h a).Plant).Machine).Counters)), .fs 2 (List.map b0p ((((b3h a).Plant).Machine).States)), .fs 4 (List.map b0m ((((b3h a).Plant).Machine).Rules))]]) -> i9 < h.nx -> h.ob i10 = some (5, [[.fs 1 (List.map eS ((((b3h b).Plant).Machine).Inputs)), .fs 1 (List.map eS ((((b3h b).Plant).Machine).Outputs)), .fs 2 (List.map b0o ((((b3h b).Plant).Machine).Counters)), .fs 2 (List.map b0p ((((b3h b).Plant).Machine).States)), .fs 4 (List.map b0m ((((b3h b).Plant).Machine).Rules))]]) -> i10 < h.nx -> h.ob i11_2 = some (1, List.map c84 runs_11_2) -> i11_2 < h.nx -> h.ob i12_2 = some (6, List.map d7o pairs_12_2) -> i12_2 < h.nx -> h.ob i13 = some (0, List.map (eM (vks l13) vI) found_13_2) -> i13 < h.nx -> h.ob i15 = some (6, [[I x30.a.State, I x30.a.Values.1, I x30.a.Values.2, I x30.b.State, I x30.b.Values.1, I x30.b.Values.2]]) -> i15 < h.nx -> ¬i9 = i10 -> ¬i9 = i11_2 -> ¬i9 = i12_2 -> ¬i9 = i13 -> ¬i9 = i15 -> ¬i10 = i11_2 -> ¬i10 = i12_2 -> ¬i10 = i13 -> ¬i10 = i15 -> ¬i11_2 = i12_2 -> ¬i11_2 = i13 -> ¬i11_2 = i15 -> ¬i12_2 = i13 -> ¬i12_2 = i15 -> ¬i13 = i15 -> r04 x_95 runs_11_2 pairs_12_2 found_13_2 = some o -> K44 t h := by
            try clear s2 s3 s4 s9 s10 s11 s12 s13 s14 s15 s94 s95 ob_o9 lt_o9 ob_o10 lt_o10 ob_o11 lt_o11 ob_o12 lt_o12 ob_o13 lt_o13 ob_o15 lt_o15 ne_o9_o10 ne_o9_o11 ne_o9_o12 ne_o9_o13 ne_o9_o15 ne_o10_o11 ne_o10_o12 ne_o10_o13 ne_o10_o15 ne_o11_o12 ne_o11_o13 ne_o11_o15 ne_o12_o13 ne_o12_o15 ne_o13_o15
            intro runs_11_2 pairs_12_2 found_13_2 i11_2 i12_2 t h s2 s3 s4 s9 s10 s11 s12 s13 s14 s15 s94 s95 ob_o9 lt_o9 ob_o10 lt_o10 ob_o11 lt_o11 ob_o12 lt_o12 ob_o13 lt_o13 ob_o15 lt_o15 ne_o9_o10 ne_o9_o11 ne_o9_o12 ne_o9_o13 ne_o9_o15 ne_o10_o11 ne_o10_o12 ne_o10_o13 ne_o10_o15 ne_o11_o12 ne_o11_o13 ne_o11_o15 ne_o12_o13 ne_o12_o15 ne_o13_o15 hm2
            refine hK44 _ _ ?_
            unfold r04 at hm2
            refine b03 fun K hK => ?_
            simp only [go_sem, s95]
            refine hK _ _ ?_
            clear hK K
            simp only [b0f]
            obtain rfl := Option.some.inj hm2
            refine ⟨_, rfl, ?_⟩
            exact ⟨i11_2, i12_2, i15, s2, s3, s4, s9, s10, (by first | exact s11 | simp only [go_sem, s11, List.length_append, List.map_append]), (by first | exact s12 | simp only [go_sem, s12, List.length_append, List.map_append]), s13, s14, s15, s94, (by first | (simp only [go_sem]; done) | rfl), ob_o9, lt_o9, ob_o10, lt_o10, ob_o11, lt_o11, ob_o12, lt_o12, ob_o13, lt_o13, ob_o15, lt_o15, ne_o9_o10, ne_o9_o11, ne_o9_o12, ne_o9_o13, ne_o9_o15, ne_o10_o11, ne_o10_o12, ne_o10_o13, ne_o10_o15, ne_o11_o12, ne_o11_o13, ne_o11_o15, ne_o12_o13, ne_o12_o15, ne_o13_o15⟩
           simp only [b0u]
           refine b0b fun K hK => ?_
           simp only [go_sem, s95]
           refine hK _ _ ?_
           clear hK K
           refine b0v ?_
           obtain ⟨y47, h_y47, hm2⟩ := b0g hm2
           refine b0b fun K hK => ?_
           simp only [go_sem, s2, s9, s15, ob_o9, ob_o15]
           refine b01 (d2x (situation_Plant.mk (((b3h a).Plant).Machine)) assume (Place.mk x30.a.State (x30.a.Values.1, x30.a.Values.2)) x_95 _ h_y47) ?_
           simp only [go_sem]
           refine hK _ _ ?_
           clear hK K
           refine b0i fun K48 hK48 => ?_
           simp only [go_sem]
           refine b0k (fun hc49 => ?_) (fun hc49 => ?_)
           ·rw [b0r hc49] at hm2
            simp only [b09, b1b, b1a, b0f]
            exact J45 runs_11_1 pairs_12_1 found_13_1 i11_1 i12_1 _ _ s2 s3 s4 s9 s10 (by first | exact s11 | simp only [go_sem, s11, List.length_append, List.map_append]) (by first | exact s12 | simp only [go_sem, s12, List.length_append, List.map_append]) s13 s14 s15 s94 s95 ob_o9 lt_o9 ob_o10 lt_o10 ob_o11 lt_o11 ob_o12 lt_o12 ob_o13 lt_o13 ob_o15 lt_o15 ne_o9_o10 ne_o9_o11 ne_o9_o12 ne_o9_o13 ne_o9_o15 ne_o10_o11 ne_o10_o12 ne_o10_o13 ne_o10_o15 ne_o11_o12 ne_o11_o13 ne_o11_o15 ne_o12_o13 ne_o12_o15 ne_o13_o15 hm2
           ·rw [b0q hc49] at hm2
            simp only [b0s, b0f]
            refine hK48 _ _ ?_
            obtain ⟨y52, h_y52, hm2⟩ := b0g hm2
            obtain ⟨y53, h_y53, hm2⟩ := b0g hm2
            refine b0b fun K hK => ?_
            simp only [go_sem, s9, s15, ob_o9, ob_o15]
            refine b01 (d20 (situation_Plant.mk (((b3h a).Plant).Machine)) (Place.mk x30.a.State (x30.a.Values.1, x30.a.Values.2)) x_95 _ h_y52) ?_
            simp only [go_sem, s10, s15, ob_o10, ob_o15]
            refine b01 (d20 (situation_Plant.mk (((b3h b).Plant).Machine)) (Place.mk x30.b.State (x30.b.Values.1, x30.b.Values.2)) x_95 _ h_y53) ?_
            simp only [go_sem]
            refine hK _ _ ?_
            clear hK K
            refine b0b fun K hK => ?_
            simp only [go_sem, s13]
            refine j5x (O := O) (fk := (vks l13)) (fv := vI) (l := found_13_1) (x := (control_pair.mk (Place.mk y52.State (y52.Values.1, y52.Values.2)) (Place.mk y53.State (y53.Values.1, y53.Values.2)))) (z := 0) j8c r2e ?_ ?_ ?_
            ·rfl
            ·simp only [go_sem, ob_o13, lt_o13]
            simp only [go_sem]
            refine hK _ _ ?_
            clear hK K
            refine b0b fun K hK => ?_
            simp only [go_sem]
            refine hK _ _ ?_
            clear hK K
            simp only [go_sem]
            refine b0k (fun hc54 => ?_) (fun hc54 => ?_)
            ·rw [b0r hc54] at hm2
             refine b0b fun K hK => ?_
             simp only [go_sem, s12, s13]
             refine d2i (O := O) (fk := (vks l13)) (fv := vI) (l := found_13_1) (x := (control_pair.mk (Place.mk y52.State (y52.Values.1, y52.Values.2)) (Place.mk y53.State (y53.Values.1, y53.Values.2)))) (v := ((List.length pairs_12_1 : Nat) : Int)) g1t r2e ?_ ?_ ?_
             ·rfl
             ·simp only [go_sem, ob_o13, lt_o13]
             simp only [go_sem]
             refine hK _ _ ?_
             clear hK K
             obtain ⟨l56, h_l56, hm2⟩ := b0g hm2
             refine b0b fun K hK => ?_
             simp only [go_sem, s12, lt_o13]
             refine b3a (f := d7o) (l := pairs_12_1) (m := ([(control_pair.mk (Place.mk y52.State (y52.Values.1, y52.Values.2)) (Place.mk y53.State (y53.Values.1, y53.Values.2)))])) ?_ ?_ ?_ ?_ h_l56 ?_
             ·exact (b2v (by simp only [go_sem, ob_o12, lt_o12, ne_o12_o13]) (by simp only [go_sem]) (by simp only [go_sem, lt_o12]))
             ·exact (b4t (by simp only [go_sem]) (by simp only [go_sem]))
             ·exact (b4r (by first | exact b1w | exact b1y (by first | omega | (simp only [nxs] <;> omega)) | assumption | exact b1v (by assumption) (by first | omega | (simp only [go_sem, nxs] <;> omega))))
             ·exact (fun _ => by simp)
             simp only [go_sem]
             refine hK _ _ ?_
             clear hK K
             obtain ⟨x61, h_x61, hm2⟩ := b0g hm2
             have h_x610 := b05 h_x61
             have h_x611 := b06 h_x61
             obtain ⟨y62, h_y62, hm2⟩ := b0g hm2
             obtain ⟨l63, h_l63, hm2⟩ := b0g hm2
             obtain ⟨l64, h_l64, hm9⟩ := b0g hm2
             refine b0b fun K hK => ?_
             simp only [go_sem, s11, s14, ob_o11, lt_o11, ne_o11_o12, ne_o11_o13, b3n h_x61, h_x610, h_x611]
             rcases x61 with _ | ⟨a61, r61⟩
             ·simp only [nN]
              rw [<- Option.some.inj h_y62] at h_l63
              refine b01 (r38 hg) ?_
              simp only [go_sem]
              refine b3a (f := eI) (l := ([] : List Int)) (m := ([x_95])) ?_ ?_ ?_ ?_ h_l63 ?_
              ·exact .inl ⟨rfl, rfl⟩
              ·exact (b4t (by simp only [go_sem]) (by simp only [go_sem]))
              ·exact r4c
              ·exact (fun _ => by simp)
              simp only [go_sem]
              refine j3y (f := c84) (l := runs_11_1) (a := l63) (raw := [.rs (nxs (nxs (nxs (nxs h.nx)))) 0 (List.length l63)]) ?_ ?_ ?_ h_l64 ?_
              ·exact (b2v (by simp only [go_sem, ob_o11, lt_o11, ne_o11_o12, ne_o11_o13]) (by simp only [go_sem]) (by simp only [go_sem, lt_o11]))
              ·exact (by simp only [go_sem])
              ·exact (by first | exact b1w | exact b1y (by first | omega | (simp only [nxs] <;> omega)) | assumption | exact b1v (by assumption) (by first | omega | (simp only [go_sem, nxs] <;> omega)))
              simp only [go_sem]
              refine hK _ _ ?_
              clear hK K
              refine g9m ?_
              refine g9k (id := (nxs (nxs (nxs (nxs (nxs (nxs h.nx))))))) (sz := 1) (f := c84) (l := runs_11_1) (a := l63) (raw := [.rs (nxs (nxs (nxs (nxs h.nx)))) 0 (List.length l63)]) (fun j => j == (nxs (nxs (nxs (nxs h.nx))))) (by simp only [go_sem]) (by first | (simp; done) | (simp [nxs] <;> omega)) (.cons (by rw [r20 h_l63]; exact b29 (f := eI) (l := l63) (id := (nxs (nxs (nxs (nxs h.nx))))) (by rw [c3x (by simp)]; simp only [go_sem, lt_o11]) (by first | rfl | simp only [go_sem, List.length_append, List.map_append]) b1t b8p) (.nil)) r18 r2f ?_
              rw [<- (l43 h_l64).2]
              simp only [b0s, b02, b0f]
              exact J45 l64 l56 (b3w found_13_1 (control_pair.mk (Place.mk y52.State (y52.Values.1, y52.Values.2)) (Place.mk y53.State (y53.Values.1, y53.Values.2))) ((List.length pairs_12_1 : Nat) : Int)) (nxs (nxs (nxs (nxs (nxs (nxs h.nx)))))) (nxs (nxs h.nx)) _ _ s2 s3 s4 s9 s10 (by first | (simp only [go_sem]; done) | rfl) (by first | (simp only [go_sem]; done) | rfl) s13 s14 s15 s94 s95 (by simp only [go_sem, beq_eq_false_iff_ne, ne_eq, not_false_eq_true, ob_o9, lt_o9, ne_o9_o11, ne_o9_o12, ne_o9_o13]) (by simp only [go_sem, lt_o9]) (by simp only [go_sem, beq_eq_false_iff_ne, ne_eq, not_false_eq_true, ob_o10, lt_o10, ne_o10_o11, ne_o10_o12, ne_o10_o13]) (by simp only [go_sem, lt_o10]) (by simp only [go_sem]) (by simp only [go_sem]) (by simp only [go_sem, beq_eq_false_iff_ne, ne_eq, not_false_eq_true, lt_o11]) (by simp only [go_sem]) (by simp only [go_sem, beq_eq_false_iff_ne, ne_eq, not_false_eq_true, lt_o13, b1z ne_o11_o13, b1z ne_o12_o13]) (by simp only [go_sem, lt_o13]) (by simp only [go_sem, beq_eq_false_iff_ne, ne_eq, not_false_eq_true, ob_o15, lt_o15, b1z ne_o11_o15, b1z ne_o12_o15, b1z ne_o13_o15]) (by simp only [go_sem, lt_o15]) ne_o9_o10 (by first | first | assumption | omega | (simp only [nxs] <;> omega)) (by first | first | assumption | omega | (simp only [nxs] <;> omega)) ne_o9_o13 ne_o9_o15 (by first | first | assumption | omega | (simp only [nxs] <;> omega)) (by first | first | assumption | omega | (simp only [nxs] <;> omega)) ne_o10_o13 ne_o10_o15 (by first | first | assumption | omega | (simp only [nxs] <;> omega)) (by first | first | assumption | omega | (simp only [nxs] <;> omega)) (by first | first | assumption | omega | (simp only [nxs] <;> omega)) (by first | first | assumption | omega | (simp only [nxs] <;> omega)) (by first | first | assumption | omega | (simp only [nxs] <;> omega)) ne_o13_o15 hm9
             ·simp only [nN]
              refine j4w (e := eI) (l := y62) ?_ (r2d (a61 :: r61) _ h_y62) ?_
              ·exact .cons (.refl _ (b0c fun a _ => b1t a)) (.nil)
              simp only [go_sem]
              refine b3a (f := eI) (l := y62) (m := ([x_95])) ?_ ?_ ?_ ?_ h_l63 ?_
              ·exact (b2v (by simp only [go_sem]) (by simp only [go_sem]) (by simp only [go_sem]))
              ·exact (b4t (by simp only [go_sem]) (by simp only [go_sem]))
              ·exact (b4r (by first | exact b1w | exact b1y (by first | omega | (simp only [nxs] <;> omega)) | assumption | exact b1v (by assumption) (by first | omega | (simp only [go_sem, nxs] <;> omega))))
              ·exact (fun _ => by simp)
              simp only [go_sem]
              refine j3y (f := c84) (l := runs_11_1) (a := l63) (raw := [.rs (nxs (nxs (nxs (nxs (nxs h.nx))))) 0 (List.length l63)]) ?_ ?_ ?_ h_l64 ?_
              ·exact (b2v (by simp only [go_sem, ob_o11, lt_o11, ne_o11_o12, ne_o11_o13]) (by simp only [go_sem]) (by simp only [go_sem, lt_o11]))
              ·exact (by simp only [go_sem])
              ·exact (by first | exact b1w | exact b1y (by first | omega | (simp only [nxs] <;> omega)) | assumption | exact b1v (by assumption) (by first | omega | (simp only [go_sem, nxs] <;> omega)))
              simp only [go_sem]
              refine hK _ _ ?_
              clear hK K
              refine g9m ?_
              refine g9k (id := (nxs (nxs (nxs (nxs (nxs (nxs (nxs h.nx)))))))) (sz := 1) (f := c84) (l := runs_11_1) (a := l63) (raw := [.rs (nxs (nxs (nxs (nxs (nxs h.nx))))) 0 (List.length l63)]) (fun j => j == (nxs (nxs (nxs (nxs (nxs h.nx)))))) (by simp only [go_sem]) (by first | (simp; done) | (simp [nxs] <;> omega)) (.cons (by rw [r20 h_l63]; exact b29 (f := eI) (l := l63) (id := (nxs (nxs (nxs (nxs (nxs h.nx)))))) (by rw [c3x (by simp)]; simp only [go_sem, lt_o11]) (by first | rfl | simp only [go_sem, List.length_append, List.map_append]) b1t b8p) (.nil)) r18 r2f ?_
              rw [<- (l43 h_l64).2]
              simp only [b0s, b02, b0f]
              exact J45 l64 l56 (b3w found_13_1 (control_pair.mk (Place.mk y52.State (y52.Values.1, y52.Values.2)) (Place.mk y53.State (y53.Values.1, y53.Values.2))) ((List.length pairs_12_1 : Nat) : Int)) (nxs (nxs (nxs (nxs (nxs (nxs (nxs h.nx))))))) (nxs (nxs h.nx)) _ _ s2 s3 s4 s9 s10 (by first | (simp only [go_sem]; done) | rfl) (by first | (simp only [go_sem]; done) | rfl) s13 s14 s15 s94 s95 (by simp only [go_sem, beq_eq_false_iff_ne, ne_eq, not_false_eq_true, ob_o9, lt_o9, ne_o9_o11, ne_o9_o12, ne_o9_o13]) (by simp only [go_sem, lt_o9]) (by simp only [go_sem, beq_eq_false_iff_ne, ne_eq, not_false_eq_true, ob_o10, lt_o10, ne_o10_o11, ne_o10_o12, ne_o10_o13]) (by simp only [go_sem, lt_o10]) (by simp only [go_sem]) (by simp only [go_sem]) (by simp only [go_sem, beq_eq_false_iff_ne, ne_eq, not_false_eq_true, lt_o11]) (by simp only [go_sem]) (by simp only [go_sem, beq_eq_false_iff_ne, ne_eq, not_false_eq_true, lt_o13, b1z ne_o11_o13, b1z ne_o12_o13]) (by simp only [go_sem, lt_o13]) (by simp only [go_sem, beq_eq_false_iff_ne, ne_eq, not_false_eq_true, ob_o15, lt_o15, b1z ne_o11_o15, b1z ne_o12_o15, b1z ne_o13_o15]) (by simp only [go_sem, lt_o15]) ne_o9_o10 (by first | first | assumption | omega | (simp only [nxs] <;> omega)) (by first | first | assumption | omega | (simp only [nxs] <;> omega)) ne_o9_o13 ne_o9_o15 (by first | first | assumption | omega | (simp only [nxs] <;> omega)) (by first | first | assumption | omega | (simp only [nxs] <;> omega)) ne_o10_o13 ne_o10_o15 (by first | first | assumption | omega | (simp only [nxs] <;> omega)) (by first | first | assumption | omega | (simp only [nxs] <;> omega)) (by first | first | assumption | omega | (simp only [nxs] <;> omega)) (by first | first | assumption | omega | (simp only [nxs] <;> omega)) (by first | first | assumption | omega | (simp only [nxs] <;> omega)) ne_o13_o15 hm9
            ·rw [b0q hc54] at hm2
             simp only [b0s, b02, b0f]
             exact J45 runs_11_1 pairs_12_1 found_13_1 i11_1 i12_1 _ _ s2 s3 s4 s9 s10 (by first | exact s11 | simp only [go_sem, s11, List.length_append, List.map_append]) (by first | exact s12 | simp only [go_sem, s12, List.length_append, List.map_append]) s13 s14 s15 s94 s95 (by simp only [go_sem, ob_o9, lt_o9]) (by simp only [go_sem, lt_o9]) (by simp only [go_sem, ob_o10, lt_o10]) (by simp only [go_sem, lt_o10]) (by simp only [go_sem, ob_o11, lt_o11]) (by simp only [go_sem, lt_o11]) (by simp only [go_sem, ob_o12, lt_o12]) (by simp only [go_sem, lt_o12]) (by simp only [go_sem, ob_o13, lt_o13]) (by simp only [go_sem, lt_o13]) (by simp only [go_sem, ob_o15, lt_o15]) (by simp only [go_sem, lt_o15]) ne_o9_o10 ne_o9_o11 ne_o9_o12 ne_o9_o13 ne_o9_o15 ne_o10_o11 ne_o10_o12 ne_o10_o13 ne_o10_o15 ne_o11_o12 ne_o11_o13 ne_o11_o15 ne_o12_o13 ne_o12_o15 ne_o13_o15 hm2
          ·rw [b0q hc43] at hm2
           simp only [b09, b1b, b1a, b02, b0f]
           obtain rfl := Option.some.inj hm2
           obtain rfl := hb41 _ rfl
           try dsimp only at hm1
           exact J28 runs_11_1 pairs_12_1 found_13_1 i11_1 i12_1 _ _ s2 s3 s4 s9 s10 (by first | exact s11 | simp only [go_sem, s11, List.length_append, List.map_append]) (by first | exact s12 | simp only [go_sem, s12, List.length_append, List.map_append]) s13 s14 ob_o9 lt_o9 ob_o10 lt_o10 ob_o11 lt_o11 ob_o12 lt_o12 ob_o13 lt_o13 ne_o9_o10 ne_o9_o11 ne_o9_o12 ne_o9_o13 ne_o10_o11 ne_o10_o12 ne_o10_o13 ne_o11_o12 ne_o11_o13 ne_o12_o13 hm1
       ·rw [b0q hc26] at hm1
        simp only [b09, b1b, b1a, b0f]
        obtain rfl := Option.some.inj hm1
        obtain rfl := hb24 _ rfl
        try dsimp only at hm0
        exact J23  _ _  hm0
theorem r39 (hf : Has O "newel/newellaw04.ControlTwin" x_l04_ControlTwin) (c3i : c5k O) (d28 : d0a O) (r1q : r10 O) (k_l04_works : d5r O) (r1p : r1z O) (r05 : r11 O) : r2k O := by
 intro a b run r hm0
 unfold r1f at hm0
 refine b1i hf rfl (b0a (.agg _ (b0a (b0c fun a _ => b0z a) (b0a (b0c fun a _ => b0z a) (b0a (b0c fun a _ => b1q a) (b0a (b0c fun a _ => b1s a) (b0a (b0c fun a _ => b1r a) b0j)))))) (b0a (.agg _ (b0a (b0c fun a _ => b0z a) (b0a (b0c fun a _ => b0z a) (b0a (b0c fun a _ => b1q a) (b0a (b0c fun a _ => b1s a) (b0a (b0c fun a _ => b1r a) b0j)))))) (b0a (b0c fun a _ => b1t a) b0j))) (b0e _) ?_
 refine b1c (fun t h => t 0 = .agg [.fs 1 (List.map eS a.Inputs), .fs 1 (List.map eS a.Outputs), .fs 2 (List.map b0o a.Counters), .fs 2 (List.map b0p a.States), .fs 4 (List.map b0m a.Rules)] /\ t 1 = .agg [.fs 1 (List.map eS b.Inputs), .fs 1 (List.map eS b.Outputs), .fs 2 (List.map b0o b.Counters), .fs 2 (List.map b0p b.States), .fs 4 (List.map b0m b.Rules)] /\ t 2 = .fs 1 (List.map eI run)) ⟨rfl, rfl, rfl⟩ fun t h ⟨s0, s1, s2⟩ => ?_
 simp only [x_l04_ControlTwin]
 refine b0b fun K hK => ?_
 simp only [go_sem, s0, s1]
 refine hK _ _ ?_
 clear hK K
 refine b0v ?_
 obtain ⟨y10, h_y10, hm0⟩ := b0g hm0
 obtain ⟨c12, h_c12, hm0⟩ := b0g hm0
 obtain ⟨c14, h_c14, hm0⟩ := b0g hm0
 obtain ⟨c16, h_c16, hm0⟩ := b0g hm0
 obtain ⟨c18, h_c18, hm0⟩ := b0g hm0
 refine b2p (fun t h => t 2 = .fs 1 (List.map eI run) /\ t 3 = .fp [.fs 1 (List.map eS a.Inputs), .fs 1 (List.map eS a.Outputs), .fs 2 (List.map b0o a.Counters), .fs 2 (List.map b0p a.States), .fs 4 (List.map b0m a.Rules)] 0 /\ t 4 = .fp [.fs 1 (List.map eS b.Inputs), .fs 1 (List.map eS b.Outputs), .fs 2 (List.map b0o b.Counters), .fs 2 (List.map b0p b.States), .fs 4 (List.map b0m b.Rules)] 0 /\ t 43 = B (c18 || (decide (60 < (List.length run : Int))))) (fun K hK => ?_) ?_
 ·simp only [go_sem]
  refine b01 (c3i a _ h_y10) ?_
  simp only [go_sem]
  refine b0k (fun hg19 => ?_) (fun hg19 => ?_)
  ·simp only [hg19, eq_self, if_true] at h_c12
   obtain rfl := Option.some.inj h_c12
   simp only [eq_self, if_true] at h_c14
   obtain rfl := Option.some.inj h_c14
   simp only [eq_self, if_true] at h_c16
   obtain rfl := Option.some.inj h_c16
   simp only [eq_self, if_true] at h_c18
   obtain rfl := Option.some.inj h_c18
   simp only [go_sem, hg19]
   exact hK _ _ ⟨s2, (by first | (simp only [go_sem]; done) | rfl), (by first | (simp only [go_sem]; done) | rfl), (by first | (simp only [go_sem]; done) | rfl)⟩
  ·simp only [hg19, if_false, fT9] at h_c12
   obtain ⟨y11, h_y11, h_c12⟩ := b0g h_c12
   obtain rfl := Option.some.inj h_c12
   simp only [go_sem, hg19]
   refine b01 (c3i b _ h_y11) ?_
   simp only [go_sem, hg19]
   refine b0k (fun hg20 => ?_) (fun hg20 => ?_)
   ·simp only [hg20, eq_self, if_true] at h_c14
    obtain rfl := Option.some.inj h_c14
    simp only [eq_self, if_true] at h_c16
    obtain rfl := Option.some.inj h_c16
    simp only [eq_self, if_true] at h_c18
    obtain rfl := Option.some.inj h_c18
    simp only [go_sem, hg19, hg20]
    exact hK _ _ ⟨s2, (by first | (simp only [go_sem]; done) | rfl), (by first | (simp only [go_sem]; done) | rfl), (by first | (simp only [go_sem]; done) | rfl)⟩
   ·simp only [hg20, if_false, fT9] at h_c14
    obtain ⟨y13, h_y13, h_c14⟩ := b0g h_c14
    obtain rfl := Option.some.inj h_c14
    simp only [go_sem, hg19, hg20]
    refine b01 (d28 a _ h_y13) ?_
    simp only [go_sem, hg19, hg20]
    refine b0k (fun hg21 => ?_) (fun hg21 => ?_)
    ·simp only [hg21, eq_self, if_true] at h_c16
     obtain rfl := Option.some.inj h_c16
     simp only [eq_self, if_true] at h_c18
     obtain rfl := Option.some.inj h_c18
     simp only [go_sem, hg19, hg20, hg21]
     exact hK _ _ ⟨s2, (by first | (simp only [go_sem]; done) | rfl), (by first | (simp only [go_sem]; done) | rfl), (by first | (simp only [go_sem]; done) | rfl)⟩
    ·simp only [hg21, if_false, fT9] at h_c16
     obtain ⟨y15, h_y15, h_c16⟩ := b0g h_c16
     obtain rfl := Option.some.inj h_c16
     simp only [go_sem, hg19, hg20, hg21]
     refine b01 (r1q a _ h_y15) ?_
     simp only [go_sem, hg19, hg20, hg21]
     refine b0k (fun hg22 => ?_) (fun hg22 => ?_)
     ·simp only [hg22, eq_self, if_true] at h_c18
      obtain rfl := Option.some.inj h_c18
      simp only [go_sem, hg19, hg20, hg21, hg22]
      exact hK _ _ ⟨s2, (by first | (simp only [go_sem]; done) | rfl), (by first | (simp only [go_sem]; done) | rfl), (by first | (simp only [go_sem]; done) | rfl)⟩
     ·simp only [hg22, if_false, fT9] at h_c18
      obtain ⟨y17, h_y17, h_c18⟩ := b0g h_c18
      obtain rfl := Option.some.inj h_c18
      simp only [go_sem, hg19, hg20, hg21, hg22]
      refine b01 (r1q b _ h_y17) ?_
      simp only [go_sem, hg19, hg20, hg21, hg22]
      refine b0k (fun hg23 => ?_) (fun hg23 => ?_)
      ·simp only [go_sem, hg19, hg20, hg21, hg22, hg23]
       exact hK _ _ ⟨s2, (by first | (simp only [go_sem]; done) | rfl), (by first | (simp only [go_sem]; done) | rfl), (by first | (simp only [go_sem, hg23]; done) | rfl)⟩
      ·simp only [go_sem, s2, hg19, hg20, hg21, hg22, hg23]
       exact hK _ _ ⟨s2, (by first | (simp only [go_sem]; done) | rfl), (by first | (simp only [go_sem]; done) | rfl), (by first | (simp only [go_sem, hg23]; done) | rfl)⟩
 ·rintro t h ⟨s2, s3, s4, s43⟩
  refine b0i fun K24 hK24 => ?_
  simp only [go_sem, s43]
  refine b0k (fun hc25 => ?_) (fun hc25 => ?_)
  ·rw [b0r hc25] at hm0
   obtain ⟨y27, h_y27, hm0⟩ := b0g hm0
   refine b0b fun K hK => ?_
   simp only [go_sem]
   refine b01 (k_l04_works  _ h_y27) ?_
   simp only [go_sem]
   refine hK _ _ ?_
   clear hK K
   simp only [b0x, b1p, b0y]
   obtain rfl := Option.some.inj hm0
   exact b04 (by simp only [go_sem]) (b0e _)
  ·rw [b0q hc25] at hm0
   simp only [b0s, b0f]
   refine hK24 _ _ ?_
   obtain ⟨y29, h_y29, hm0⟩ := b0g hm0
   refine b0b fun K hK => ?_
   simp only [go_sem, s3]
   refine r2x ?_ (b0a (.agg _ (b0a (b0c fun a _ => b0z a) (b0a (b0c fun a _ => b0z a) (b0a (b0c fun a _ => b1q a) (b0a (b0c fun a _ => b1s a) (b0a (b0c fun a _ => b1r a) b0j)))))) (b0a (.agg _ (b0a (b0c fun a _ => b0z a) (b0a (b0c fun a _ => b0z a) (b0a (b0c fun a _ => b1q a) (b0a (b0c fun a _ => b1s a) (b0a (b0c fun a _ => b1r a) b0j)))))) (b0a (b0e _) b0j))) (r1p a a ([]) _ h_y29) ?_
   ·exact .cons (.refl _ (.agg _ (b0a (b0c fun a _ => b0z a) (b0a (b0c fun a _ => b0z a) (b0a (b0c fun a _ => b1q a) (b0a (b0c fun a _ => b1s a) (b0a (b0c fun a _ => b1r a) b0j))))))) (.cons (.refl _ (.agg _ (b0a (b0c fun a _ => b0z a) (b0a (b0c fun a _ => b0z a) (b0a (b0c fun a _ => b1q a) (b0a (b0c fun a _ => b1s a) (b0a (b0c fun a _ => b1r a) b0j))))))) (.cons (.nil _) (.nil)))
   simp only [go_sem]
   refine hK _ _ ?_
   clear hK K
   refine b0v ?_
   refine b2p (fun t h => t 2 = .fs 1 (List.map eI run) /\ t 3 = .fp [.fs 1 (List.map eS a.Inputs), .fs 1 (List.map eS a.Outputs), .fs 2 (List.map b0o a.Counters), .fs 2 (List.map b0p a.States), .fs 4 (List.map b0m a.Rules)] 0 /\ t 4 = .fp [.fs 1 (List.map eS b.Inputs), .fs 1 (List.map eS b.Outputs), .fs 2 (List.map b0o b.Counters), .fs 2 (List.map b0p b.States), .fs 4 (List.map b0m b.Rules)] 0 /\ t 57 = B ((decide (¬y29.2.2 = 0)) || (!y29.2.1))) (fun K hK => ?_) ?_
   ·simp only [go_sem]
    refine b0k (fun hg30 => ?_) (fun hg30 => ?_)
    ·simp only [go_sem, hg30]
     exact hK _ _ ⟨s2, s3, s4, (by first | (simp only [go_sem, hg30]; done) | rfl)⟩
    ·simp only [go_sem, hg30]
     exact hK _ _ ⟨s2, s3, s4, (by first | (simp only [go_sem, hg30]; done) | rfl)⟩
   ·rintro t h ⟨s2, s3, s4, s57⟩
    refine b0i fun K31 hK31 => ?_
    simp only [go_sem, s57]
    refine b0k (fun hc32 => ?_) (fun hc32 => ?_)
    ·rw [b0r hc32] at hm0
     refine b0b fun K hK => ?_
     simp only [go_sem]
     refine hK _ _ ?_
     clear hK K
     simp only [b0x, b1p, b0y]
     obtain rfl := Option.some.inj hm0
     exact b04 (by simp only [go_sem]) (b0e _)
    ·rw [b0q hc32] at hm0
     simp only [b0s, b0f]
     refine hK31 _ _ ?_
     obtain ⟨y34, h_y34, hm0⟩ := b0g hm0
     refine b0b fun K hK => ?_
     simp only [go_sem, s3, s4]
     refine r2x ?_ (b0a (.agg _ (b0a (b0c fun a _ => b0z a) (b0a (b0c fun a _ => b0z a) (b0a (b0c fun a _ => b1q a) (b0a (b0c fun a _ => b1s a) (b0a (b0c fun a _ => b1r a) b0j)))))) (b0a (.agg _ (b0a (b0c fun a _ => b0z a) (b0a (b0c fun a _ => b0z a) (b0a (b0c fun a _ => b1q a) (b0a (b0c fun a _ => b1s a) (b0a (b0c fun a _ => b1r a) b0j)))))) (b0a (b0e _) b0j))) (r1p a b ([]) _ h_y34) ?_
     ·exact .cons (.refl _ (.agg _ (b0a (b0c fun a _ => b0z a) (b0a (b0c fun a _ => b0z a) (b0a (b0c fun a _ => b1q a) (b0a (b0c fun a _ => b1s a) (b0a (b0c fun a _ => b1r a) b0j))))))) (.cons (.refl _ (.agg _ (b0a (b0c fun a _ => b0z a) (b0a (b0c fun a _ => b0z a) (b0a (b0c fun a _ => b1q a) (b0a (b0c fun a _ => b1s a) (b0a (b0c fun a _ => b1r a) b0j))))))) (.cons (.nil _) (.nil)))
     simp only [go_sem]
     refine hK _ _ ?_
     clear hK K
     refine b0v ?_
     refine b0b fun K hK => ?_
     simp only [go_sem]
     refine hK _ _ ?_
     clear hK K
     refine b0i fun K35 hK35 => ?_
     simp only [go_sem]
     refine b0k (fun hc36 => ?_) (fun hc36 => ?_)
     ·rw [b0r hc36] at hm0
      obtain ⟨c40, h_c40, hm0⟩ := b0g hm0
      refine b2p (fun t h => t 6 = B c40) (fun K hK => ?_) ?_
      ·simp only [go_sem]
       refine b0k (fun hg41 => ?_) (fun hg41 => ?_)
       ·simp only [hg41, eq_self, if_true] at h_c40
        obtain ⟨y39, h_y39, h_c40⟩ := b0g h_c40
        obtain rfl := Option.some.inj h_c40
        simp only [go_sem, hg41]
        refine b01 (k_l04_works  _ h_y39) ?_
        simp only [go_sem, hg41]
        exact hK _ _ (by first | (simp only [go_sem]; done) | rfl)
       ·simp only [hg41, if_false, fT9] at h_c40
        obtain rfl := Option.some.inj h_c40
        simp only [go_sem, hg41]
        exact hK _ _ (by first | (simp only [go_sem]; done) | rfl)
      ·rintro t h s6
       simp only [b0x, b1p, b0y]
       obtain rfl := Option.some.inj hm0
       exact b04 (by simp only [go_sem, s6]) (b0e _)
     ·rw [b0q hc36] at hm0
      simp only [b0s, b0f]
      refine hK35 _ _ ?_
      obtain ⟨y43, h_y43, hm0⟩ := b0g hm0
      refine b0b fun K hK => ?_
      simp only [go_sem, s3]
      refine b01 (r05 a y34.1 _ h_y43) ?_
      simp only [go_sem]
      refine hK _ _ ?_
      clear hK K
      obtain ⟨y45, h_y45, hm0⟩ := b0g hm0
      refine b0b fun K hK => ?_
      simp only [go_sem, s4]
      refine b01 (r05 b y34.1 _ h_y45) ?_
      simp only [go_sem]
      refine hK _ _ ?_
      clear hK K
      refine b0v ?_
      refine b2p (fun t h => t 2 = .fs 1 (List.map eI run) /\ t 3 = .fp [.fs 1 (List.map eS a.Inputs), .fs 1 (List.map eS a.Outputs), .fs 2 (List.map b0o a.Counters), .fs 2 (List.map b0p a.States), .fs 4 (List.map b0m a.Rules)] 0 /\ t 4 = .fp [.fs 1 (List.map eS b.Inputs), .fs 1 (List.map eS b.Outputs), .fs 2 (List.map b0o b.Counters), .fs 2 (List.map b0p b.States), .fs 4 (List.map b0m b.Rules)] 0 /\ t 11 = B y34.2.1 /\ t 98 = B (((!y43.2) || (!y45.2)) || ((!y34.2.1) && (decide (y43.1 = y45.1))))) (fun K hK => ?_) ?_
      ·simp only [go_sem]
       refine b0k (fun hg46 => ?_) (fun hg46 => ?_)
       ·simp only [go_sem, hg46]
        exact hK _ _ ⟨s2, s3, s4, (by first | (simp only [go_sem]; done) | rfl), (by first | (simp only [go_sem, hg46]; done) | rfl)⟩
       ·simp only [go_sem, hg46]
        refine b0k (fun hg47 => ?_) (fun hg47 => ?_)
        ·simp only [go_sem, hg46, hg47]
         exact hK _ _ ⟨s2, s3, s4, (by first | (simp only [go_sem]; done) | rfl), (by first | (simp only [go_sem, hg46, hg47]; done) | rfl)⟩
        ·simp only [go_sem, hg46, hg47]
         refine b0k (fun hg48 => ?_) (fun hg48 => ?_)
         ·simp only [go_sem, hg46, hg47, hg48]
          exact hK _ _ ⟨s2, s3, s4, (by first | (simp only [go_sem]; done) | rfl), (by first | (simp only [go_sem, hg46, hg47, hg48]; done) | rfl)⟩
         ·simp only [go_sem, hg46, hg47, hg48]
          exact hK _ _ ⟨s2, s3, s4, (by first | (simp only [go_sem]; done) | rfl), (by first | (simp only [go_sem, hg46, hg47, hg48]; done) | rfl)⟩
      ·rintro t h ⟨s2, s3, s4, s11, s98⟩
       refine b0i fun K49 hK49 => ?_
       simp only [go_sem, s98]
       refine b0k (fun hc50 => ?_) (fun hc50 => ?_)
       ·rw [b0r hc50] at hm0
        refine b0b fun K hK => ?_
        simp only [go_sem]
        refine hK _ _ ?_
        clear hK K
        simp only [b0x, b1p, b0y]
        obtain rfl := Option.some.inj hm0
        exact b04 (by simp only [go_sem]) (b0e _)
       ·rw [b0q hc50] at hm0
        simp only [b0s, b0f]
        refine hK49 _ _ ?_
        obtain ⟨y52, h_y52, hm0⟩ := b0g hm0
        refine b0b fun K hK => ?_
        simp only [go_sem, s2, s3]
        refine b01 (r05 a run _ h_y52) ?_
        simp only [go_sem]
        refine hK _ _ ?_
        clear hK K
        obtain ⟨y54, h_y54, hm0⟩ := b0g hm0
        refine b0b fun K hK => ?_
        simp only [go_sem, s2, s4]
        refine b01 (r05 b run _ h_y54) ?_
        simp only [go_sem]
        refine hK _ _ ?_
        clear hK K
        obtain ⟨c58, h_c58, hm0⟩ := b0g hm0
        refine b2p (fun t h => t 6 = B c58) (fun K hK => ?_) ?_
        ·simp only [go_sem, s11]
         refine b0k (fun hg59 => ?_) (fun hg59 => ?_)
         ·simp only [hg59, eq_self, if_true, Bool.true_or] at h_c58
          obtain ⟨y57, h_y57, h_c58⟩ := b0g h_c58
          obtain rfl := Option.some.inj h_c58
          simp only [go_sem, hg59]
          refine b01 (k_l04_works  _ h_y57) ?_
          simp only [go_sem, hg59]
          exact hK _ _ (by first | (simp only [go_sem]; done) | rfl)
         ·simp only [go_sem, hg59]
          refine b0k (fun hg60 => ?_) (fun hg60 => ?_)
          ·simp only [hg59, hg60, eq_self, if_true, Bool.true_or, Bool.or_true] at h_c58
           obtain ⟨y57, h_y57, h_c58⟩ := b0g h_c58
           obtain rfl := Option.some.inj h_c58
           simp only [go_sem, hg59, hg60]
           refine b01 (k_l04_works  _ h_y57) ?_
           simp only [go_sem, hg59, hg60]
           exact hK _ _ (by first | (simp only [go_sem]; done) | rfl)
          ·simp only [go_sem, hg59, hg60]
           refine b0k (fun hg61 => ?_) (fun hg61 => ?_)
           ·simp only [hg59, hg60, hg61, eq_self, if_true, Bool.true_or, Bool.or_true, Bool.or_false] at h_c58
            obtain ⟨y57, h_y57, h_c58⟩ := b0g h_c58
            obtain rfl := Option.some.inj h_c58
            simp only [go_sem, hg59, hg60, hg61]
            refine b01 (k_l04_works  _ h_y57) ?_
            simp only [go_sem, hg59, hg60, hg61]
            exact hK _ _ (by first | (simp only [go_sem]; done) | rfl)
           ·simp only [go_sem, hg59, hg60, hg61]
            refine b0k (fun hg62 => ?_) (fun hg62 => ?_)
            ·simp only [hg59, hg60, hg61, hg62, eq_self, if_true, Bool.or_true, Bool.or_false] at h_c58
             obtain ⟨y57, h_y57, h_c58⟩ := b0g h_c58
             obtain rfl := Option.some.inj h_c58
             simp only [go_sem, hg59, hg60, hg61, hg62]
             refine b01 (k_l04_works  _ h_y57) ?_
             simp only [go_sem, hg59, hg60, hg61, hg62]
             exact hK _ _ (by first | (simp only [go_sem]; done) | rfl)
            ·simp only [hg59, hg60, hg61, hg62, if_false, Bool.or_false, fT9] at h_c58
             obtain rfl := Option.some.inj h_c58
             simp only [go_sem, hg59, hg60, hg61, hg62]
             exact hK _ _ (by first | (simp only [go_sem]; done) | rfl)
        ·rintro t h s6
         simp only [b0x, b0y]
         obtain rfl := Option.some.inj hm0
         exact b04 (by simp only [go_sem, s6]) (b0e _)
end Go.Nw.KM
