/- Plain laws on the models. -/
import Derived.Test.YtfahaljhgfjooaaDoorKM
set_option linter.all false
namespace Go.Nw.KM
open Go.Nw.Ctl
set_option maxHeartbeats 4000000
variable {O : Orac} [MapsOk O]
theorem c64 (n : Int) : ∀ a ∈ [AV.v (.slice none 0 0), I n], Frz a := b0a (b0e _) (b0a (b0e _) b0j)
theorem j7a (hf : Has O "slices.Grow[[]string,string]" x_slices_Grow___string_string_) (n : Int) (h0 : 0 < n) (h1 : n * 16 <= 2 ^ 40) :
  O "slices.Grow[[]string,string]" [.v (.slice none 0 0), I n] (.rs 0 0 0) [(1, List.replicate n.toNat [.v (.string (ByteArray.mk #[]))])] := by
 refine c7b hf rfl (c64 n) ?_
 refine b1c (fun t h => t 0 = .v (.slice none 0 0) /\ t 1 = I n) ⟨rfl, rfl⟩ fun t h hs => ?_
 obtain ⟨s0, s1⟩ := hs
 simp only [x_slices_Grow___string_string_]
 refine b0b fun K hK => ?_
 simp only [go_sem]
 refine hK _ _ (b0v (b0b fun K hK => ?_))
 simp only [go_sem, s0, s1]
 refine hK _ _ (b0i fun K hK => ?_)
 simp only [go_sem]
 refine b0k (fun hc => ?_) (fun hc => ?_)
 ·have : n < 0 := of_decide_eq_true hc
  omega
 simp only [b0s, b02, b0f]
 refine hK _ _ (b0v (b0b fun K hK => ?_))
 simp only [go_sem, s0, s1]
 refine d19 ?_
 simp only [go_sem, s0, s1]
 refine hK _ _ (b0v (b0b fun K hK => ?_))
 have e1 : wr (n - wr (0 - 0)) = n := by
  rw [b3t (n := (0 : Int) - 0) (by omega) (by omega), b3t (by omega) (by omega)]; omega
 simp only [go_sem, s0, s1, e1]
 refine hK _ _ (b0i fun K hK => ?_)
 simp only [go_sem, s0, s1, e1]
 refine b0k (fun hc => ?_) (fun hc => ?_)
 ·rw [b5n]
  simp only [go_sem, s0, s1, e1]
  refine d19 ?_
  simp only [go_sem, s0, s1, e1]
  refine j6x ?_
  simp only [go_sem, s0, s1, e1]
  refine j3z h0 h1 ?_
  simp only [go_sem, s0, s1, e1]
  refine j6y (n := 1) (rows := List.replicate n.toNat [.v (.string (ByteArray.mk #[]))]) (by simp only [go_sem]) ?_
  simp only [go_sem, s0, s1, e1, b0f]
  refine hK _ _ (b0b fun K hK => ?_)
  simp only [go_sem]
  refine hK _ _ ?_
  simp only [b0x, b0y]
  refine g9t (id := h.nx) (by simp only [go_sem]) (by simp only [go_sem]) fun r hr => ?_
  obtain ⟨_, rfl⟩ := List.mem_replicate.1 hr
  exact ⟨rfl, fun c hc => ⟨_, List.mem_singleton.1 hc⟩⟩
 ·have : ¬ 0 < n := of_decide_eq_false hc
  omega
theorem j7b (hf : Has O "slices.Grow[[]string,string]" x_slices_Grow___string_string_) :
  O "slices.Grow[[]string,string]" [.v (.slice none 0 0), I 0] (.v (.slice none 0 0)) [] := by
 refine c7b hf rfl (c64 0) ?_
 refine b1c (fun t h => t 0 = .v (.slice none 0 0) /\ t 1 = I 0) ⟨rfl, rfl⟩ fun t h hs => ?_
 obtain ⟨s0, s1⟩ := hs
 simp only [x_slices_Grow___string_string_]
 refine b0b fun K hK => ?_
 simp only [go_sem]
 refine hK _ _ (b0v (b0b fun K hK => ?_))
 simp only [go_sem, s0, s1]
 refine hK _ _ (b0i fun K hK => ?_)
 simp only [go_sem]
 refine b0k (fun hc => ?_) (fun hc => ?_)
 ·have : (0 : Int) < 0 := of_decide_eq_true hc
  omega
 simp only [b0s, b02, b0f]
 refine hK _ _ (b0v (b0b fun K hK => ?_))
 simp only [go_sem, s0, s1]
 refine d19 ?_
 simp only [go_sem, s0, s1]
 refine hK _ _ (b0v (b0b fun K hK => ?_))
 have e1 : wr (0 - wr (0 - 0)) = 0 := by decide
 simp only [go_sem, s0, s1, e1]
 refine hK _ _ (b0i fun K hK => ?_)
 simp only [go_sem, s0, s1, e1]
 refine b0k (fun hc => ?_) (fun hc => ?_)
 ·have : (0 : Int) < 0 := of_decide_eq_true hc
  omega
 ·simp only [b0s, b02, b0f]
  refine hK _ _ (b0b fun K hK => ?_)
  simp only [go_sem, s0]
  refine hK _ _ ?_
  simp only [b0x, b0y]
  exact b04 (by simp only [go_sem]) (b0e _)
theorem d3q (hf : Has O "slices.Concat[[]string,string]" x_slices_Concat___string_string_) (hg : Has O "slices.Grow[[]string,string]" x_slices_Grow___string_string_) : d0t O := by
 intro sl r hm
 unfold c9i at hm
 split at hm
 case isFalse => cases hm
 rename_i hc
 obtain ⟨hc1, hc2, hc3⟩ := hc
 cases hm
 refine j04 hf rfl (b0a (b0c fun a _ => c65 a) b0j) g2n ?_
 refine b1c (fun t h => t 0 = .fs 1 (List.map b4f sl)) rfl fun t h s0 => ?_
 simp only [x_slices_Concat___string_string_]
 refine b0b fun K hK => ?_
 simp only [go_sem]
 refine hK _ _ (b0b fun K hK => ?_)
 simp only [go_sem]
 refine hK _ _ (b0v (b0b fun K hK => ?_))
 simp only [go_sem, s0, List.length_map]
 refine hK _ _ (b0i fun K hK => ?_)
 simp only [b0u]
 have hle : ∀ i, (sl.take i).flatten.length <= sl.flatten.length := fun i => by
  have := congrArg (fun l => (List.flatten l).length) (List.take_append_drop i sl)
  simp only [List.flatten_append, List.length_append] at this
  omega
 refine c2k (fun k t h => t 0 = .fs 1 (List.map b4f sl) /\ t 9 = .fs 1 (List.map b4f sl) /\ t 10 = I (sl.length : Int) /\ ∃ i : Nat, i <= sl.length /\ k = sl.length - i /\ t 11 = I (i : Int) /\ t 3 = I ((sl.take i).flatten.length : Int)) sl.length ?_ ?_
 ·exact ⟨by simp only [go_sem, s0], by simp only [go_sem, s0], by simp only [go_sem], 0, by omega, by omega, by simp only [go_sem]; rfl, by simp only [go_sem]; rfl⟩
 ·rintro k t h ⟨s0, s9, s10, i, hi, hk, s11, s3⟩
  rw [d5n]
  refine b0b fun K2 hK2 => ?_
  simp only [go_sem, s10, s11]
  refine hK2 _ _ (b0i fun K3 hK3 => ?_)
  simp only [go_sem]
  refine b0k (fun hb => ?_) (fun hb => ?_)
  ·simp only [b0s, b0f]
   refine hK3 _ _ (b0i fun K4 hK4 => ?_)
   simp only [b0u]
   have hlt : i < sl.length := by have := of_decide_eq_true hb; omega
   have hx : sl[i]? = some sl[i] := gG9 hlt
   generalize sl[i] = x at hx
   have h_x : get sl (i : Int) = some x := by unfold get; rw [if_pos (by omega)]; simpa using hx
   have hfl := c9m hx
   have hlen : (sl.take (i + 1)).flatten.length = (sl.take i).flatten.length + x.length := by rw [hfl, List.length_append]
   have hb1 := hle (i + 1)
   refine b0b fun K5 hK5 => ?_
   simp only [go_sem, s9, s11, b08 h_x, b3n h_x, b05 h_x, b06 h_x]
   refine hK5 _ _ (b0b fun K5 hK5 => ?_)
   have e1 : wr (((sl.take i).flatten.length : Int) + (x.length : Int)) = ((sl.take (i + 1)).flatten.length : Int) := by
    rw [b3t (by omega) (by omega)]; omega
   simp only [go_sem, s3, List.length_map, e1]
   refine hK5 _ _ (b0b fun K5 hK5 => ?_)
   simp only [go_sem]
   refine hK5 _ _ ?_
   simp only [go_sem]
   refine b0k (fun hd => ?_) (fun hd => ?_)
   ·have := of_decide_eq_true hd
    omega
   simp only [b0s, b02, b0f]
   refine hK4 _ _ ?_
   rw [b5n]
   have e2 : wr ((i : Int) + 1) = ((i + 1 : Nat) : Int) := by rw [b3t (by omega) (by omega)]; omega
   simp only [go_sem, s11, e2, b0f]
   exact ⟨k - 1, by omega, by simp only [go_sem, s0], by simp only [go_sem, s9], by simp only [go_sem, s10], i + 1, by omega, by omega, by simp only [go_sem], by simp only [go_sem]⟩
  ·have hge : sl.length <= i := by have := of_decide_eq_false hb; omega
   have hie : i = sl.length := by omega
   subst hie
   simp only [b09, b1b, b1a, c0s, b02, b0f, Nat.reduceEqDiff, not_false_eq_true]
   refine hK _ _ (b0b fun K hK => ?_)
   simp only [go_sem, s3]
   rw [List.take_length]
   refine j4v (c64 _) (j7a hg _ (by omega) (by omega)) (fun r hr => ?_) ?_
   ·obtain ⟨_, rfl⟩ := List.mem_replicate.1 hr
    exact ⟨rfl, fun c hc => ⟨_, List.mem_singleton.1 hc⟩⟩
   simp only [go_sem]
   refine hK _ _ (b0v (b0b fun K hK => ?_))
   simp only [go_sem, s0, List.length_map]
   refine hK _ _ (b0i fun K hK => ?_)
   simp only [b0u]
   refine c2k (fun k t h => t 25 = .fs 1 (List.map b4f sl) /\ t 26 = I (sl.length : Int) /\ ∃ (i id : Nat) (es : List (List AV)), i <= sl.length /\ k = sl.length - i /\ t 27 = I (i : Int) /\ t 6 = .rs id 0 (List.length (sl.take i).flatten) /\ h.ob id = some (1, es) /\ id < h.nx /\ es.take (sl.take i).flatten.length = List.map eS (sl.take i).flatten /\ (sl.take i).flatten.length <= es.length /\ (0 < i -> es = List.map eS (sl.take i).flatten)) sl.length ?_ ?_
   ·exact ⟨by simp only [go_sem, s0], by simp only [go_sem], 0, h.nx, List.replicate (Int.toNat (sl.flatten.length : Int)) [.v (.string (ByteArray.mk #[]))], by omega, by omega, by simp only [go_sem]; rfl, by simp only [go_sem]; rfl, by simp only [go_sem], by simp only [go_sem], by simp, by simp, fun h => by omega⟩
   ·rintro k t h ⟨s25, s26, i, id, es, hi, hk, s27, s6, ho, hlt0, he, hel, hex⟩
    rw [d5m]
    refine b0b fun K2 hK2 => ?_
    simp only [go_sem, s26, s27]
    refine hK2 _ _ (b0i fun K3 hK3 => ?_)
    simp only [go_sem]
    refine b0k (fun hb => ?_) (fun hb => ?_)
    ·simp only [b0s, b0f]
     refine hK3 _ _ (b0i fun K4 hK4 => ?_)
     simp only [b0u]
     have hlt : i < sl.length := by have := of_decide_eq_true hb; omega
     have hx : sl[i]? = some sl[i] := gG9 hlt
     generalize sl[i] = x at hx
     have h_x : get sl (i : Int) = some x := by unfold get; rw [if_pos (by omega)]; simpa using hx
     have hfl := c9m hx
     have hlen : (sl.take (i + 1)).flatten.length = (sl.take i).flatten.length + x.length := by rw [hfl, List.length_append]
     have hb1 := hle (i + 1)
     refine b0b fun K5 hK5 => ?_
     simp only [go_sem, s25, s27, b08 h_x, b3n h_x, b05 h_x, b06 h_x]
     refine hK5 _ _ ?_
     rw [b5n]
     simp only [go_sem, s6]
     refine j3v (f := eS) (r := (sl.take (i + 1)).flatten) ho he hel (by rw [hfl]; exact b9k (by omega)) ?_
     simp only [go_sem, b02, b0f]
     refine hK4 _ _ ?_
     rw [b5n]
     have e2 : wr ((i : Int) + 1) = ((i + 1 : Nat) : Int) := by rw [b3t (by omega) (by omega)]; omega
     simp only [go_sem, s27, e2, b0f]
     exact ⟨k - 1, by omega, by simp only [go_sem, s25], by simp only [go_sem, s26], i + 1, h.nx, _, by omega, by omega, by simp only [go_sem], by simp only [go_sem], by simp only [go_sem], by simp only [go_sem], List.take_of_length_le (Nat.le_of_eq (List.length_map _)), Nat.le_of_eq (List.length_map _).symm, fun _ => rfl⟩
    ·have hge : sl.length <= i := by have := of_decide_eq_false hb; omega
     have hie : i = sl.length := by omega
     subst hie
     simp only [b09, b1b, b1a, c0s, b02, b0f, Nat.reduceEqDiff, not_false_eq_true]
     refine hK _ _ (b0b fun K hK => ?_)
     rw [List.take_length] at s6 hex
     simp only [go_sem, s6]
     refine hK _ _ ?_
     simp only [b0x, b0y]
     have hpos : 0 < sl.length := by
      cases sl with
      | nil => simp at hc3
      | cons a l => simp
     rw [hex hpos] at ho
     exact g9v (id := id) (by simp only [go_sem]) (by simp only [go_sem, ho]) g2n
theorem d3r (hf : Has O "slices.Concat[[]string,string]" x_slices_Concat___string_string_) (hg : Has O "slices.Grow[[]string,string]" x_slices_Grow___string_string_) : d0u O := by
 intro sl r hm
 unfold c9j at hm
 split at hm
 case isFalse => cases hm
 rename_i hc
 obtain ⟨hc1, hc2⟩ := hc
 cases hm
 refine b1i hf rfl (b0a (b0c fun a _ => c65 a) b0j) (b0e _) ?_
 refine b1c (fun t h => t 0 = .fs 1 (List.map b4f sl)) rfl fun t h s0 => ?_
 simp only [x_slices_Concat___string_string_]
 refine b0b fun K hK => ?_
 simp only [go_sem]
 refine hK _ _ (b0b fun K hK => ?_)
 simp only [go_sem]
 refine hK _ _ (b0v (b0b fun K hK => ?_))
 simp only [go_sem, s0, List.length_map]
 refine hK _ _ (b0i fun K hK => ?_)
 simp only [b0u]
 have hle : ∀ i, (sl.take i).flatten.length <= sl.flatten.length := fun i => by
  have := congrArg (fun l => (List.flatten l).length) (List.take_append_drop i sl)
  simp only [List.flatten_append, List.length_append] at this
  omega
 refine c2k (fun k t h => t 0 = .fs 1 (List.map b4f sl) /\ t 9 = .fs 1 (List.map b4f sl) /\ t 10 = I (sl.length : Int) /\ ∃ i : Nat, i <= sl.length /\ k = sl.length - i /\ t 11 = I (i : Int) /\ t 3 = I ((sl.take i).flatten.length : Int)) sl.length ?_ ?_
 ·exact ⟨by simp only [go_sem, s0], by simp only [go_sem, s0], by simp only [go_sem], 0, by omega, by omega, by simp only [go_sem]; rfl, by simp only [go_sem]; rfl⟩
 ·rintro k t h ⟨s0, s9, s10, i, hi, hk, s11, s3⟩
  rw [d5n]
  refine b0b fun K2 hK2 => ?_
  simp only [go_sem, s10, s11]
  refine hK2 _ _ (b0i fun K3 hK3 => ?_)
  simp only [go_sem]
  refine b0k (fun hb => ?_) (fun hb => ?_)
  ·simp only [b0s, b0f]
   refine hK3 _ _ (b0i fun K4 hK4 => ?_)
   simp only [b0u]
   have hlt : i < sl.length := by have := of_decide_eq_true hb; omega
   have hx : sl[i]? = some sl[i] := gG9 hlt
   generalize sl[i] = x at hx
   have h_x : get sl (i : Int) = some x := by unfold get; rw [if_pos (by omega)]; simpa using hx
   have hfl := c9m hx
   have hlen : (sl.take (i + 1)).flatten.length = (sl.take i).flatten.length + x.length := by rw [hfl, List.length_append]
   have hb1 := hle (i + 1)
   refine b0b fun K5 hK5 => ?_
   simp only [go_sem, s9, s11, b08 h_x, b3n h_x, b05 h_x, b06 h_x]
   refine hK5 _ _ (b0b fun K5 hK5 => ?_)
   have e1 : wr (((sl.take i).flatten.length : Int) + (x.length : Int)) = ((sl.take (i + 1)).flatten.length : Int) := by
    rw [b3t (by omega) (by omega)]; omega
   simp only [go_sem, s3, List.length_map, e1]
   refine hK5 _ _ (b0b fun K5 hK5 => ?_)
   simp only [go_sem]
   refine hK5 _ _ ?_
   simp only [go_sem]
   refine b0k (fun hd => ?_) (fun hd => ?_)
   ·have := of_decide_eq_true hd
    omega
   simp only [b0s, b02, b0f]
   refine hK4 _ _ ?_
   rw [b5n]
   have e2 : wr ((i : Int) + 1) = ((i + 1 : Nat) : Int) := by rw [b3t (by omega) (by omega)]; omega
   simp only [go_sem, s11, e2, b0f]
   exact ⟨k - 1, by omega, by simp only [go_sem, s0], by simp only [go_sem, s9], by simp only [go_sem, s10], i + 1, by omega, by omega, by simp only [go_sem], by simp only [go_sem]⟩
  ·have hge : sl.length <= i := by have := of_decide_eq_false hb; omega
   have hie : i = sl.length := by omega
   subst hie
   simp only [b09, b1b, b1a, c0s, b02, b0f, Nat.reduceEqDiff, not_false_eq_true]
   refine hK _ _ (b0b fun K hK => ?_)
   simp only [go_sem, s3]
   rw [List.take_length]
   rw [hc1]
   refine b01 ⟨j7b hg, c64 _, b0e _⟩ ?_
   simp only [go_sem]
   refine hK _ _ (b0v (b0b fun K hK => ?_))
   simp only [go_sem, s0, List.length_map]
   refine hK _ _ (b0i fun K hK => ?_)
   simp only [b0u]
   refine c2k (fun k t h => t 25 = .fs 1 (List.map b4f sl) /\ t 26 = I (sl.length : Int) /\ ∃ i : Nat, i <= sl.length /\ k = sl.length - i /\ t 27 = I (i : Int) /\ t 6 = .v (.slice none 0 0)) sl.length ?_ ?_
   ·exact ⟨by simp only [go_sem, s0], by simp only [go_sem], 0, by omega, by omega, by simp only [go_sem]; rfl, by simp only [go_sem]⟩
   ·rintro k t h ⟨s25, s26, i, hi, hk, s27, s6⟩
    rw [d5m]
    refine b0b fun K2 hK2 => ?_
    simp only [go_sem, s26, s27]
    refine hK2 _ _ (b0i fun K3 hK3 => ?_)
    simp only [go_sem]
    refine b0k (fun hb => ?_) (fun hb => ?_)
    ·simp only [b0s, b0f]
     refine hK3 _ _ (b0i fun K4 hK4 => ?_)
     simp only [b0u]
     have hlt : i < sl.length := by have := of_decide_eq_true hb; omega
     have hx : sl[i]? = some sl[i] := gG9 hlt
     generalize sl[i] = x at hx
     have h_x : get sl (i : Int) = some x := by unfold get; rw [if_pos (by omega)]; simpa using hx
     have hfl := c9m hx
     have hlen : (sl.take (i + 1)).flatten.length = (sl.take i).flatten.length + x.length := by rw [hfl, List.length_append]
     have hb1 := hle (i + 1)
     have hx0 : x = [] := List.eq_nil_of_length_eq_zero (by omega)
     subst hx0
     refine b0b fun K5 hK5 => ?_
     simp only [go_sem, s25, s27, b08 h_x, b3n h_x, b05 h_x, b06 h_x]
     refine hK5 _ _ ?_
     rw [b5n]
     simp only [go_sem, s6]
     refine j3x ?_
     simp only [go_sem, b02, b0f]
     refine hK4 _ _ ?_
     have e2 : wr ((i : Int) + 1) = ((i + 1 : Nat) : Int) := by rw [b3t (by omega) (by omega)]; omega
     refine b03 fun K6 hK6 => ?_
     simp only [go_sem, s27, e2]
     refine hK6 _ _ ?_
     simp only [b0f]
     exact ⟨k - 1, by omega, by simp only [go_sem, s25], by simp only [go_sem, s26], i + 1, by omega, by omega, by simp only [go_sem], by simp only [go_sem]⟩
    ·have hge : sl.length <= i := by have := of_decide_eq_false hb; omega
     have hie : i = sl.length := by omega
     subst hie
     simp only [b09, b1b, b1a, c0s, b02, b0f, Nat.reduceEqDiff, not_false_eq_true]
     refine hK _ _ (b0b fun K hK => ?_)
     simp only [go_sem, s6]
     refine hK _ _ ?_
     simp only [b0x, b0y]
     exact b04 (by simp only [go_sem]) (b0e _)
end Go.Nw.KM
namespace Go.Nw.KM
open Go.Nw.Ctl
set_option maxHeartbeats 4000000
variable {O : Orac} [MapsOk O]
noncomputable def p83 (o_3 : List (List Literal)) : Option (List (List Literal)) :=
 p89 o_3
noncomputable def p8w (c : List (List Literal)) : ((List (List Literal)) × Int) -> Option (Out ((List (List Literal)) × Int) (((List (List Literal)))))
 | (o_3, i_4) =>
  if decide (i_4 < (List.length c : Int)) then
   (get c i_4).bind fun x10 =>
   (ap 32 ([]) x10).bind fun l11 =>
   (ap 24 o_3 ([l11])).bind fun l12 =>
   some (.nx (l12, wr (i_4 + 1)))
  else
   some (.br o_3)
noncomputable def p8v (c : List (List Literal)) : Option (List (List Literal)) :=
 (b0w (p8w c) ([], 0)).bind fun o_3 =>
 p83 o_3
def p85 (O : Orac) : Prop := ∀ (c : List (List Literal)) (r : List (List Literal)) (hm0 : p8v c = some r), FnWF O "newel/newelref04.CopyCond" [.fs 1 (List.map b0t c)] 1 b0t r
noncomputable def p87 : Option Bool :=
 (c7n).bind fun y48 =>
 some y48
noncomputable def p8s (y14 : (List Place) × Int) (y42 : (List Place) × Int) : Int -> Option (Out Int (Unit ⊕ Bool))
 | i_21 =>
  if decide (i_21 < (List.length y14.1 : Int)) then
   (get y14.1 i_21).bind fun x55 =>
   (p6s y42.1 x55).bind fun y56 =>
   if !y56 then
    some (.br (.inr false))
   else
    some (.nx (wr (i_21 + 1)))
  else
   some (.br (.inl ()))
noncomputable def p8t (m : Machine) (c : l04_Conds) (y14 : (List Place) × Int) : Option Bool :=
 if ((decide ((List.length c.Assume : Int) = 0)) || (decide ((List.length c.Never : Int) = 0))) || (decide ((List.length c.Assume : Int) = 6)) then
  (c7n).bind fun y34 =>
  some y34
 else
  (p8v c.Assume).bind fun y38 =>
  (get c.Never 0).bind fun x39 =>
  (ap 24 y38 ([x39])).bind fun l40 =>
  (p2e m l40).bind fun y42 =>
  if decide (¬y42.2 = 0) then
   some false
  else
   (b0w (p8s y14 y42) (0)).bind fun
    | (.inl ()) => p87
    | (.inr r') => some r'
noncomputable def p8m (y14 : (List Place) × Int) (y26 : (List Place) × Bool) : Int -> Option (Out Int (Unit ⊕ Bool))
 | i_17 =>
  if y26.2 && (decide (i_17 < (List.length y26.1 : Int))) then
   (get y26.1 i_17).bind fun x66 =>
   (p6s y14.1 x66).bind fun y67 =>
   if !y67 then
    some (.br (.inr false))
   else
    some (.nx (wr (i_17 + 1)))
  else
   some (.br (.inl ()))
noncomputable def p8y (m : Machine) (c : l04_Conds) (run : List Int) (y14 : (List Place) × Int) : Option Bool :=
 (p16 m run c.Assume (-1) 0).bind fun y26 =>
 (b0w (p8m y14 y26) (0)).bind fun
  | (.inl ()) => p8t m c y14
  | (.inr r') => some r'
noncomputable def p8z (i_9 : Int) : Option (Out Int (Unit ⊕ Bool)) :=
 some (.nx (wr (i_9 + 1)))
noncomputable def p80 (y14 : (List Place) × Int) (i_9 : Int) (found_10 : Bool) : Option (Out Int (Unit ⊕ Bool)) :=
 (if !found_10 then some true else (sub y14.1 0 i_9).bind fun l81 =>
 (get y14.1 i_9).bind fun x82 =>
 (p6s l81 x82).bind fun y83 =>
 some y83).bind fun c84 =>
 if c84 then
  some (.br (.inr false))
 else
  p8z i_9
noncomputable def p81 (k_11 : Int) (found_10_1 : Bool) : Option (Out (Bool × Int) Bool) :=
 some (.nx (found_10_1, wr (k_11 + 1)))
noncomputable def p8u (x_12 : Int) (found_10_2 : Bool) : Option (Out (Bool × Int) Bool) :=
 some (.nx (found_10_2, wr (x_12 + 1)))
noncomputable def p8p (m : Machine) (c : l04_Conds) (y14 : (List Place) × Int) (i_9 : Int) (k_11 : Int) : (Bool × Int) -> Option (Out (Bool × Int) Bool)
 | (found_10_1, x_12) =>
  (shl .i64 1 (IntKind.wrap .u64 (List.length m.Inputs : Int))).bind fun q95 =>
  if decide (x_12 < q95) then
   (get y14.1 k_11).bind fun x102 =>
   (c0t m x102 x_12 c.Assume).bind fun y103 =>
   if !y103 then
    p8u x_12 found_10_1
   else
    (p2f m x102 x_12).bind fun y107 =>
    (if found_10_1 then some true else (if decide (y107.2 = 0) then (get y14.1 i_9).bind fun x111 =>
    some (decide ((Place.mk y107.1.State (y107.1.Values.1, y107.1.Values.2)) = x111)) else some false).bind fun c112 =>
    some c112).bind fun c113 =>
    p8u x_12 c113
  else
   some (.br found_10_1)
noncomputable def l33 (m : Machine) (c : l04_Conds) (y14 : (List Place) × Int) (i_9 : Int) : (Bool × Int) -> Option (Out (Bool × Int) Bool)
 | (found_10, k_11) =>
  if (decide (k_11 < i_9)) && (!found_10) then
   (b0w (p8p m c y14 i_9 k_11) (found_10, 0)).bind fun found_10_1 =>
   p81 k_11 found_10_1
  else
   some (.br found_10)
noncomputable def p8q (m : Machine) (c : l04_Conds) (y14 : (List Place) × Int) : Int -> Option (Out Int (Unit ⊕ Bool))
 | i_9 =>
  if decide (i_9 < (List.length y14.1 : Int)) then
   (b0w (l33 m c y14 i_9) (false, 0)).bind fun found_10 =>
   p80 y14 i_9 found_10
  else
   some (.br (.inl ()))
noncomputable def p8r (m : Machine) (c : l04_Conds) (run : List Int) : Option Bool :=
 (b8o m).bind fun y4 =>
 (if y4 then some true else (c0v m ([c.Assume, c.Never])).bind fun y5 =>
 some (decide (¬y5 = 0))).bind fun c6 =>
 if c6 || (decide (60 < (List.length run : Int))) then
  (c7n).bind fun y12 =>
  some y12
 else
  (p2e m c.Assume).bind fun y14 =>
  (if (decide (¬y14.2 = 0)) || (decide ((List.length y14.1 : Int) = 0)) then some true else (get y14.1 0).bind fun x17 =>
  some (!(decide (x17 = (Place.mk 0 (0, 0)))))).bind fun c18 =>
  if c18 then
   some false
  else
   (b0w (p8q m c y14) (1)).bind fun
    | (.inl ()) => p8y m c run y14
    | (.inr r') => some r'
def p88 (O : Orac) : Prop := ∀ (m : Machine) (c : l04_Conds) (run : List Int) (r : Bool) (hm0 : p8r m c run = some r), Fn O "newel/newellaw04.ControlFound" [.agg [.fs 1 (List.map eS m.Inputs), .fs 1 (List.map eS m.Outputs), .fs 2 (List.map b0o m.Counters), .fs 2 (List.map b0p m.States), .fs 4 (List.map b0m m.Rules)], .agg [.fs 1 (List.map b0t c.Assume), .fs 1 (List.map b0t c.Never)], .fs 1 (List.map eI run)] (B r)
theorem p86 (hf : Has O "newel/newelref04.CopyCond" x_r04_CopyCond) : p85 O := by
 intro c r hm0
 unfold p8v at hm0
 refine p9n hf rfl (b0a (b0c fun a _ => b2j a) b0j) (fun a => ⟨g1d a, b2j a⟩) ?_
 refine b1c (fun t h => t 0 = .fs 1 (List.map b0t c)) rfl fun t h s0 => ?_
 simp only [x_r04_CopyCond]
 refine b0b fun K hK => ?_
 simp only [go_sem]
 refine hK _ _ ?_
 clear hK K
 refine b0b fun K hK => ?_
 simp only [go_sem]
 refine hK _ _ ?_
 clear hK K
 refine b0v ?_
 refine b0b fun K hK => ?_
 simp only [go_sem]
 refine hK _ _ ?_
 clear hK K
 refine b0i fun K1 hK1 => ?_
 have J2 : ∀ (o_3 : List (List Literal)) (v3 : AV) (t : Slots) (h : Heap), t 3 = v3 -> b2a h v3 1 (List.map b0t o_3) -> p83 o_3 = some r -> K1 t h := by
  intro o_3 v3 t h s3 ow_o3 hm0
  refine hK1 _ _ ?_
  unfold p83 at hm0
  refine b0b fun K hK => ?_
  simp only [go_sem, s3, b5r v3]
  refine hK _ _ ?_
  clear hK K
  simp only [b0x, b0y]
  obtain ⟨rfl, hne0⟩ := p9v hm0
  exact p9m (by simp only [go_sem]) (b3x ow_o3 (by intro j hj hl; first | rfl | simp only [go_sem, hl]) (by first | omega | exact Nat.le_refl _ | (simp only [go_sem, nxs] <;> omega))) hne0 (fun a => ⟨g1d a, b2j a⟩)
 simp only [b0u]
 obtain ⟨b3, hl3, hm0⟩ := b0g hm0
 refine b1j hl3 (fun | (o_3, i_4), t, h => ∃ v3 : AV, t 0 = .fs 1 (List.map b0t c) /\ t 3 = v3 /\ t 4 = I i_4 /\ b2a h v3 1 (List.map b0t o_3)) ?_ ?_
 ·exact ⟨(.v (.slice none 0 0)), s0, (by first | (simp only [go_sem]; done) | rfl), (by first | (simp only [go_sem]; done) | rfl), c0o⟩
 ·rintro ⟨o_3, i_4⟩ o t h ⟨v3, s0, s3, s4, ow_o3⟩ hm1 hb3
  simp only [p8w] at hm1
  rw [g4l]
  refine b0v ?_
  refine b0b fun K hK => ?_
  simp only [go_sem, s0, s4]
  refine hK _ _ ?_
  clear hK K
  refine b0i fun K4 hK4 => ?_
  simp only [go_sem]
  refine b0k (fun hc5 => ?_) (fun hc5 => ?_)
  ·rw [b0r hc5] at hm1
   simp only [b0s, b0f]
   refine hK4 _ _ ?_
   refine b0i fun K6 hK6 => ?_
   simp only [b0u]
   obtain ⟨x10, h_x10, hm1⟩ := b0g hm1
   have h_x100 := b05 h_x10
   have h_x101 := b06 h_x10
   obtain ⟨l11, h_l11, hm1⟩ := b0g hm1
   obtain ⟨l12, h_l12, hm1⟩ := b0g hm1
   refine b0b fun K hK => ?_
   simp only [go_sem, s0, s3, s4, b08 h_x10, h_x101, b5r v3]
   refine b3a (f := b3k) (l := ([])) (m := x10) ?_ ?_ ?_ ?_ h_l11 ?_
   ·exact (b2v (by simp only [go_sem]) (by simp only [go_sem]) (by simp only [go_sem]))
   ·exact b7j
   ·exact b7i
   ·exact (fun e => by cases e)
   simp only [go_sem]
   refine j3y (f := b0t) (l := o_3) (a := l11) (raw := [.rs (nxs h.nx) 0 (List.length l11)]) ?_ ?_ ?_ h_l12 ?_
   ·exact (b3x ow_o3 (by intro j hj hl; first | rfl | simp only [go_sem, hl]) (by first | omega | exact Nat.le_refl _ | (simp only [go_sem, nxs] <;> omega)))
   ·exact (by simp only [go_sem])
   ·exact (by first | exact b1w | exact b1y (by first | omega | (simp only [nxs] <;> omega)) | assumption | exact b1v (by assumption) (by first | omega | (simp only [go_sem, nxs] <;> omega)))
   simp only [go_sem]
   refine hK _ _ ?_
   clear hK K
   refine g9m ?_
   refine g9k (id := (nxs (nxs (nxs h.nx)))) (sz := 1) (f := b0t) (l := o_3) (a := l11) (raw := [.rs (nxs h.nx) 0 (List.length l11)]) (fun j => j == (nxs h.nx)) (by simp only [go_sem, b8s ow_o3]) (by first | (simp; done) | (simp [nxs] <;> omega)) (.cons (b29 (f := b3k) (l := l11) (id := (nxs h.nx)) (by rw [c3x (by simp)]; simp only [go_sem, b8s ow_o3]) (by first | rfl | simp only [go_sem, List.length_append, List.map_append]) c2w j7o) (.nil)) b2j g1d ?_
   rw [<- (c14 h_l12).2]
   simp only [b0s, b02, b0f]
   refine hK6 _ _ ?_
   refine b03 fun K hK => ?_
   simp only [go_sem, s4, not_false_eq_true]
   refine hK _ _ ?_
   clear hK K
   simp only [b0f]
   obtain rfl := Option.some.inj hm1
   refine ⟨_, rfl, ?_⟩
   exact ⟨(.rs (nxs (nxs (nxs h.nx))) 0 (List.length l12)), s0, (by first | (simp only [go_sem]; done) | rfl), (by first | (simp only [go_sem]; done) | rfl), (b2v (by simp only [go_sem]) (by first | rfl | simp only [go_sem]) (by simp only [go_sem]))⟩
  ·rw [b0q hc5] at hm1
   simp only [b09, b1b, b1a, b0f]
   obtain rfl := Option.some.inj hm1
   obtain rfl := hb3 _ rfl
   try dsimp only at hm0
   exact J2 o_3 v3 _ _ s3 ow_o3 hm0
theorem p9t (hf : Has O "newel/newellaw04.ControlFound" x_l04_ControlFound) (d28 : d0a O) (c3j : c5l O) (k_l04_works : d5r O) (p2z : p2p O) (c3h : c5j O) (p20 : p2q O) (p6z : p64 O) (p2k : p2r O) (p86 : p85 O) : p88 O := by
 intro m c run r hm0
 unfold p8r at hm0
 refine b1i hf rfl (b0a (.agg _ (b0a (b0c fun a _ => b0z a) (b0a (b0c fun a _ => b0z a) (b0a (b0c fun a _ => b1q a) (b0a (b0c fun a _ => b1s a) (b0a (b0c fun a _ => b1r a) b0j)))))) (b0a (.agg _ (b0a (b0c fun a _ => b2j a) (b0a (b0c fun a _ => b2j a) b0j))) (b0a (b0c fun a _ => b1t a) b0j))) (b0e _) ?_
 refine b1c (fun t h => t 0 = .agg [.fs 1 (List.map eS m.Inputs), .fs 1 (List.map eS m.Outputs), .fs 2 (List.map b0o m.Counters), .fs 2 (List.map b0p m.States), .fs 4 (List.map b0m m.Rules)] /\ t 1 = .agg [.fs 1 (List.map b0t c.Assume), .fs 1 (List.map b0t c.Never)] /\ t 2 = .fs 1 (List.map eI run)) ⟨rfl, rfl, rfl⟩ fun t h ⟨s0, s1, s2⟩ => ?_
 simp only [x_l04_ControlFound]
 refine b0b fun K hK => ?_
 simp only [go_sem, s0, s1]
 refine hK _ _ ?_
 clear hK K
 refine b0v ?_
 obtain ⟨y4, h_y4, hm0⟩ := b0g hm0
 obtain ⟨c6, h_c6, hm0⟩ := b0g hm0
 refine b2p (fun t h => t 2 = .fs 1 (List.map eI run) /\ t 3 = .fp [.fs 1 (List.map eS m.Inputs), .fs 1 (List.map eS m.Outputs), .fs 2 (List.map b0o m.Counters), .fs 2 (List.map b0p m.States), .fs 4 (List.map b0m m.Rules)] 0 /\ t 4 = .fp [.fs 1 (List.map b0t c.Assume), .fs 1 (List.map b0t c.Never)] 0 /\ t 38 = B (c6 || (decide (60 < (List.length run : Int))))) (fun K hK => ?_) ?_
 ·simp only [go_sem]
  refine b01 (d28 m _ h_y4) ?_
  simp only [go_sem]
  refine b0k (fun hg7 => ?_) (fun hg7 => ?_)
  ·simp only [hg7, eq_self, if_true] at h_c6
   obtain rfl := Option.some.inj h_c6
   simp only [go_sem, hg7]
   exact hK _ _ ⟨s2, (by first | (simp only [go_sem]; done) | rfl), (by first | (simp only [go_sem]; done) | rfl), (by first | (simp only [go_sem]; done) | rfl)⟩
  ·simp only [hg7, if_false, fT9] at h_c6
   obtain ⟨y5, h_y5, h_c6⟩ := b0g h_c6
   obtain rfl := Option.some.inj h_c6
   simp only [go_sem, hg7]
   refine b8l ?_ (c3j m ([c.Assume, c.Never]) _ h_y5) (.v _) ?_
   ·exact .cons (.refl _ (.agg _ (b0a (b0c fun a _ => b0z a) (b0a (b0c fun a _ => b0z a) (b0a (b0c fun a _ => b1q a) (b0a (b0c fun a _ => b1s a) (b0a (b0c fun a _ => b1r a) b0j))))))) (.cons (b29 (f := b4v) (l := ([c.Assume, c.Never])) (id := h.nx) (by simp only [go_sem]) (by first | rfl | simp only [go_sem, List.length_append, List.map_append]) b97 c7o) (.nil))
   simp only [go_sem, hg7]
   refine b0k (fun hg8 => ?_) (fun hg8 => ?_)
   ·simp only [go_sem, hg7, hg8]
    exact hK _ _ ⟨s2, (by first | (simp only [go_sem]; done) | rfl), (by first | (simp only [go_sem]; done) | rfl), (by first | (simp only [go_sem, hg8]; done) | rfl)⟩
   ·simp only [go_sem, s2, hg7, hg8]
    exact hK _ _ ⟨s2, (by first | (simp only [go_sem]; done) | rfl), (by first | (simp only [go_sem]; done) | rfl), (by first | (simp only [go_sem, hg8]; done) | rfl)⟩
 ·rintro t h ⟨s2, s3, s4, s38⟩
  refine b0i fun K9 hK9 => ?_
  simp only [go_sem, s38]
  refine b0k (fun hc10 => ?_) (fun hc10 => ?_)
  ·rw [b0r hc10] at hm0
   obtain ⟨y12, h_y12, hm0⟩ := b0g hm0
   refine b0b fun K hK => ?_
   simp only [go_sem]
   refine b01 (k_l04_works  _ h_y12) ?_
   simp only [go_sem]
   refine hK _ _ ?_
   clear hK K
   simp only [b0x, b1p, b0y]
   obtain rfl := Option.some.inj hm0
   exact b04 (by simp only [go_sem]) (b0e _)
  ·rw [b0q hc10] at hm0
   simp only [b0s, b0f]
   refine hK9 _ _ ?_
   obtain ⟨y14, h_y14, hm0⟩ := b0g hm0
   refine b0b fun K hK => ?_
   simp only [go_sem, s3, s4]
   refine b01 (p2z m c.Assume _ h_y14) ?_
   simp only [go_sem]
   refine hK _ _ ?_
   clear hK K
   refine b0v ?_
   obtain ⟨c18, h_c18, hm0⟩ := b0g hm0
   refine b2p (fun t h => t 2 = .fs 1 (List.map eI run) /\ t 3 = .fp [.fs 1 (List.map eS m.Inputs), .fs 1 (List.map eS m.Outputs), .fs 2 (List.map b0o m.Counters), .fs 2 (List.map b0p m.States), .fs 4 (List.map b0m m.Rules)] 0 /\ t 4 = .fp [.fs 1 (List.map b0t c.Assume), .fs 1 (List.map b0t c.Never)] 0 /\ t 7 = .fs 3 (List.map b1g y14.1) /\ t 60 = B c18) (fun K hK => ?_) ?_
   ·simp only [go_sem]
    refine b0k (fun hg19 => ?_) (fun hg19 => ?_)
    ·simp only [hg19, eq_self, if_true, Bool.true_or] at h_c18
     obtain rfl := Option.some.inj h_c18
     simp only [go_sem, hg19]
     exact hK _ _ ⟨s2, s3, s4, (by first | (simp only [go_sem]; done) | rfl), (by first | (simp only [go_sem]; done) | rfl)⟩
    ·simp only [go_sem, hg19]
     refine b0k (fun hg20 => ?_) (fun hg20 => ?_)
     ·simp only [hg19, hg20, eq_self, if_true, Bool.or_true] at h_c18
      obtain rfl := Option.some.inj h_c18
      simp only [go_sem, hg19, hg20]
      exact hK _ _ ⟨s2, s3, s4, (by first | (simp only [go_sem]; done) | rfl), (by first | (simp only [go_sem]; done) | rfl)⟩
     ·simp only [hg19, hg20, if_false, Bool.or_false, fT9] at h_c18
      obtain ⟨x17, h_x17, h_c18⟩ := b0g h_c18
      have h_x170 := b05 h_x17
      have h_x171 := b06 h_x17
      have hep2 : ∀ k : AV -> Prop, @b2g .neq (.flat [.i, .i, .i]) (.agg [I x17.State, I x17.Values.1, I x17.Values.2]) (.agg [I 0, I 0, I 0]) ⟨k⟩ = k (B (!(decide (x17 = (Place.mk 0 (0, 0)))))) := fun k => o5f x17 (Place.mk 0 (0, 0))
      obtain rfl := Option.some.inj h_c18
      have hep3 : ∀ k : AV -> Prop, @b2g .neq (.flat [.i, .i, .i]) (.agg [I x17.State, I x17.Values.1, I x17.Values.2]) (.agg [I 0, I 0, I 0]) ⟨k⟩ = k (B (!(decide (x17 = (Place.mk 0 (0, 0)))))) := fun k => o5f x17 (Place.mk 0 (0, 0))
      simp only [go_sem, b08 h_x17, hep2, hg19, hg20]
      exact hK _ _ ⟨s2, s3, s4, (by first | (simp only [go_sem]; done) | rfl), (by first | (simp only [go_sem]; done) | rfl)⟩
   ·rintro t h ⟨s2, s3, s4, s7, s60⟩
    refine b0i fun K21 hK21 => ?_
    simp only [go_sem, s60]
    refine b0k (fun hc22 => ?_) (fun hc22 => ?_)
    ·rw [b0r hc22] at hm0
     refine b0b fun K hK => ?_
     simp only [go_sem]
     refine hK _ _ ?_
     clear hK K
     simp only [b0x, b1p, b0y]
     obtain rfl := Option.some.inj hm0
     exact b04 (by simp only [go_sem]) (b0e _)
    ·rw [b0q hc22] at hm0
     simp only [b0s, b0f]
     refine hK21 _ _ ?_
     refine b0v ?_
     refine b0b fun K hK => ?_
     simp only [go_sem]
     refine hK _ _ ?_
     clear hK K
     refine b0i fun K23 hK23 => ?_
     have J24 : ∀ (t : Slots) (h : Heap), t 2 = .fs 1 (List.map eI run) -> t 3 = .fp [.fs 1 (List.map eS m.Inputs), .fs 1 (List.map eS m.Outputs), .fs 2 (List.map b0o m.Counters), .fs 2 (List.map b0p m.States), .fs 4 (List.map b0m m.Rules)] 0 -> t 4 = .fp [.fs 1 (List.map b0t c.Assume), .fs 1 (List.map b0t c.Never)] 0 -> t 7 = .fs 3 (List.map b1g y14.1) -> p8y m c run y14 = some r -> K23 t h := by
      intro t h s2 s3 s4 s7 hm0
      refine hK23 _ _ ?_
      unfold p8y at hm0
      obtain ⟨y26, h_y26, hm0⟩ := b0g hm0
      refine b0b fun K hK => ?_
      simp only [go_sem, s2, s3, s4]
      refine b01 (p2k m run c.Assume (-1) 0 _ h_y26) ?_
      simp only [go_sem]
      refine hK _ _ ?_
      clear hK K
      refine b0v ?_
      refine b0b fun K hK => ?_
      simp only [go_sem]
      refine hK _ _ ?_
      clear hK K
      refine b0i fun K27 hK27 => ?_
      have J28 : ∀ (t : Slots) (h : Heap), t 3 = .fp [.fs 1 (List.map eS m.Inputs), .fs 1 (List.map eS m.Outputs), .fs 2 (List.map b0o m.Counters), .fs 2 (List.map b0p m.States), .fs 4 (List.map b0m m.Rules)] 0 -> t 4 = .fp [.fs 1 (List.map b0t c.Assume), .fs 1 (List.map b0t c.Never)] 0 -> t 7 = .fs 3 (List.map b1g y14.1) -> p8t m c y14 = some r -> K27 t h := by
       intro t h s3 s4 s7 hm0
       refine hK27 _ _ ?_
       unfold p8t at hm0
       refine b0v ?_
       refine b2p (fun t h => t 3 = .fp [.fs 1 (List.map eS m.Inputs), .fs 1 (List.map eS m.Outputs), .fs 2 (List.map b0o m.Counters), .fs 2 (List.map b0p m.States), .fs 4 (List.map b0m m.Rules)] 0 /\ t 4 = .fp [.fs 1 (List.map b0t c.Assume), .fs 1 (List.map b0t c.Never)] 0 /\ t 7 = .fs 3 (List.map b1g y14.1) /\ t 169 = B (((decide ((List.length c.Assume : Int) = 0)) || (decide ((List.length c.Never : Int) = 0))) || (decide ((List.length c.Assume : Int) = 6)))) (fun K hK => ?_) ?_
       ·simp only [go_sem, s4]
        refine b0k (fun hg29 => ?_) (fun hg29 => ?_)
        ·simp only [go_sem, hg29]
         exact hK _ _ ⟨s3, s4, s7, (by first | (simp only [go_sem, hg29]; done) | rfl)⟩
        ·simp only [go_sem, s4, hg29]
         refine b0k (fun hg30 => ?_) (fun hg30 => ?_)
         ·simp only [go_sem, hg29, hg30]
          exact hK _ _ ⟨s3, s4, s7, (by first | (simp only [go_sem, hg29, hg30]; done) | rfl)⟩
         ·simp only [go_sem, s4, hg29, hg30]
          exact hK _ _ ⟨s3, s4, s7, (by first | (simp only [go_sem, hg29, hg30]; done) | rfl)⟩
       ·rintro t h ⟨s3, s4, s7, s169⟩
        refine b0i fun K31 hK31 => ?_
        simp only [go_sem, s169]
        refine b0k (fun hc32 => ?_) (fun hc32 => ?_)
        ·rw [b0r hc32] at hm0
         obtain ⟨y34, h_y34, hm0⟩ := b0g hm0
         refine b0b fun K hK => ?_
         simp only [go_sem]
         refine b01 (k_l04_works  _ h_y34) ?_
         simp only [go_sem]
         refine hK _ _ ?_
         clear hK K
         simp only [b0x, b1p, b0y]
         obtain rfl := Option.some.inj hm0
         exact b04 (by simp only [go_sem]) (b0e _)
        ·rw [b0q hc32] at hm0
         simp only [b0s, b0f]
         refine hK31 _ _ ?_
         obtain ⟨y38, h_y38, hm0⟩ := b0g hm0
         obtain ⟨x39, h_x39, hm0⟩ := b0g hm0
         have h_x390 := b05 h_x39
         have h_x391 := b06 h_x39
         obtain ⟨l40, h_l40, hm0⟩ := b0g hm0
         refine b0b fun K hK => ?_
         simp only [go_sem, s4]
         refine p9r (e := b0t) (l := y38) ?_ (b0a (b0c fun a _ => b2j a) b0j) (p86 c.Assume _ h_y38) ?_
         ·exact .cons (.refl _ (b0c fun a _ => b2j a)) (.nil)
         simp only [go_sem, s4, b08 h_x39]
         refine b3a (f := b0t) (l := y38) (m := ([x39])) ?_ ?_ ?_ ?_ h_l40 ?_
         ·exact (b2v (by simp only [go_sem]) (by simp only [go_sem]) (by simp only [go_sem]))
         ·exact (b4t (by simp only [go_sem]) (by simp only [go_sem]))
         ·exact (b4r (by first | exact b1w | exact b1y (by first | omega | (simp only [nxs] <;> omega)) | assumption | exact b1v (by assumption) (by first | omega | (simp only [go_sem, nxs] <;> omega))))
         ·exact (fun _ => by simp)
         simp only [go_sem]
         refine hK _ _ ?_
         clear hK K
         refine b0v ?_
         refine g9j (s := 18) (v := .rs (nxs (nxs h.nx)) 0 (List.length l40)) (f := b0t) (l := l40) (by simp only [go_sem]) (b2v (by simp only [go_sem]) (by simp only [go_sem]) (by simp only [go_sem])) b2j g1d ?_
         simp only [d75]
         obtain ⟨y42, h_y42, hm0⟩ := b0g hm0
         refine b0b fun K hK => ?_
         simp only [go_sem, s3]
         refine b01 (p2z m l40 _ h_y42) ?_
         simp only [go_sem]
         refine hK _ _ ?_
         clear hK K
         refine b0v ?_
         refine b0b fun K hK => ?_
         simp only [go_sem]
         refine hK _ _ ?_
         clear hK K
         refine b0i fun K43 hK43 => ?_
         simp only [go_sem]
         refine b0k (fun hc44 => ?_) (fun hc44 => ?_)
         ·rw [b0r hc44] at hm0
          refine b0b fun K hK => ?_
          simp only [go_sem]
          refine hK _ _ ?_
          clear hK K
          simp only [b0x, b1p, b0y]
          obtain rfl := Option.some.inj hm0
          exact b04 (by simp only [go_sem]) (b0e _)
         ·rw [b0q hc44] at hm0
          simp only [b0s, b0f]
          refine hK43 _ _ ?_
          refine b0v ?_
          refine b0b fun K hK => ?_
          simp only [go_sem]
          refine hK _ _ ?_
          clear hK K
          refine b0i fun K45 hK45 => ?_
          have J46 : ∀ (t : Slots) (h : Heap), p87 = some r -> K45 t h := by
           intro t h hm0
           refine hK45 _ _ ?_
           unfold p87 at hm0
           obtain ⟨y48, h_y48, hm0⟩ := b0g hm0
           refine b0b fun K hK => ?_
           simp only [go_sem]
           refine b01 (k_l04_works  _ h_y48) ?_
           simp only [go_sem]
           refine hK _ _ ?_
           clear hK K
           simp only [b0x, b0y]
           obtain rfl := Option.some.inj hm0
           exact b04 (by simp only [go_sem]) (b0e _)
          simp only [b0u]
          obtain ⟨b49, hl49, hm0⟩ := b0g hm0
          refine b1j hl49 (fun | i_21, t, h => t 7 = .fs 3 (List.map b1g y14.1) /\ t 19 = .fs 3 (List.map b1g y42.1) /\ t 21 = I i_21) ?_ ?_
          ·exact ⟨s7, (by first | (simp only [go_sem]; done) | rfl), (by first | (simp only [go_sem]; done) | rfl)⟩
          ·rintro i_21 o t h ⟨s7, s19, s21⟩ hm1 hb49
           simp only [p8s] at hm1
           rw [p9e]
           refine b0v ?_
           refine b0b fun K hK => ?_
           simp only [go_sem, s7, s21]
           refine hK _ _ ?_
           clear hK K
           refine b0i fun K50 hK50 => ?_
           simp only [go_sem]
           refine b0k (fun hc51 => ?_) (fun hc51 => ?_)
           ·rw [b0r hc51] at hm1
            simp only [b0s, b0f]
            refine hK50 _ _ ?_
            refine b0i fun K52 hK52 => ?_
            simp only [b0u]
            obtain ⟨x55, h_x55, hm1⟩ := b0g hm1
            have h_x550 := b05 h_x55
            have h_x551 := b06 h_x55
            obtain ⟨y56, h_y56, hm1⟩ := b0g hm1
            refine b0b fun K hK => ?_
            simp only [go_sem, s7, s19, s21, b08 h_x55, h_x551]
            refine b01 (p6z y42.1 x55 _ h_y56) ?_
            simp only [go_sem]
            refine hK _ _ ?_
            clear hK K
            simp only [go_sem]
            refine b0k (fun hc57 => ?_) (fun hc57 => ?_)
            ·rw [b0r hc57] at hm1
             refine b0b fun K hK => ?_
             simp only [go_sem]
             refine hK _ _ ?_
             clear hK K
             simp only [b0x, b1p, b2e, b0y]
             obtain rfl := Option.some.inj hm1
             obtain rfl := hb49 _ rfl
             try dsimp only at hm0
             obtain rfl := Option.some.inj hm0
             exact b04 (by simp only [go_sem]) (b0e _)
            ·rw [b0q hc57] at hm1
             simp only [b0s, b02, b0f]
             refine hK52 _ _ ?_
             refine b03 fun K hK => ?_
             simp only [go_sem, s21]
             refine hK _ _ ?_
             clear hK K
             simp only [b0f]
             obtain rfl := Option.some.inj hm1
             refine ⟨_, rfl, ?_⟩
             exact ⟨s7, s19, (by first | (simp only [go_sem]; done) | rfl)⟩
           ·rw [b0q hc51] at hm1
            simp only [b09, b1b, b1a, b0f]
            obtain rfl := Option.some.inj hm1
            obtain rfl := hb49 _ rfl
            try dsimp only at hm0
            exact J46  _ _  hm0
      simp only [b0u]
      obtain ⟨b59, hl59, hm0⟩ := b0g hm0
      refine b1j hl59 (fun | i_17, t, h => t 3 = .fp [.fs 1 (List.map eS m.Inputs), .fs 1 (List.map eS m.Outputs), .fs 2 (List.map b0o m.Counters), .fs 2 (List.map b0p m.States), .fs 4 (List.map b0m m.Rules)] 0 /\ t 4 = .fp [.fs 1 (List.map b0t c.Assume), .fs 1 (List.map b0t c.Never)] 0 /\ t 7 = .fs 3 (List.map b1g y14.1) /\ t 15 = .fs 3 (List.map b1g y26.1) /\ t 16 = B y26.2 /\ t 17 = I i_17) ?_ ?_
      ·exact ⟨s3, s4, s7, (by first | (simp only [go_sem]; done) | rfl), (by first | (simp only [go_sem]; done) | rfl), (by first | (simp only [go_sem]; done) | rfl)⟩
      ·rintro i_17 o t h ⟨s3, s4, s7, s15, s16, s17⟩ hm1 hb59
       simp only [p8m] at hm1
       rw [p9d]
       refine b0v ?_
       refine b2p (fun t h => t 3 = .fp [.fs 1 (List.map eS m.Inputs), .fs 1 (List.map eS m.Outputs), .fs 2 (List.map b0o m.Counters), .fs 2 (List.map b0p m.States), .fs 4 (List.map b0m m.Rules)] 0 /\ t 4 = .fp [.fs 1 (List.map b0t c.Assume), .fs 1 (List.map b0t c.Never)] 0 /\ t 7 = .fs 3 (List.map b1g y14.1) /\ t 15 = .fs 3 (List.map b1g y26.1) /\ t 16 = B y26.2 /\ t 17 = I i_17 /\ t 144 = B (y26.2 && (decide (i_17 < (List.length y26.1 : Int))))) (fun K hK => ?_) ?_
       ·simp only [go_sem, s16]
        refine b0k (fun hg60 => ?_) (fun hg60 => ?_)
        ·simp only [go_sem, s15, s17, hg60]
         exact hK _ _ ⟨s3, s4, s7, s15, s16, s17, (by first | (simp only [go_sem, hg60]; done) | rfl)⟩
        ·simp only [go_sem, hg60]
         exact hK _ _ ⟨s3, s4, s7, s15, s16, s17, (by first | (simp only [go_sem, hg60]; done) | rfl)⟩
       ·rintro t h ⟨s3, s4, s7, s15, s16, s17, s144⟩
        refine b0i fun K61 hK61 => ?_
        simp only [go_sem, s144]
        refine b0k (fun hc62 => ?_) (fun hc62 => ?_)
        ·rw [b0r hc62] at hm1
         simp only [b0s, b0f]
         refine hK61 _ _ ?_
         refine b0i fun K63 hK63 => ?_
         simp only [b0u]
         obtain ⟨x66, h_x66, hm1⟩ := b0g hm1
         have h_x660 := b05 h_x66
         have h_x661 := b06 h_x66
         obtain ⟨y67, h_y67, hm1⟩ := b0g hm1
         refine b0b fun K hK => ?_
         simp only [go_sem, s7, s15, s17, b08 h_x66]
         refine b01 (p6z y14.1 x66 _ h_y67) ?_
         simp only [go_sem]
         refine hK _ _ ?_
         clear hK K
         simp only [go_sem]
         refine b0k (fun hc68 => ?_) (fun hc68 => ?_)
         ·rw [b0r hc68] at hm1
          refine b0b fun K hK => ?_
          simp only [go_sem]
          refine hK _ _ ?_
          clear hK K
          simp only [b0x, b1p, b2e, b0y]
          obtain rfl := Option.some.inj hm1
          obtain rfl := hb59 _ rfl
          try dsimp only at hm0
          obtain rfl := Option.some.inj hm0
          exact b04 (by simp only [go_sem]) (b0e _)
         ·rw [b0q hc68] at hm1
          simp only [b0s, b02, b0f]
          refine hK63 _ _ ?_
          refine b03 fun K hK => ?_
          simp only [go_sem, s17]
          refine hK _ _ ?_
          clear hK K
          simp only [b0f]
          obtain rfl := Option.some.inj hm1
          refine ⟨_, rfl, ?_⟩
          exact ⟨s3, s4, s7, s15, s16, (by first | (simp only [go_sem]; done) | rfl)⟩
        ·rw [b0q hc62] at hm1
         simp only [b09, b1b, b1a, b0f]
         obtain rfl := Option.some.inj hm1
         obtain rfl := hb59 _ rfl
         try dsimp only at hm0
         exact J28  _ _ s3 s4 s7 hm0
     simp only [b0u]
     obtain ⟨b70, hl70, hm0⟩ := b0g hm0
     refine b1j hl70 (fun | i_9, t, h => t 2 = .fs 1 (List.map eI run) /\ t 3 = .fp [.fs 1 (List.map eS m.Inputs), .fs 1 (List.map eS m.Outputs), .fs 2 (List.map b0o m.Counters), .fs 2 (List.map b0p m.States), .fs 4 (List.map b0m m.Rules)] 0 /\ t 4 = .fp [.fs 1 (List.map b0t c.Assume), .fs 1 (List.map b0t c.Never)] 0 /\ t 7 = .fs 3 (List.map b1g y14.1) /\ t 9 = I i_9) ?_ ?_
     ·exact ⟨s2, s3, s4, s7, (by first | (simp only [go_sem]; done) | rfl)⟩
     ·rintro i_9 o t h ⟨s2, s3, s4, s7, s9⟩ hm1 hb70
      simp only [p8q] at hm1
      rw [p9c]
      refine b0v ?_
      refine b0b fun K hK => ?_
      simp only [go_sem, s7, s9]
      refine hK _ _ ?_
      clear hK K
      refine b0i fun K71 hK71 => ?_
      simp only [go_sem]
      refine b0k (fun hc72 => ?_) (fun hc72 => ?_)
      ·rw [b0r hc72] at hm1
       simp only [b0s, b0f]
       refine hK71 _ _ ?_
       refine b0i fun K73 hK73 => ?_
       have J74 : ∀ (t : Slots) (h : Heap), t 2 = .fs 1 (List.map eI run) -> t 3 = .fp [.fs 1 (List.map eS m.Inputs), .fs 1 (List.map eS m.Outputs), .fs 2 (List.map b0o m.Counters), .fs 2 (List.map b0p m.States), .fs 4 (List.map b0m m.Rules)] 0 -> t 4 = .fp [.fs 1 (List.map b0t c.Assume), .fs 1 (List.map b0t c.Never)] 0 -> t 7 = .fs 3 (List.map b1g y14.1) -> t 9 = I i_9 -> p8z i_9 = some o -> K73 t h := by
        intro t h s2 s3 s4 s7 s9 hm1
        refine hK73 _ _ ?_
        unfold p8z at hm1
        refine b03 fun K hK => ?_
        simp only [go_sem, s9]
        refine hK _ _ ?_
        clear hK K
        simp only [b0f]
        obtain rfl := Option.some.inj hm1
        refine ⟨_, rfl, ?_⟩
        exact ⟨s2, s3, s4, s7, (by first | (simp only [go_sem]; done) | rfl)⟩
       simp only [b0u]
       refine b0b fun K hK => ?_
       simp only [go_sem]
       refine hK _ _ ?_
       clear hK K
       refine b0v ?_
       refine b0b fun K hK => ?_
       simp only [go_sem]
       refine hK _ _ ?_
       clear hK K
       refine b0i fun K75 hK75 => ?_
       have J76 : ∀ (found_10 : Bool) (t : Slots) (h : Heap), t 2 = .fs 1 (List.map eI run) -> t 3 = .fp [.fs 1 (List.map eS m.Inputs), .fs 1 (List.map eS m.Outputs), .fs 2 (List.map b0o m.Counters), .fs 2 (List.map b0p m.States), .fs 4 (List.map b0m m.Rules)] 0 -> t 4 = .fp [.fs 1 (List.map b0t c.Assume), .fs 1 (List.map b0t c.Never)] 0 -> t 7 = .fs 3 (List.map b1g y14.1) -> t 9 = I i_9 -> t 10 = B found_10 -> p80 y14 i_9 found_10 = some o -> K75 t h := by
        intro found_10 t h s2 s3 s4 s7 s9 s10 hm1
        refine hK75 _ _ ?_
        unfold p80 at hm1
        obtain ⟨c84, h_c84, hm1⟩ := b0g hm1
        refine b2p (fun t h => t 2 = .fs 1 (List.map eI run) /\ t 3 = .fp [.fs 1 (List.map eS m.Inputs), .fs 1 (List.map eS m.Outputs), .fs 2 (List.map b0o m.Counters), .fs 2 (List.map b0p m.States), .fs 4 (List.map b0m m.Rules)] 0 /\ t 4 = .fp [.fs 1 (List.map b0t c.Assume), .fs 1 (List.map b0t c.Never)] 0 /\ t 7 = .fs 3 (List.map b1g y14.1) /\ t 9 = I i_9 /\ t 129 = B c84) (fun K hK => ?_) ?_
        ·simp only [go_sem, s10]
         refine b0k (fun hg85 => ?_) (fun hg85 => ?_)
         ·simp only [hg85, eq_self, if_true] at h_c84
          obtain rfl := Option.some.inj h_c84
          simp only [go_sem, hg85]
          exact hK _ _ ⟨s2, s3, s4, s7, s9, (by first | (simp only [go_sem]; done) | rfl)⟩
         ·simp only [hg85, if_false, fT9] at h_c84
          obtain ⟨l81, h_l81, h_c84⟩ := b0g h_c84
          obtain ⟨x82, h_x82, h_c84⟩ := b0g h_c84
          have h_x820 := b05 h_x82
          have h_x821 := b06 h_x82
          obtain ⟨y83, h_y83, h_c84⟩ := b0g h_c84
          obtain rfl := Option.some.inj h_c84
          simp only [go_sem, s7, s9, hg85]
          refine p9s (f := b1g) (l := y14.1) (lo := none) (hi := some i_9) h_l81 ?_
          simp only [go_sem, s7, s9, b08 h_x82, hg85]
          refine b01 (p6z l81 x82 _ h_y83) ?_
          simp only [go_sem, hg85]
          exact hK _ _ ⟨s2, s3, s4, s7, s9, (by first | (simp only [go_sem]; done) | rfl)⟩
        ·rintro t h ⟨s2, s3, s4, s7, s9, s129⟩
         simp only [go_sem, s129]
         refine b0k (fun hc86 => ?_) (fun hc86 => ?_)
         ·rw [b0r hc86] at hm1
          refine b0b fun K hK => ?_
          simp only [go_sem]
          refine hK _ _ ?_
          clear hK K
          simp only [b0x, b1p, b2e, b0y]
          obtain rfl := Option.some.inj hm1
          obtain rfl := hb70 _ rfl
          try dsimp only at hm0
          obtain rfl := Option.some.inj hm0
          exact b04 (by simp only [go_sem]) (b0e _)
         ·rw [b0q hc86] at hm1
          simp only [b0s, b02, b0f]
          exact J74  _ _ s2 s3 s4 s7 s9 hm1
       simp only [b0u]
       obtain ⟨b87, hl87, hm1⟩ := b0g hm1
       refine b1j hl87 (fun | (found_10, k_11), t, h => t 2 = .fs 1 (List.map eI run) /\ t 3 = .fp [.fs 1 (List.map eS m.Inputs), .fs 1 (List.map eS m.Outputs), .fs 2 (List.map b0o m.Counters), .fs 2 (List.map b0p m.States), .fs 4 (List.map b0m m.Rules)] 0 /\ t 4 = .fp [.fs 1 (List.map b0t c.Assume), .fs 1 (List.map b0t c.Never)] 0 /\ t 7 = .fs 3 (List.map b1g y14.1) /\ t 9 = I i_9 /\ t 10 = B found_10 /\ t 11 = I k_11) ?_ ?_
       ·exact ⟨s2, s3, s4, s7, s9, (by first | (simp only [go_sem]; done) | rfl), (by first | (simp only [go_sem]; done) | rfl)⟩
       ·rintro ⟨found_10, k_11⟩ o t h ⟨s2, s3, s4, s7, s9, s10, s11⟩ hm2 hb87
        simp only [l33] at hm2
        rw [p9b]
        refine b0v ?_
        refine b2p (fun t h => t 2 = .fs 1 (List.map eI run) /\ t 3 = .fp [.fs 1 (List.map eS m.Inputs), .fs 1 (List.map eS m.Outputs), .fs 2 (List.map b0o m.Counters), .fs 2 (List.map b0p m.States), .fs 4 (List.map b0m m.Rules)] 0 /\ t 4 = .fp [.fs 1 (List.map b0t c.Assume), .fs 1 (List.map b0t c.Never)] 0 /\ t 7 = .fs 3 (List.map b1g y14.1) /\ t 9 = I i_9 /\ t 10 = B found_10 /\ t 11 = I k_11 /\ t 73 = B ((decide (k_11 < i_9)) && (!found_10))) (fun K hK => ?_) ?_
        ·simp only [go_sem, s9, s11]
         refine b0k (fun hg88 => ?_) (fun hg88 => ?_)
         ·simp only [go_sem, s10, hg88]
          exact hK _ _ ⟨s2, s3, s4, s7, s9, s10, s11, (by first | (simp only [go_sem, hg88]; done) | rfl)⟩
         ·simp only [go_sem, hg88]
          exact hK _ _ ⟨s2, s3, s4, s7, s9, s10, s11, (by first | (simp only [go_sem, hg88]; done) | rfl)⟩
        ·rintro t h ⟨s2, s3, s4, s7, s9, s10, s11, s73⟩
         refine b0i fun K89 hK89 => ?_
         simp only [go_sem, s73]
         refine b0k (fun hc90 => ?_) (fun hc90 => ?_)
         ·rw [b0r hc90] at hm2
          simp only [b0s, b0f]
          refine hK89 _ _ ?_
          refine b0i fun K91 hK91 => ?_
          have J92 : ∀ (found_10_1 : Bool) (t : Slots) (h : Heap), t 2 = .fs 1 (List.map eI run) -> t 3 = .fp [.fs 1 (List.map eS m.Inputs), .fs 1 (List.map eS m.Outputs), .fs 2 (List.map b0o m.Counters), .fs 2 (List.map b0p m.States), .fs 4 (List.map b0m m.Rules)] 0 -> t 4 = .fp [.fs 1 (List.map b0t c.Assume), .fs 1 (List.map b0t c.Never)] 0 -> t 7 = .fs 3 (List.map b1g y14.1) -> t 9 = I i_9 -> t 10 = B found_10_1 -> t 11 = I k_11 -> p81 k_11 found_10_1 = some o -> K91 t h := by
           intro found_10_1 t h s2 s3 s4 s7 s9 s10 s11 hm2
           refine hK91 _ _ ?_
           unfold p81 at hm2
           refine b03 fun K hK => ?_
           simp only [go_sem, s11]
           refine hK _ _ ?_
           clear hK K
           simp only [b0f]
           obtain rfl := Option.some.inj hm2
           refine ⟨_, rfl, ?_⟩
           exact ⟨s2, s3, s4, s7, s9, s10, (by first | (simp only [go_sem]; done) | rfl)⟩
          simp only [b0u]
          refine b0b fun K hK => ?_
          simp only [go_sem]
          refine hK _ _ ?_
          clear hK K
          simp only [b0u]
          obtain ⟨b93, hl93, hm2⟩ := b0g hm2
          refine b1j hl93 (fun | (found_10_1, x_12), t, h => t 2 = .fs 1 (List.map eI run) /\ t 3 = .fp [.fs 1 (List.map eS m.Inputs), .fs 1 (List.map eS m.Outputs), .fs 2 (List.map b0o m.Counters), .fs 2 (List.map b0p m.States), .fs 4 (List.map b0m m.Rules)] 0 /\ t 4 = .fp [.fs 1 (List.map b0t c.Assume), .fs 1 (List.map b0t c.Never)] 0 /\ t 7 = .fs 3 (List.map b1g y14.1) /\ t 9 = I i_9 /\ t 10 = B found_10_1 /\ t 11 = I k_11 /\ t 12 = I x_12) ?_ ?_
          ·exact ⟨s2, s3, s4, s7, s9, s10, s11, (by first | (simp only [go_sem]; done) | rfl)⟩
          ·rintro ⟨found_10_1, x_12⟩ o t h ⟨s2, s3, s4, s7, s9, s10, s11, s12⟩ hm3 hb93
           simp only [p8p] at hm3
           rw [p9a]
           refine b0v ?_
           obtain ⟨q95, h_q95, hm3⟩ := b0g hm3
           refine b0b fun K hK => ?_
           simp only [go_sem, s3, s12, c21 h_q95]
           refine hK _ _ ?_
           clear hK K
           refine b0i fun K96 hK96 => ?_
           simp only [go_sem]
           refine b0k (fun hc97 => ?_) (fun hc97 => ?_)
           ·rw [b0r hc97] at hm3
            simp only [b0s, b0f]
            refine hK96 _ _ ?_
            refine b0i fun K98 hK98 => ?_
            have J99 : ∀ (found_10_2 : Bool) (t : Slots) (h : Heap), t 2 = .fs 1 (List.map eI run) -> t 3 = .fp [.fs 1 (List.map eS m.Inputs), .fs 1 (List.map eS m.Outputs), .fs 2 (List.map b0o m.Counters), .fs 2 (List.map b0p m.States), .fs 4 (List.map b0m m.Rules)] 0 -> t 4 = .fp [.fs 1 (List.map b0t c.Assume), .fs 1 (List.map b0t c.Never)] 0 -> t 7 = .fs 3 (List.map b1g y14.1) -> t 9 = I i_9 -> t 10 = B found_10_2 -> t 11 = I k_11 -> t 12 = I x_12 -> p8u x_12 found_10_2 = some o -> K98 t h := by
             intro found_10_2 t h s2 s3 s4 s7 s9 s10 s11 s12 hm3
             refine hK98 _ _ ?_
             unfold p8u at hm3
             refine b03 fun K hK => ?_
             simp only [go_sem, s12]
             refine hK _ _ ?_
             clear hK K
             simp only [b0f]
             obtain rfl := Option.some.inj hm3
             refine ⟨_, rfl, ?_⟩
             exact ⟨s2, s3, s4, s7, s9, s10, s11, (by first | (simp only [go_sem]; done) | rfl)⟩
            simp only [b0u]
            refine b0v ?_
            obtain ⟨x102, h_x102, hm3⟩ := b0g hm3
            have h_x1020 := b05 h_x102
            have h_x1021 := b06 h_x102
            obtain ⟨y103, h_y103, hm3⟩ := b0g hm3
            refine b0b fun K hK => ?_
            simp only [go_sem, s3, s4, s7, s11, s12, b08 h_x102]
            refine b01 (c3h m x102 x_12 c.Assume _ h_y103) ?_
            simp only [go_sem]
            refine hK _ _ ?_
            clear hK K
            refine b0i fun K104 hK104 => ?_
            simp only [go_sem]
            refine b0k (fun hc105 => ?_) (fun hc105 => ?_)
            ·rw [b0r hc105] at hm3
             simp only [b09, b1b, b1a, b0f]
             exact J99 found_10_1 _ _ s2 s3 s4 s7 s9 s10 s11 s12 hm3
            ·rw [b0q hc105] at hm3
             simp only [b0s, b0f]
             refine hK104 _ _ ?_
             obtain ⟨y107, h_y107, hm3⟩ := b0g hm3
             refine b0b fun K hK => ?_
             simp only [go_sem, s3, s7, s11, s12, b08 h_x102]
             refine b01 (p20 m x102 x_12 _ h_y107) ?_
             simp only [go_sem]
             refine hK _ _ ?_
             clear hK K
             obtain ⟨c113, h_c113, hm3⟩ := b0g hm3
             refine b9y (fun t h => t 2 = .fs 1 (List.map eI run) /\ t 3 = .fp [.fs 1 (List.map eS m.Inputs), .fs 1 (List.map eS m.Outputs), .fs 2 (List.map b0o m.Counters), .fs 2 (List.map b0p m.States), .fs 4 (List.map b0m m.Rules)] 0 /\ t 4 = .fp [.fs 1 (List.map b0t c.Assume), .fs 1 (List.map b0t c.Never)] 0 /\ t 7 = .fs 3 (List.map b1g y14.1) /\ t 9 = I i_9 /\ t 10 = B c113 /\ t 11 = I k_11 /\ t 12 = I x_12) (fun K hK => ?_) ?_
             ·simp only [go_sem, s10]
              refine b0k (fun hg114 => ?_) (fun hg114 => ?_)
              ·simp only [hg114, eq_self, if_true] at h_c113
               obtain rfl := Option.some.inj h_c113
               simp only [go_sem, hg114]
               exact hK _ _ ⟨s2, s3, s4, s7, s9, (by first | (simp only [go_sem]; done) | rfl), s11, s12⟩
              ·simp only [hg114, if_false, fT9] at h_c113
               obtain ⟨c112, h_c112, h_c113⟩ := b0g h_c113
               obtain rfl := Option.some.inj h_c113
               simp only [go_sem, hg114]
               refine b0k (fun hg115 => ?_) (fun hg115 => ?_)
               ·simp only [hg115, eq_self, if_true] at h_c112
                obtain ⟨x111, h_x111, h_c112⟩ := b0g h_c112
                have h_x1110 := b05 h_x111
                have h_x1111 := b06 h_x111
                have hep111 : ∀ k : AV -> Prop, @b2g .eql (.flat [.i, .i, .i]) (.agg [I y107.1.State, I y107.1.Values.1, I y107.1.Values.2]) (.agg [I x111.State, I x111.Values.1, I x111.Values.2]) ⟨k⟩ = k (B (decide ((Place.mk y107.1.State (y107.1.Values.1, y107.1.Values.2)) = x111))) := fun k => o5d (Place.mk y107.1.State (y107.1.Values.1, y107.1.Values.2)) x111
                obtain rfl := Option.some.inj h_c112
                have hep112 : ∀ k : AV -> Prop, @b2g .eql (.flat [.i, .i, .i]) (.agg [I y107.1.State, I y107.1.Values.1, I y107.1.Values.2]) (.agg [I x111.State, I x111.Values.1, I x111.Values.2]) ⟨k⟩ = k (B (decide ((Place.mk y107.1.State (y107.1.Values.1, y107.1.Values.2)) = x111))) := fun k => o5d (Place.mk y107.1.State (y107.1.Values.1, y107.1.Values.2)) x111
                simp only [go_sem, s7, s9, b08 h_x111, hep111, hg114, hg115]
                exact hK _ _ ⟨s2, s3, s4, s7, s9, (by first | (simp only [go_sem]; done) | rfl), s11, s12⟩
               ·simp only [hg115, if_false, fT9] at h_c112
                obtain rfl := Option.some.inj h_c112
                simp only [go_sem, hg114, hg115]
                exact hK _ _ ⟨s2, s3, s4, s7, s9, (by first | (simp only [go_sem]; done) | rfl), s11, s12⟩
             ·rintro t h ⟨s2, s3, s4, s7, s9, s10, s11, s12⟩
              simp only [b02, b0f]
              exact J99 c113 _ _ s2 s3 s4 s7 s9 s10 s11 s12 hm3
           ·rw [b0q hc97] at hm3
            simp only [b09, b1b, b1a, b02, b0f]
            obtain rfl := Option.some.inj hm3
            obtain rfl := hb93 _ rfl
            try dsimp only at hm2
            exact J92 found_10_1 _ _ s2 s3 s4 s7 s9 s10 s11 hm2
         ·rw [b0q hc90] at hm2
          simp only [b09, b1b, b1a, b0f]
          obtain rfl := Option.some.inj hm2
          obtain rfl := hb87 _ rfl
          try dsimp only at hm1
          exact J76 found_10 _ _ s2 s3 s4 s7 s9 s10 hm1
      ·rw [b0q hc72] at hm1
       simp only [b09, b1b, b1a, b0f]
       obtain rfl := Option.some.inj hm1
       obtain rfl := hb70 _ rfl
       try dsimp only at hm0
       exact J24  _ _ s2 s3 s4 s7 hm0
end Go.Nw.KM
