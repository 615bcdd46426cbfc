/- Plain laws on the models. -/
import Derived.Test.YtinmifhfkkjccaaXM
import Derived.Test.YtinmifhfkkjccaaNwMaps
set_option linter.all false
namespace Go.Nw.XM
open Go.Nw.Tp3
set_option maxHeartbeats 4000000
variable {O : Orac} [MapsOk O]
theorem c64 (n : Int) : ∀ a ∈ [AV.v (.slice none 0 0), I n], Frz a := b0a (b0e _) (b0a (b0e _) b0j)
theorem j7a (hf : Has O "slices.Grow[[]string,string]" x_slices_Grow___string_string_) (n : Int) (h0 : 0 < n) (h1 : n * 16 <= 2 ^ 40) :
  O "slices.Grow[[]string,string]" [.v (.slice none 0 0), I n] (.rs 0 0 0) [(1, List.replicate n.toNat [.v (.string (ByteArray.mk #[]))])] := by
 refine c7b hf rfl (c64 n) ?_
 refine b1c (fun t h => t 0 = .v (.slice none 0 0) /\ t 1 = I n) ⟨rfl, rfl⟩ fun t h hs => ?_
 obtain ⟨s0, s1⟩ := hs
 simp only [x_slices_Grow___string_string_]
 refine b0b fun K hK => ?_
 simp only [go_sem]
 refine hK _ _ (b0v (b0b fun K hK => ?_))
 simp only [go_sem, s0, s1]
 refine hK _ _ (b0i fun K hK => ?_)
 simp only [go_sem]
 refine b0k (fun hc => ?_) (fun hc => ?_)
 ·have : n < 0 := of_decide_eq_true hc
  omega
 simp only [b0s, b02, b0f]
 refine hK _ _ (b0v (b0b fun K hK => ?_))
 simp only [go_sem, s0, s1]
 refine d19 ?_
 simp only [go_sem, s0, s1]
 refine hK _ _ (b0v (b0b fun K hK => ?_))
 have e1 : wr (n - wr (0 - 0)) = n := by
  rw [b3t (n := (0 : Int) - 0) (by omega) (by omega), b3t (by omega) (by omega)]; omega
 simp only [go_sem, s0, s1, e1]
 refine hK _ _ (b0i fun K hK => ?_)
 simp only [go_sem, s0, s1, e1]
 refine b0k (fun hc => ?_) (fun hc => ?_)
 ·rw [b5n]
  simp only [go_sem, s0, s1, e1]
  refine d19 ?_
  simp only [go_sem, s0, s1, e1]
  refine j6x ?_
  simp only [go_sem, s0, s1, e1]
  refine j3z h0 h1 ?_
  simp only [go_sem, s0, s1, e1]
  refine j6y (n := 1) (rows := List.replicate n.toNat [.v (.string (ByteArray.mk #[]))]) (by simp only [go_sem]) ?_
  simp only [go_sem, s0, s1, e1, b0f]
  refine hK _ _ (b0b fun K hK => ?_)
  simp only [go_sem]
  refine hK _ _ ?_
  simp only [b0x, b0y]
  refine g9t (id := h.nx) (by simp only [go_sem]) (by simp only [go_sem]) fun r hr => ?_
  obtain ⟨_, rfl⟩ := List.mem_replicate.1 hr
  exact ⟨rfl, fun c hc => ⟨_, List.mem_singleton.1 hc⟩⟩
 ·have : ¬ 0 < n := of_decide_eq_false hc
  omega
theorem j7b (hf : Has O "slices.Grow[[]string,string]" x_slices_Grow___string_string_) :
  O "slices.Grow[[]string,string]" [.v (.slice none 0 0), I 0] (.v (.slice none 0 0)) [] := by
 refine c7b hf rfl (c64 0) ?_
 refine b1c (fun t h => t 0 = .v (.slice none 0 0) /\ t 1 = I 0) ⟨rfl, rfl⟩ fun t h hs => ?_
 obtain ⟨s0, s1⟩ := hs
 simp only [x_slices_Grow___string_string_]
 refine b0b fun K hK => ?_
 simp only [go_sem]
 refine hK _ _ (b0v (b0b fun K hK => ?_))
 simp only [go_sem, s0, s1]
 refine hK _ _ (b0i fun K hK => ?_)
 simp only [go_sem]
 refine b0k (fun hc => ?_) (fun hc => ?_)
 ·have : (0 : Int) < 0 := of_decide_eq_true hc
  omega
 simp only [b0s, b02, b0f]
 refine hK _ _ (b0v (b0b fun K hK => ?_))
 simp only [go_sem, s0, s1]
 refine d19 ?_
 simp only [go_sem, s0, s1]
 refine hK _ _ (b0v (b0b fun K hK => ?_))
 have e1 : wr (0 - wr (0 - 0)) = 0 := by decide
 simp only [go_sem, s0, s1, e1]
 refine hK _ _ (b0i fun K hK => ?_)
 simp only [go_sem, s0, s1, e1]
 refine b0k (fun hc => ?_) (fun hc => ?_)
 ·have : (0 : Int) < 0 := of_decide_eq_true hc
  omega
 ·simp only [b0s, b02, b0f]
  refine hK _ _ (b0b fun K hK => ?_)
  simp only [go_sem, s0]
  refine hK _ _ ?_
  simp only [b0x, b0y]
  exact b04 (by simp only [go_sem]) (b0e _)
theorem d3q (hf : Has O "slices.Concat[[]string,string]" x_slices_Concat___string_string_) (hg : Has O "slices.Grow[[]string,string]" x_slices_Grow___string_string_) : d0t O := by
 intro sl r hm
 unfold c9i at hm
 split at hm
 case isFalse => cases hm
 rename_i hc
 obtain ⟨hc1, hc2, hc3⟩ := hc
 cases hm
 refine j04 hf rfl (b0a (b0c fun a _ => c65 a) b0j) g2n ?_
 refine b1c (fun t h => t 0 = .fs 1 (List.map b4f sl)) rfl fun t h s0 => ?_
 simp only [x_slices_Concat___string_string_]
 refine b0b fun K hK => ?_
 simp only [go_sem]
 refine hK _ _ (b0b fun K hK => ?_)
 simp only [go_sem]
 refine hK _ _ (b0v (b0b fun K hK => ?_))
 simp only [go_sem, s0, List.length_map]
 refine hK _ _ (b0i fun K hK => ?_)
 simp only [b0u]
 have hle : ∀ i, (sl.take i).flatten.length <= sl.flatten.length := fun i => by
  have := congrArg (fun l => (List.flatten l).length) (List.take_append_drop i sl)
  simp only [List.flatten_append, List.length_append] at this
  omega
 refine c2k (fun k t h => t 0 = .fs 1 (List.map b4f sl) /\ t 9 = .fs 1 (List.map b4f sl) /\ t 10 = I (sl.length : Int) /\ ∃ i : Nat, i <= sl.length /\ k = sl.length - i /\ t 11 = I (i : Int) /\ t 3 = I ((sl.take i).flatten.length : Int)) sl.length ?_ ?_
 ·exact ⟨by simp only [go_sem, s0], by simp only [go_sem, s0], by simp only [go_sem], 0, by omega, by omega, by simp only [go_sem]; rfl, by simp only [go_sem]; rfl⟩
 ·rintro k t h ⟨s0, s9, s10, i, hi, hk, s11, s3⟩
  rw [d5n]
  refine b0b fun K2 hK2 => ?_
  simp only [go_sem, s10, s11]
  refine hK2 _ _ (b0i fun K3 hK3 => ?_)
  simp only [go_sem]
  refine b0k (fun hb => ?_) (fun hb => ?_)
  ·simp only [b0s, b0f]
   refine hK3 _ _ (b0i fun K4 hK4 => ?_)
   simp only [b0u]
   have hlt : i < sl.length := by have := of_decide_eq_true hb; omega
   have hx : sl[i]? = some sl[i] := gG9 hlt
   generalize sl[i] = x at hx
   have h_x : get sl (i : Int) = some x := by unfold get; rw [if_pos (by omega)]; simpa using hx
   have hfl := c9m hx
   have hlen : (sl.take (i + 1)).flatten.length = (sl.take i).flatten.length + x.length := by rw [hfl, List.length_append]
   have hb1 := hle (i + 1)
   refine b0b fun K5 hK5 => ?_
   simp only [go_sem, s9, s11, b08 h_x, b3n h_x, b05 h_x, b06 h_x]
   refine hK5 _ _ (b0b fun K5 hK5 => ?_)
   have e1 : wr (((sl.take i).flatten.length : Int) + (x.length : Int)) = ((sl.take (i + 1)).flatten.length : Int) := by
    rw [b3t (by omega) (by omega)]; omega
   simp only [go_sem, s3, List.length_map, e1]
   refine hK5 _ _ (b0b fun K5 hK5 => ?_)
   simp only [go_sem]
   refine hK5 _ _ ?_
   simp only [go_sem]
   refine b0k (fun hd => ?_) (fun hd => ?_)
   ·have := of_decide_eq_true hd
    omega
   simp only [b0s, b02, b0f]
   refine hK4 _ _ ?_
   rw [b5n]
   have e2 : wr ((i : Int) + 1) = ((i + 1 : Nat) : Int) := by rw [b3t (by omega) (by omega)]; omega
   simp only [go_sem, s11, e2, b0f]
   exact ⟨k - 1, by omega, by simp only [go_sem, s0], by simp only [go_sem, s9], by simp only [go_sem, s10], i + 1, by omega, by omega, by simp only [go_sem], by simp only [go_sem]⟩
  ·have hge : sl.length <= i := by have := of_decide_eq_false hb; omega
   have hie : i = sl.length := by omega
   subst hie
   simp only [b09, b1b, b1a, c0s, b02, b0f, Nat.reduceEqDiff, not_false_eq_true]
   refine hK _ _ (b0b fun K hK => ?_)
   simp only [go_sem, s3]
   rw [List.take_length]
   refine j4v (c64 _) (j7a hg _ (by omega) (by omega)) (fun r hr => ?_) ?_
   ·obtain ⟨_, rfl⟩ := List.mem_replicate.1 hr
    exact ⟨rfl, fun c hc => ⟨_, List.mem_singleton.1 hc⟩⟩
   simp only [go_sem]
   refine hK _ _ (b0v (b0b fun K hK => ?_))
   simp only [go_sem, s0, List.length_map]
   refine hK _ _ (b0i fun K hK => ?_)
   simp only [b0u]
   refine c2k (fun k t h => t 25 = .fs 1 (List.map b4f sl) /\ t 26 = I (sl.length : Int) /\ ∃ (i id : Nat) (es : List (List AV)), i <= sl.length /\ k = sl.length - i /\ t 27 = I (i : Int) /\ t 6 = .rs id 0 (List.length (sl.take i).flatten) /\ h.ob id = some (1, es) /\ id < h.nx /\ es.take (sl.take i).flatten.length = List.map eS (sl.take i).flatten /\ (sl.take i).flatten.length <= es.length /\ (0 < i -> es = List.map eS (sl.take i).flatten)) sl.length ?_ ?_
   ·exact ⟨by simp only [go_sem, s0], by simp only [go_sem], 0, h.nx, List.replicate (Int.toNat (sl.flatten.length : Int)) [.v (.string (ByteArray.mk #[]))], by omega, by omega, by simp only [go_sem]; rfl, by simp only [go_sem]; rfl, by simp only [go_sem], by simp only [go_sem], by simp, by simp, fun h => by omega⟩
   ·rintro k t h ⟨s25, s26, i, id, es, hi, hk, s27, s6, ho, hlt0, he, hel, hex⟩
    rw [d5m]
    refine b0b fun K2 hK2 => ?_
    simp only [go_sem, s26, s27]
    refine hK2 _ _ (b0i fun K3 hK3 => ?_)
    simp only [go_sem]
    refine b0k (fun hb => ?_) (fun hb => ?_)
    ·simp only [b0s, b0f]
     refine hK3 _ _ (b0i fun K4 hK4 => ?_)
     simp only [b0u]
     have hlt : i < sl.length := by have := of_decide_eq_true hb; omega
     have hx : sl[i]? = some sl[i] := gG9 hlt
     generalize sl[i] = x at hx
     have h_x : get sl (i : Int) = some x := by unfold get; rw [if_pos (by omega)]; simpa using hx
     have hfl := c9m hx
     have hlen : (sl.take (i + 1)).flatten.length = (sl.take i).flatten.length + x.length := by rw [hfl, List.length_append]
     have hb1 := hle (i + 1)
     refine b0b fun K5 hK5 => ?_
     simp only [go_sem, s25, s27, b08 h_x, b3n h_x, b05 h_x, b06 h_x]
     refine hK5 _ _ ?_
     rw [b5n]
     simp only [go_sem, s6]
     refine j3v (f := eS) (r := (sl.take (i + 1)).flatten) ho he hel (by rw [hfl]; exact b9k (by omega)) ?_
     simp only [go_sem, b02, b0f]
     refine hK4 _ _ ?_
     rw [b5n]
     have e2 : wr ((i : Int) + 1) = ((i + 1 : Nat) : Int) := by rw [b3t (by omega) (by omega)]; omega
     simp only [go_sem, s27, e2, b0f]
     exact ⟨k - 1, by omega, by simp only [go_sem, s25], by simp only [go_sem, s26], i + 1, h.nx, _, by omega, by omega, by simp only [go_sem], by simp only [go_sem], by simp only [go_sem], by simp only [go_sem], List.take_of_length_le (Nat.le_of_eq (List.length_map _)), Nat.le_of_eq (List.length_map _).symm, fun _ => rfl⟩
    ·have hge : sl.length <= i := by have := of_decide_eq_false hb; omega
     have hie : i = sl.length := by omega
     subst hie
     simp only [b09, b1b, b1a, c0s, b02, b0f, Nat.reduceEqDiff, not_false_eq_true]
     refine hK _ _ (b0b fun K hK => ?_)
     rw [List.take_length] at s6 hex
     simp only [go_sem, s6]
     refine hK _ _ ?_
     simp only [b0x, b0y]
     have hpos : 0 < sl.length := by
      cases sl with
      | nil => simp at hc3
      | cons a l => simp
     rw [hex hpos] at ho
     exact g9v (id := id) (by simp only [go_sem]) (by simp only [go_sem, ho]) g2n
theorem d3r (hf : Has O "slices.Concat[[]string,string]" x_slices_Concat___string_string_) (hg : Has O "slices.Grow[[]string,string]" x_slices_Grow___string_string_) : d0u O := by
 intro sl r hm
 unfold c9j at hm
 split at hm
 case isFalse => cases hm
 rename_i hc
 obtain ⟨hc1, hc2⟩ := hc
 cases hm
 refine b1i hf rfl (b0a (b0c fun a _ => c65 a) b0j) (b0e _) ?_
 refine b1c (fun t h => t 0 = .fs 1 (List.map b4f sl)) rfl fun t h s0 => ?_
 simp only [x_slices_Concat___string_string_]
 refine b0b fun K hK => ?_
 simp only [go_sem]
 refine hK _ _ (b0b fun K hK => ?_)
 simp only [go_sem]
 refine hK _ _ (b0v (b0b fun K hK => ?_))
 simp only [go_sem, s0, List.length_map]
 refine hK _ _ (b0i fun K hK => ?_)
 simp only [b0u]
 have hle : ∀ i, (sl.take i).flatten.length <= sl.flatten.length := fun i => by
  have := congrArg (fun l => (List.flatten l).length) (List.take_append_drop i sl)
  simp only [List.flatten_append, List.length_append] at this
  omega
 refine c2k (fun k t h => t 0 = .fs 1 (List.map b4f sl) /\ t 9 = .fs 1 (List.map b4f sl) /\ t 10 = I (sl.length : Int) /\ ∃ i : Nat, i <= sl.length /\ k = sl.length - i /\ t 11 = I (i : Int) /\ t 3 = I ((sl.take i).flatten.length : Int)) sl.length ?_ ?_
 ·exact ⟨by simp only [go_sem, s0], by simp only [go_sem, s0], by simp only [go_sem], 0, by omega, by omega, by simp only [go_sem]; rfl, by simp only [go_sem]; rfl⟩
 ·rintro k t h ⟨s0, s9, s10, i, hi, hk, s11, s3⟩
  rw [d5n]
  refine b0b fun K2 hK2 => ?_
  simp only [go_sem, s10, s11]
  refine hK2 _ _ (b0i fun K3 hK3 => ?_)
  simp only [go_sem]
  refine b0k (fun hb => ?_) (fun hb => ?_)
  ·simp only [b0s, b0f]
   refine hK3 _ _ (b0i fun K4 hK4 => ?_)
   simp only [b0u]
   have hlt : i < sl.length := by have := of_decide_eq_true hb; omega
   have hx : sl[i]? = some sl[i] := gG9 hlt
   generalize sl[i] = x at hx
   have h_x : get sl (i : Int) = some x := by unfold get; rw [if_pos (by omega)]; simpa using hx
   have hfl := c9m hx
   have hlen : (sl.take (i + 1)).flatten.length = (sl.take i).flatten.length + x.length := by rw [hfl, List.length_append]
   have hb1 := hle (i + 1)
   refine b0b fun K5 hK5 => ?_
   simp only [go_sem, s9, s11, b08 h_x, b3n h_x, b05 h_x, b06 h_x]
   refine hK5 _ _ (b0b fun K5 hK5 => ?_)
   have e1 : wr (((sl.take i).flatten.length : Int) + (x.length : Int)) = ((sl.take (i + 1)).flatten.length : Int) := by
    rw [b3t (by omega) (by omega)]; omega
   simp only [go_sem, s3, List.length_map, e1]
   refine hK5 _ _ (b0b fun K5 hK5 => ?_)
   simp only [go_sem]
   refine hK5 _ _ ?_
   simp only [go_sem]
   refine b0k (fun hd => ?_) (fun hd => ?_)
   ·have := of_decide_eq_true hd
    omega
   simp only [b0s, b02, b0f]
   refine hK4 _ _ ?_
   rw [b5n]
   have e2 : wr ((i : Int) + 1) = ((i + 1 : Nat) : Int) := by rw [b3t (by omega) (by omega)]; omega
   simp only [go_sem, s11, e2, b0f]
   exact ⟨k - 1, by omega, by simp only [go_sem, s0], by simp only [go_sem, s9], by simp only [go_sem, s10], i + 1, by omega, by omega, by simp only [go_sem], by simp only [go_sem]⟩
  ·have hge : sl.length <= i := by have := of_decide_eq_false hb; omega
   have hie : i = sl.length := by omega
   subst hie
   simp only [b09, b1b, b1a, c0s, b02, b0f, Nat.reduceEqDiff, not_false_eq_true]
   refine hK _ _ (b0b fun K hK => ?_)
   simp only [go_sem, s3]
   rw [List.take_length]
   rw [hc1]
   refine b01 ⟨j7b hg, c64 _, b0e _⟩ ?_
   simp only [go_sem]
   refine hK _ _ (b0v (b0b fun K hK => ?_))
   simp only [go_sem, s0, List.length_map]
   refine hK _ _ (b0i fun K hK => ?_)
   simp only [b0u]
   refine c2k (fun k t h => t 25 = .fs 1 (List.map b4f sl) /\ t 26 = I (sl.length : Int) /\ ∃ i : Nat, i <= sl.length /\ k = sl.length - i /\ t 27 = I (i : Int) /\ t 6 = .v (.slice none 0 0)) sl.length ?_ ?_
   ·exact ⟨by simp only [go_sem, s0], by simp only [go_sem], 0, by omega, by omega, by simp only [go_sem]; rfl, by simp only [go_sem]⟩
   ·rintro k t h ⟨s25, s26, i, hi, hk, s27, s6⟩
    rw [d5m]
    refine b0b fun K2 hK2 => ?_
    simp only [go_sem, s26, s27]
    refine hK2 _ _ (b0i fun K3 hK3 => ?_)
    simp only [go_sem]
    refine b0k (fun hb => ?_) (fun hb => ?_)
    ·simp only [b0s, b0f]
     refine hK3 _ _ (b0i fun K4 hK4 => ?_)
     simp only [b0u]
     have hlt : i < sl.length := by have := of_decide_eq_true hb; omega
     have hx : sl[i]? = some sl[i] := gG9 hlt
     generalize sl[i] = x at hx
     have h_x : get sl (i : Int) = some x := by unfold get; rw [if_pos (by omega)]; simpa using hx
     have hfl := c9m hx
     have hlen : (sl.take (i + 1)).flatten.length = (sl.take i).flatten.length + x.length := by rw [hfl, List.length_append]
     have hb1 := hle (i + 1)
     have hx0 : x = [] := List.eq_nil_of_length_eq_zero (by omega)
     subst hx0
     refine b0b fun K5 hK5 => ?_
     simp only [go_sem, s25, s27, b08 h_x, b3n h_x, b05 h_x, b06 h_x]
     refine hK5 _ _ ?_
     rw [b5n]
     simp only [go_sem, s6]
     refine j3x ?_
     simp only [go_sem, b02, b0f]
     refine hK4 _ _ ?_
     have e2 : wr ((i : Int) + 1) = ((i + 1 : Nat) : Int) := by rw [b3t (by omega) (by omega)]; omega
     refine b03 fun K6 hK6 => ?_
     simp only [go_sem, s27, e2]
     refine hK6 _ _ ?_
     simp only [b0f]
     exact ⟨k - 1, by omega, by simp only [go_sem, s25], by simp only [go_sem, s26], i + 1, by omega, by omega, by simp only [go_sem], by simp only [go_sem]⟩
    ·have hge : sl.length <= i := by have := of_decide_eq_false hb; omega
     have hie : i = sl.length := by omega
     subst hie
     simp only [b09, b1b, b1a, c0s, b02, b0f, Nat.reduceEqDiff, not_false_eq_true]
     refine hK _ _ (b0b fun K hK => ?_)
     simp only [go_sem, s6]
     refine hK _ _ ?_
     simp only [b0x, b0y]
     exact b04 (by simp only [go_sem]) (b0e _)
end Go.Nw.XM
namespace Go.Nw.XM
def wl_0 : List ByteArray := [ByteArray.mk #[97, 110, 121], ByteArray.mk #[116, 111], ByteArray.mk #[122, 101, 114, 111], ByteArray.mk #[109, 111, 114, 101], ByteArray.mk #[108, 101, 115, 115], ByteArray.mk #[105, 102], ByteArray.mk #[121, 101, 115], ByteArray.mk #[110, 111]]
def b2b (n low high : Int) : Bool := decide (low <= n) && decide (n <= high)
end Go.Nw.XM
namespace Go.Nw
section
variable {κ ν : Type} [DecidableEq κ]
theorem c0k : ∀ {l : List (κ × ν)} {k : κ} {i : Nat}, b2u l k i = none ↔ k ∉ l.map (·.1)
 | [], k, i => by simp [b2u]
 | p :: l, k, i => by
  simp only [b2u, List.map_cons, List.mem_cons, not_or]
  by_cases h : k = p.1
  ·simp [h]
  ·simp only [h, if_false, not_false_eq_true, true_and]; exact c0k
theorem c7w : ∀ {l : List (κ × ν)} {k : κ} {i j : Nat} {v : ν}, b2u l k i = some (j, v) -> ∃ d, j = i + d /\ l[d]? = some (k, v)
 | [], k, i, j, v, h => by simp [b2u] at h
 | p :: l, k, i, j, v, h => by
  simp only [b2u] at h
  split at h
  ·rename_i e
   simp only [iE9, Prod.mk.injEq] at h
   exact ⟨0, by omega, by obtain ⟨_, rfl⟩ := h; subst e; rfl⟩
  ·obtain ⟨d, h1, h2⟩ := c7w h
   exact ⟨d + 1, by omega, by simpa using h2⟩
theorem j78 {l : List (κ × ν)} {k : κ} : b6m l k = true ↔ k ∈ l.map (·.1) := by
 unfold b6m b7g
 cases h : b2u l k 0 with
 | none => simpa using c0k.1 h
 | some p =>
  obtain ⟨d, _, h2⟩ := c7w (v := p.2) (j := p.1) h
  simp only [Option.map_some, Option.isSome_some, true_iff]
  exact List.mem_map.2 ⟨_, mG9 h2, rfl⟩
theorem g1w {l : List (κ × ν)} {k : κ} {v : ν} (h : k ∉ l.map (·.1)) : b3w l k v = l ++ [(k, v)] := by
 unfold b3w; rw [c0k.2 h]
theorem g1o {l : List (κ × ν)} {k : κ} {z : ν} (h : k ∉ l.map (·.1)) : b2w l k z = z := by
 unfold b2w b7g; rw [c0k.2 h]; rfl
theorem g1n {l : List (κ × ν)} {k : κ} {z : ν} (h : k ∈ l.map (·.1)) : ∃ (d : Nat), l[d]? = some (k, b2w l k z) := by
 unfold b2w b7g
 cases hm : b2u l k 0 with
 | none => exact absurd h (c0k.1 hm)
 | some p =>
  obtain ⟨d, _, h2⟩ := c7w (v := p.2) (j := p.1) hm
  exact ⟨d, h2⟩
theorem j79 {l m : List (κ × ν)} {k : κ} : ∀ {i : Nat}, k ∉ l.map (·.1) -> b2u (l ++ m) k i = b2u m k (i + l.length) := by
 induction l with
 | nil => intro i _; simp
 | cons p l ih =>
  intro i h
  simp only [List.map_cons, List.mem_cons, not_or] at h
  simp only [List.cons_append, b2u, h.1, if_false, List.length_cons]
  rw [ih h.2]; congr 1; omega
theorem g1p : ∀ {l : List (κ × ν)} {k : κ} {i d : Nat} {u v : ν}, b2u l k i = some (i + d, u) -> b2u (l.set d (k, v)) k i = some (i + d, v)
 | [], k, i, d, u, v, h => by simp [b2u] at h
 | p :: l, k, i, d, u, v, h => by
  simp only [b2u] at h
  split at h
  ·rename_i e
   simp only [iE9, Prod.mk.injEq] at h
   have : d = 0 := by omega
   subst this
   simp [b2u]
  ·rename_i e
   obtain ⟨d', h1, _⟩ := c7w h
   obtain ⟨d, rfl⟩ : ∃ e, d = e + 1 := ⟨d - 1, by omega⟩
   simp only [List.set_cons_succ, b2u, e, if_false]
   have := g1p (l := l) (k := k) (i := i + 1) (d := d) (u := u) (v := v) (by rw [h]; congr 2; omega)
   rw [this]; congr 2; omega
theorem j77 {l : List (κ × ν)} {k : κ} {v z : ν} : b2w (b3w l k v) k z = v := by
 unfold b3w
 cases h : b2u l k 0 with
 | none =>
  simp only
  unfold b2w b7g
  rw [j79 (c0k.1 h)]
  simp [b2u]
 | some p =>
  obtain ⟨j, u⟩ := p
  simp only
  have := g1p (i := 0) (d := j) (v := v) (by rw [Nat.zero_add]; exact h)
  unfold b2w b7g
  rw [this]; rfl
theorem j76 {l : List (κ × ν)} {k : κ} {v z : ν} {j : Nat} (hn : (l.map (·.1)).Nodup) (h : l[j]? = some (k, v)) : b2w l k z = v := by
 obtain ⟨d, hd⟩ := g1n (z := z) (List.mem_map.2 ⟨_, mG9 h, rfl⟩ : k ∈ l.map (·.1))
 have h1 : (l.map (·.1))[d]? = some k := by rw [List.getElem?_map, hd]; rfl
 have h2 : (l.map (·.1))[j]? = some k := by rw [List.getElem?_map, h]; rfl
 have hlt1 := (gS9.1 h1).1
 have hlt2 := (gS9.1 h2).1
 have e : d = j := (List.getElem?_inj hlt1 hn).1 (by rw [h1, h2])
 subst e
 rw [h] at hd
 simp only [iE9, Prod.mk.injEq, true_and] at hd
 exact hd.symm
end
end Go.Nw
