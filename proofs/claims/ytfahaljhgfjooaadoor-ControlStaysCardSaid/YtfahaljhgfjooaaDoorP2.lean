/- Lists of names put one behind the other: slices.Concat and slices.Grow, by hand. -/
import Derived.Test.YtfahaljhgfjooaaDoorKM
set_option linter.all false
namespace Go.Nw.KM
open Go.Nw.Ctl
set_option maxHeartbeats 4000000
variable {O : Orac} [MapsOk O]
theorem c64 (n : Int) : ∀ a ∈ [AV.v (.slice none 0 0), I n], Frz a := b0a (b0e _) (b0a (b0e _) b0j)
theorem j7a (hf : Has O "slices.Grow[[]string,string]" x_slices_Grow___string_string_) (n : Int) (h0 : 0 < n) (h1 : n * 16 <= 2 ^ 40) :
  O "slices.Grow[[]string,string]" [.v (.slice none 0 0), I n] (.rs 0 0 0) [(1, List.replicate n.toNat [.v (.string (ByteArray.mk #[]))])] := by
 refine c7b hf rfl (c64 n) ?_;refine b1c (fun t h => t 0 = .v (.slice none 0 0) /\ t 1 = I n) ⟨rfl, rfl⟩ fun t h hs => ?_;obtain ⟨s0, s1⟩ := hs;simp only [x_slices_Grow___string_string_];refine b0b fun K hK => ?_;simp only [go_sem];refine hK _ _ (b0v (b0b fun K hK => ?_));simp only [go_sem, s0, s1];refine hK _ _ (b0i fun K hK => ?_);simp only [go_sem];refine b0k (fun hc => ?_) (fun hc => ?_)
 ·have : n < 0 := of_decide_eq_true hc
  omega
 simp only [b0s, b02, b0f];refine hK _ _ (b0v (b0b fun K hK => ?_));simp only [go_sem, s0, s1];refine d19 ?_;simp only [go_sem, s0, s1];refine hK _ _ (b0v (b0b fun K hK => ?_))
 have e1 : wr (n - wr (0 - 0)) = n := by
  rw [b3t (n := (0 : Int) - 0) vf9 vf9, b3t vf9 vf9]; omega
 simp only [go_sem, s0, s1, e1];refine hK _ _ (b0i fun K hK => ?_);simp only [go_sem, s0, s1, e1];refine b0k (fun hc => ?_) (fun hc => ?_)
 ·rw [b5n];simp only [go_sem, s0, s1, e1];refine d19 ?_;simp only [go_sem, s0, s1, e1];refine j6x ?_;simp only [go_sem, s0, s1, e1];refine j3z h0 h1 ?_;simp only [go_sem, s0, s1, e1];refine j6y (n := 1) (rows := List.replicate n.toNat [.v (.string (ByteArray.mk #[]))]) vb9 ?_;simp only [go_sem, s0, s1, e1, b0f];refine hK _ _ (b0b fun K hK => ?_);simp only [go_sem];refine hK _ _ ?_;simp only [b0x, b0y];refine g9t (id := h.nx) vb9 vb9 fun r hr => ?_;obtain ⟨_, rfl⟩ := List.mem_replicate.1 hr;exact ⟨rfl, fun c hc => ⟨_, List.mem_singleton.1 hc⟩⟩
 ·have : ¬ 0 < n := of_decide_eq_false hc
  omega
theorem j7b (hf : Has O "slices.Grow[[]string,string]" x_slices_Grow___string_string_) :
  O "slices.Grow[[]string,string]" [.v (.slice none 0 0), I 0] (.v (.slice none 0 0)) [] := by
 refine c7b hf rfl (c64 0) ?_;refine b1c (fun t h => t 0 = .v (.slice none 0 0) /\ t 1 = I 0) ⟨rfl, rfl⟩ fun t h hs => ?_;obtain ⟨s0, s1⟩ := hs;simp only [x_slices_Grow___string_string_];refine b0b fun K hK => ?_;simp only [go_sem];refine hK _ _ (b0v (b0b fun K hK => ?_));simp only [go_sem, s0, s1];refine hK _ _ (b0i fun K hK => ?_);simp only [go_sem];refine b0k (fun hc => ?_) (fun hc => ?_)
 ·have : (0 : Int) < 0 := of_decide_eq_true hc
  omega
 simp only [b0s, b02, b0f];refine hK _ _ (b0v (b0b fun K hK => ?_));simp only [go_sem, s0, s1];refine d19 ?_;simp only [go_sem, s0, s1];refine hK _ _ (b0v (b0b fun K hK => ?_));have e1 : wr (0 - wr (0 - 0)) = 0 := by decide
 simp only [go_sem, s0, s1, e1];refine hK _ _ (b0i fun K hK => ?_);simp only [go_sem, s0, s1, e1];refine b0k (fun hc => ?_) (fun hc => ?_)
 ·have : (0 : Int) < 0 := of_decide_eq_true hc
  omega
 ·simp only [b0s, b02, b0f];refine hK _ _ (b0b fun K hK => ?_);simp only [go_sem, s0];refine hK _ _ ?_;simp only [b0x, b0y];exact b04 vb9 (b0e _)
theorem d3q (hf : Has O "slices.Concat[[]string,string]" x_slices_Concat___string_string_) (hg : Has O "slices.Grow[[]string,string]" x_slices_Grow___string_string_) : d0t O := by
 intro sl r hm;unfold c9i at hm;split at hm
 case isFalse => cases hm
 rename_i hc;obtain ⟨hc1, hc2, hc3⟩ := hc
 cases hm
 refine j04 hf rfl (b0a (b0c fun a _ => c65 a) b0j) g2n ?_;refine b1c (fun t h => t 0 = .fs 1 (List.map b4f sl)) rfl fun t h s0 => ?_;simp only [x_slices_Concat___string_string_];refine b0b fun K hK => ?_;simp only [go_sem];refine hK _ _ (b0b fun K hK => ?_);simp only [go_sem];refine hK _ _ (b0v (b0b fun K hK => ?_));simp only [go_sem, s0, List.length_map];refine hK _ _ (b0i fun K hK => ?_);simp only [b0u]
 have hle : ∀ i, (sl.take i).flatten.length <= sl.flatten.length := fun i => by
  have := congrArg (fun l => (List.flatten l).length) (List.take_append_drop i sl);simp only [List.flatten_append, List.length_append] at this;omega
 refine c2k (fun k t h => t 0 = .fs 1 (List.map b4f sl) /\ t 9 = .fs 1 (List.map b4f sl) /\ t 10 = I (sl.length : Int) /\ ∃ i : Nat, i <= sl.length /\ k = sl.length - i /\ t 11 = I (i : Int) /\ t 3 = I ((sl.take i).flatten.length : Int)) sl.length ?_ ?_
 ·exact ⟨by simp only [go_sem, s0], by simp only [go_sem, s0], by simp only [go_sem], 0, by omega, by omega, by simp only [go_sem]; rfl, by simp only [go_sem]; rfl⟩
 ·rintro k t h ⟨s0, s9, s10, i, hi, hk, s11, s3⟩;rw [d5n];refine b0b fun K2 hK2 => ?_;simp only [go_sem, s10, s11];refine hK2 _ _ (b0i fun K3 hK3 => ?_);simp only [go_sem];refine b0k (fun hb => ?_) (fun hb => ?_)
  ·simp only [b0s, b0f];refine hK3 _ _ (b0i fun K4 hK4 => ?_);simp only [b0u];have hlt : i < sl.length := by have := of_decide_eq_true hb; omega
   have hx : sl[i]? = some sl[i] := gG9 hlt;generalize sl[i] = x at hx;have h_x : get sl (i : Int) = some x := by unfold get; rw [if_pos vf9]; simpa using hx
   have hfl := c9m hx;have hlen : (sl.take (i + 1)).flatten.length = (sl.take i).flatten.length + x.length := by rw [hfl, List.length_append]
   have hb1 := hle (i + 1);refine b0b fun K5 hK5 => ?_;simp only [go_sem, s9, s11, b08 h_x, b3n h_x, b05 h_x, b06 h_x];refine hK5 _ _ (b0b fun K5 hK5 => ?_)
   have e1 : wr (((sl.take i).flatten.length : Int) + (x.length : Int)) = ((sl.take (i + 1)).flatten.length : Int) := by
    rw [b3t vf9 vf9]; omega
   simp only [go_sem, s3, List.length_map, e1];refine hK5 _ _ (b0b fun K5 hK5 => ?_);simp only [go_sem];refine hK5 _ _ ?_;simp only [go_sem];refine b0k (fun hd => ?_) (fun hd => ?_)
   ·have := of_decide_eq_true hd
    omega
   simp only [b0s, b02, b0f];refine hK4 _ _ ?_;rw [b5n];have e2 : wr ((i : Int) + 1) = ((i + 1 : Nat) : Int) := by rw [b3t vf9 vf9]; omega
   simp only [go_sem, s11, e2, b0f];exact ⟨k - 1, by omega, by simp only [go_sem, s0], by simp only [go_sem, s9], by simp only [go_sem, s10], i + 1, by omega, by omega, by simp only [go_sem], by simp only [go_sem]⟩
  ·have hge : sl.length <= i := by have := of_decide_eq_false hb; omega
   have hie : i = sl.length := by omega
   subst hie;simp only [b09, b1b, b1a, c0s, b02, b0f, Nat.reduceEqDiff, not_false_eq_true];refine hK _ _ (b0b fun K hK => ?_);simp only [go_sem, s3];rw [List.take_length];refine j4v (c64 _) (j7a hg _ vf9 vf9) (fun r hr => ?_) ?_
   ·obtain ⟨_, rfl⟩ := List.mem_replicate.1 hr;exact ⟨rfl, fun c hc => ⟨_, List.mem_singleton.1 hc⟩⟩
   simp only [go_sem];refine hK _ _ (b0v (b0b fun K hK => ?_));simp only [go_sem, s0, List.length_map];refine hK _ _ (b0i fun K hK => ?_);simp only [b0u];refine c2k (fun k t h => t 25 = .fs 1 (List.map b4f sl) /\ t 26 = I (sl.length : Int) /\ ∃ (i id : Nat) (es : List (List AV)), i <= sl.length /\ k = sl.length - i /\ t 27 = I (i : Int) /\ t 6 = .rs id 0 (List.length (sl.take i).flatten) /\ h.ob id = some (1, es) /\ id < h.nx /\ es.take (sl.take i).flatten.length = List.map eS (sl.take i).flatten /\ (sl.take i).flatten.length <= es.length /\ (0 < i -> es = List.map eS (sl.take i).flatten)) sl.length ?_ ?_
   ·exact ⟨by simp only [go_sem, s0], by simp only [go_sem], 0, h.nx, List.replicate (Int.toNat (sl.flatten.length : Int)) [.v (.string (ByteArray.mk #[]))], by omega, by omega, by simp only [go_sem]; rfl, by simp only [go_sem]; rfl, by simp only [go_sem], by simp only [go_sem], by simp, by simp, fun h => by omega⟩
   ·rintro k t h ⟨s25, s26, i, id, es, hi, hk, s27, s6, ho, hlt0, he, hel, hex⟩;rw [d5m];refine b0b fun K2 hK2 => ?_;simp only [go_sem, s26, s27];refine hK2 _ _ (b0i fun K3 hK3 => ?_);simp only [go_sem];refine b0k (fun hb => ?_) (fun hb => ?_)
    ·simp only [b0s, b0f];refine hK3 _ _ (b0i fun K4 hK4 => ?_);simp only [b0u];have hlt : i < sl.length := by have := of_decide_eq_true hb; omega
     have hx : sl[i]? = some sl[i] := gG9 hlt;generalize sl[i] = x at hx;have h_x : get sl (i : Int) = some x := by unfold get; rw [if_pos vf9]; simpa using hx
     have hfl := c9m hx;have hlen : (sl.take (i + 1)).flatten.length = (sl.take i).flatten.length + x.length := by rw [hfl, List.length_append]
     have hb1 := hle (i + 1);refine b0b fun K5 hK5 => ?_;simp only [go_sem, s25, s27, b08 h_x, b3n h_x, b05 h_x, b06 h_x];refine hK5 _ _ ?_;rw [b5n];simp only [go_sem, s6];refine j3v (f := eS) (r := (sl.take (i + 1)).flatten) ho he hel (by rw [hfl]; exact b9k vf9) ?_;simp only [go_sem, b02, b0f];refine hK4 _ _ ?_;rw [b5n];have e2 : wr ((i : Int) + 1) = ((i + 1 : Nat) : Int) := by rw [b3t vf9 vf9]; omega
     simp only [go_sem, s27, e2, b0f];exact ⟨k - 1, by omega, by simp only [go_sem, s25], by simp only [go_sem, s26], i + 1, h.nx, _, by omega, by omega, by simp only [go_sem], by simp only [go_sem], by simp only [go_sem], by simp only [go_sem], List.take_of_length_le (Nat.le_of_eq (List.length_map _)), Nat.le_of_eq (List.length_map _).symm, fun _ => rfl⟩
    ·have hge : sl.length <= i := by have := of_decide_eq_false hb; omega
     have hie : i = sl.length := by omega
     subst hie;simp only [b09, b1b, b1a, c0s, b02, b0f, Nat.reduceEqDiff, not_false_eq_true];refine hK _ _ (b0b fun K hK => ?_);rw [List.take_length] at s6 hex;simp only [go_sem, s6];refine hK _ _ ?_;simp only [b0x, b0y]
     have hpos : 0 < sl.length := by
      cases sl with
      | nil => simp at hc3
      | cons a l => simp
     rw [hex hpos] at ho;exact g9v (id := id) vb9 (by simp only [go_sem, ho]) g2n
theorem d3r (hf : Has O "slices.Concat[[]string,string]" x_slices_Concat___string_string_) (hg : Has O "slices.Grow[[]string,string]" x_slices_Grow___string_string_) : d0u O := by
 intro sl r hm;unfold c9j at hm;split at hm
 case isFalse => cases hm
 rename_i hc;obtain ⟨hc1, hc2⟩ := hc
 cases hm
 refine b1i hf rfl (b0a (b0c fun a _ => c65 a) b0j) (b0e _) ?_;refine b1c (fun t h => t 0 = .fs 1 (List.map b4f sl)) rfl fun t h s0 => ?_;simp only [x_slices_Concat___string_string_];refine b0b fun K hK => ?_;simp only [go_sem];refine hK _ _ (b0b fun K hK => ?_);simp only [go_sem];refine hK _ _ (b0v (b0b fun K hK => ?_));simp only [go_sem, s0, List.length_map];refine hK _ _ (b0i fun K hK => ?_);simp only [b0u]
 have hle : ∀ i, (sl.take i).flatten.length <= sl.flatten.length := fun i => by
  have := congrArg (fun l => (List.flatten l).length) (List.take_append_drop i sl);simp only [List.flatten_append, List.length_append] at this;omega
 refine c2k (fun k t h => t 0 = .fs 1 (List.map b4f sl) /\ t 9 = .fs 1 (List.map b4f sl) /\ t 10 = I (sl.length : Int) /\ ∃ i : Nat, i <= sl.length /\ k = sl.length - i /\ t 11 = I (i : Int) /\ t 3 = I ((sl.take i).flatten.length : Int)) sl.length ?_ ?_
 ·exact ⟨by simp only [go_sem, s0], by simp only [go_sem, s0], by simp only [go_sem], 0, by omega, by omega, by simp only [go_sem]; rfl, by simp only [go_sem]; rfl⟩
 ·rintro k t h ⟨s0, s9, s10, i, hi, hk, s11, s3⟩;rw [d5n];refine b0b fun K2 hK2 => ?_;simp only [go_sem, s10, s11];refine hK2 _ _ (b0i fun K3 hK3 => ?_);simp only [go_sem];refine b0k (fun hb => ?_) (fun hb => ?_)
  ·simp only [b0s, b0f];refine hK3 _ _ (b0i fun K4 hK4 => ?_);simp only [b0u];have hlt : i < sl.length := by have := of_decide_eq_true hb; omega
   have hx : sl[i]? = some sl[i] := gG9 hlt;generalize sl[i] = x at hx;have h_x : get sl (i : Int) = some x := by unfold get; rw [if_pos vf9]; simpa using hx
   have hfl := c9m hx;have hlen : (sl.take (i + 1)).flatten.length = (sl.take i).flatten.length + x.length := by rw [hfl, List.length_append]
   have hb1 := hle (i + 1);refine b0b fun K5 hK5 => ?_;simp only [go_sem, s9, s11, b08 h_x, b3n h_x, b05 h_x, b06 h_x];refine hK5 _ _ (b0b fun K5 hK5 => ?_)
   have e1 : wr (((sl.take i).flatten.length : Int) + (x.length : Int)) = ((sl.take (i + 1)).flatten.length : Int) := by
    rw [b3t vf9 vf9]; omega
   simp only [go_sem, s3, List.length_map, e1];refine hK5 _ _ (b0b fun K5 hK5 => ?_);simp only [go_sem];refine hK5 _ _ ?_;simp only [go_sem];refine b0k (fun hd => ?_) (fun hd => ?_)
   ·have := of_decide_eq_true hd
    omega
   simp only [b0s, b02, b0f];refine hK4 _ _ ?_;rw [b5n];have e2 : wr ((i : Int) + 1) = ((i + 1 : Nat) : Int) := by rw [b3t vf9 vf9]; omega
   simp only [go_sem, s11, e2, b0f];exact ⟨k - 1, by omega, by simp only [go_sem, s0], by simp only [go_sem, s9], by simp only [go_sem, s10], i + 1, by omega, by omega, by simp only [go_sem], by simp only [go_sem]⟩
  ·have hge : sl.length <= i := by have := of_decide_eq_false hb; omega
   have hie : i = sl.length := by omega
   subst hie;simp only [b09, b1b, b1a, c0s, b02, b0f, Nat.reduceEqDiff, not_false_eq_true];refine hK _ _ (b0b fun K hK => ?_);simp only [go_sem, s3];rw [List.take_length];rw [hc1];refine b01 ⟨j7b hg, c64 _, b0e _⟩ ?_;simp only [go_sem];refine hK _ _ (b0v (b0b fun K hK => ?_));simp only [go_sem, s0, List.length_map];refine hK _ _ (b0i fun K hK => ?_);simp only [b0u];refine c2k (fun k t h => t 25 = .fs 1 (List.map b4f sl) /\ t 26 = I (sl.length : Int) /\ ∃ i : Nat, i <= sl.length /\ k = sl.length - i /\ t 27 = I (i : Int) /\ t 6 = .v (.slice none 0 0)) sl.length ?_ ?_
   ·exact ⟨by simp only [go_sem, s0], by simp only [go_sem], 0, by omega, by omega, by simp only [go_sem]; rfl, by simp only [go_sem]⟩
   ·rintro k t h ⟨s25, s26, i, hi, hk, s27, s6⟩;rw [d5m];refine b0b fun K2 hK2 => ?_;simp only [go_sem, s26, s27];refine hK2 _ _ (b0i fun K3 hK3 => ?_);simp only [go_sem];refine b0k (fun hb => ?_) (fun hb => ?_)
    ·simp only [b0s, b0f];refine hK3 _ _ (b0i fun K4 hK4 => ?_);simp only [b0u];have hlt : i < sl.length := by have := of_decide_eq_true hb; omega
     have hx : sl[i]? = some sl[i] := gG9 hlt;generalize sl[i] = x at hx;have h_x : get sl (i : Int) = some x := by unfold get; rw [if_pos vf9]; simpa using hx
     have hfl := c9m hx;have hlen : (sl.take (i + 1)).flatten.length = (sl.take i).flatten.length + x.length := by rw [hfl, List.length_append]
     have hb1 := hle (i + 1);have hx0 : x = [] := List.eq_nil_of_length_eq_zero vf9;subst hx0;refine b0b fun K5 hK5 => ?_;simp only [go_sem, s25, s27, b08 h_x, b3n h_x, b05 h_x, b06 h_x];refine hK5 _ _ ?_;rw [b5n];simp only [go_sem, s6];refine j3x ?_;simp only [go_sem, b02, b0f];refine hK4 _ _ ?_;have e2 : wr ((i : Int) + 1) = ((i + 1 : Nat) : Int) := by rw [b3t vf9 vf9]; omega
     refine b03 fun K6 hK6 => ?_;simp only [go_sem, s27, e2];refine hK6 _ _ ?_;simp only [b0f];exact ⟨k - 1, by omega, by simp only [go_sem, s25], by simp only [go_sem, s26], i + 1, by omega, by omega, by simp only [go_sem], by simp only [go_sem]⟩
    ·have hge : sl.length <= i := by have := of_decide_eq_false hb; omega
     have hie : i = sl.length := by omega
     subst hie;simp only [b09, b1b, b1a, c0s, b02, b0f, Nat.reduceEqDiff, not_false_eq_true];refine hK _ _ (b0b fun K hK => ?_);simp only [go_sem, s6];refine hK _ _ ?_;simp only [b0x, b0y];exact b04 vb9 (b0e _)
end Go.Nw.KM
