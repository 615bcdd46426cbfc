/- Own maps, typed: as lists of keys with what is laid there. -/
import Derived.Test.YtfahaljhgfjooaaDoorNwWcall
import Derived.Test.YtfahaljhgfjooaaDoorNwMap
set_option linter.all false
namespace Go.Nw
section
variable {κ ν : Type} [DecidableEq κ]
def b2i : List (κ × ν) -> κ -> Nat -> Option (Nat × ν)
 | [], _, _ => none
 | p :: l, k, i => if k = p.1 then some (i, p.2) else b2i l k (i + 1)
def b7p (l : List (κ × ν)) (k : κ) : Option ν := (b2i l k 0).map (·.2)
def b2x (l : List (κ × ν)) (k : κ) (z : ν) : ν := (b7p l k).getD z
def d6i (l : List (κ × ν)) (k : κ) : Bool := (b7p l k).isSome
def b4c (l : List (κ × ν)) (k : κ) (v : ν) : List (κ × ν) := match b2i l k 0 with | some (i, _) => l.set i (k, v) | none => l ++ [(k, v)]
def eM (fk : κ -> Value) (fv : ν -> Value) (p : κ × ν) : List AV := [.v (fv p.2), .v (fk p.1)]
def vI (n : Int) : Value := .int .i64 n
def vB (b : Bool) : Value := .bool b
def vS (s : ByteArray) : Value := .string s
theorem c9v {str : Bool} {fk : κ -> Value} {fv : ν -> Value} (hk : ∀ a b, b3t str (fk a) (fk b) = some (decide (a = b))) (k : κ) : ∀ (l : List (κ × ν)) (i : Nat),
  b28 str (fk k) (l.map (eM fk fv)) i = some ((b2i l k i).map fun p => (p.1, fv p.2))
 | [], i => rfl
 | p :: l, i => by
  simp only [List.map_cons, eM, b28, hk, b2i]
  by_cases h : k = p.1
  ·simp [h]
  ·simp only [h, decide_false, if_false]
   exact c9v hk k l (i + 1)
theorem j06 {two : Bool} {fv : ν -> Value} {z : ν} (l : List (κ × ν)) (k : κ) : c4h two (fv z) ((b2i l k 0).map fun p => (p.1, fv p.2)) = if two then .tup [.v (fv (b2x l k z)), .v (.bool (d6i l k))] else .v (fv (b2x l k z)) := by
 unfold b2x d6i b7p
 cases b2i l k 0 <;> cases two <;> rfl
theorem j08 {fk : κ -> Value} {fv : ν -> Value} (l : List (κ × ν)) (k : κ) (v : ν) : b5m (l.map (eM fk fv)) (fk k) (fv v) ((b2i l k 0).map fun p => (p.1, fv p.2)) = (b4c l k v).map (eM fk fv) := by
 unfold b4c
 cases b2i l k 0 with
 | none => simp [b5m, eM]
 | some p => simp [b5m, eM, List.map_set]
end
section
variable {O : Orac} [MapsOk O] {h : Heap} {k : AV -> Heap -> Prop} {κ ν : Type} [DecidableEq κ] {fk : κ -> Value} {fv : ν -> Value} {str : Bool}
theorem g83 {e : List (List AV)} (he : e = []) (hk : k (.mp h.nx) (h.new (0, e))) : @b5i O "#mk" [] h ⟨k⟩ := by
 subst he; exact b8h (k := .mk) rfl rfl hk
theorem d47 {f : String} {id : Nat} {key : AV} {n : Int} {l : List (κ × ν)} {x : κ} {z : ν} (hm : b2d f = some (.look str false)) (hkk : ∀ a b, b3t str (fk a) (fk b) = some (decide (a = b))) (hv : b6f n key = some (fk x)) (ho : h.ob id = some (0, l.map (eM fk fv)))
  (hk : k (.v (fv (b2x l x z))) h) : @b5i O f [.mp id, key, .v (fv z), I n] h ⟨k⟩ := by
 refine b8h hm (r := .v (fv (b2x l x z))) (h' := h) ?_ hk
 simp only [b1z, ho, bS9, hv, if_true, c9v hkk, Option.map_some, j06, fT9, if_false]
theorem g84 {f : String} {id : Nat} {key : AV} {n : Int} {l : List (κ × ν)} {x : κ} {v : ν} (hm : b2d f = some (.put str)) (hkk : ∀ a b, b3t str (fk a) (fk b) = some (decide (a = b))) (hv : b6f n key = some (fk x)) (ho : h.ob id = some (0, l.map (eM fk fv)))
  (hk : k .dead (h.upd id (some (0, (b4c l x v).map (eM fk fv))))) : @b5i O f [.mp id, key, .v (fv v), I n] h ⟨k⟩ := by
 refine b8h hm (r := .dead) (h' := h.upd id (some (0, (b4c l x v).map (eM fk fv)))) ?_ hk
 simp only [b1z, ho, bS9, hv, if_true, c9v hkk, Option.map_some, j08]
theorem g03 {a b : ByteArray} (h : a.toList = b.toList) : a = b := by
 rw [Go.ByteArray.toList_eq, Go.ByteArray.toList_eq] at h
 cases a; cases b; simp only [ByteArray.mk.injEq]; exact Array.ext' h
theorem c7f (a b : ByteArray) : (a.toList == b.toList) = decide (a = b) := by
 by_cases h : a = b
 ·rw [decide_eq_true h, h]; exact beq_self_eq_true _
 ·rw [decide_eq_false h, beq_eq_false_iff_ne]
  exact fun e => h (g03 e)
theorem g4m (a b : ByteArray) : feq [.s] [vS a] [vS b] = if a.toList == b.toList then some true else some false := rfl
theorem c9n (a b : ByteArray) : b3t true (vS a) (vS b) = some (decide (a = b)) := by
 rw [show b3t true (vS a) (vS b) = feq [.s] [vS a] [vS b] from rfl, g4m, c7f]
 cases decide (a = b) <;> rfl
theorem g82 {s : ByteArray} (hk : k (.fs 1 (s.data.toList.map fun b => [.v (.int .u8 b.toNat)])) h) : @b5i O "#sb" [.v (.string s)] h ⟨k⟩ :=
 b8h (k := .sb) rfl rfl hk
end
end Go.Nw
namespace Go.Nw
def b29 (s : ByteArray) : List Int := s.data.toList.map fun b => (b.toNat : Int)
theorem d0m (s : ByteArray) : (b29 s).length = s.size := by unfold b29; rw [List.length_map]; rfl
def b97 (x : Int) : List AV := [.v (.int .u8 x)]
def eS (x : ByteArray) : List AV := [.v (.string x)]
theorem b0y (x : ByteArray) : ∀ c ∈ eS x, Frz c := b0a (b0d _) b0o
theorem c0x (x : ByteArray) : (eS x).length = 1 := rfl
theorem j71 {l : List ByteArray} {n : Nat} {v : ByteArray} : (List.map eS l).set n [.v (.string v)] = List.map eS (l.set n v) := by rw [List.map_set]; rfl
section
variable {O : Orac} {h : Heap} {k : AV -> Heap -> Prop} {k1 : AV -> Prop} {t : Slots} {d : Option Nat} {g : Nat} {b0 : Bool} {r : List XO} {K : Slots -> Heap -> Prop}
theorem g85 [MapsOk O] {s : ByteArray} (hk : k (.fs 1 (List.map b97 (b29 s))) h) : @b5i O "#sb" [.v (.string s)] h ⟨k⟩ :=
 g82 (by simpa [b29, List.map_map, Function.comp_def, b97] using hk)
theorem d34 {e : EqK} {a b : ByteArray} : @b1w .eql e (.v (.string a)) (.v (.string b)) ⟨k1⟩ = k1 (B (decide (a = b))) := by
 show b1j _ _ _ _ _ = _
 simp only [b1j, b2s, b9x, c7f, Option.map_some, iE9, exists_eq_left']
theorem d35 {e : EqK} {a b : ByteArray} : @b1w .neq e (.v (.string a)) (.v (.string b)) ⟨k1⟩ = k1 (B (!(decide (a = b)))) := by
 show b1j _ _ _ _ _ = _
 simp only [b1j, b2s, b9x, c7f, Option.map_some, iE9, exists_eq_left']
theorem g7w {x} : b0c O (⟨d, none, .len true x⟩ :: r) K t h = @iop O (.len true x) t h ⟨fun v h' => b0c O r K (b0g t d v) h'⟩ := b2b rfl
theorem g8y {x} : b0c O (⟨d, some (g, b0), .len true x⟩ :: r) K t h = @b1x (t g) b0 ⟨@iop O (.len true x) (upd t g (B b0)) h ⟨fun v h' => b0c O r K (b0g (upd t g (B b0)) d v) h'⟩⟩ ⟨b0c O r K (b0g (upd t g (B (!b0))) d U) h⟩ ⟨b0c O r K (b0g t d U) h⟩ := b15 rfl
def c4a (x : AV) [k : K1 Int] : Prop := ∃ s, x = .v (.string s) /\ k.k s.size
theorem g9y {x} : @iop O (.len true x) t h ⟨k⟩ = @c4a (evT t x) ⟨fun n => k (I n) h⟩ := by
 simp only [iop, op1, c4a, eff, if_true]
 generalize evT t x = y
 apply propext; constructor
 ·rintro ⟨r, h', he, hk⟩
  split at he
  ·cases he; exact ⟨_, rfl, hk⟩
  ·cases he
 ·rintro ⟨s, rfl, hk⟩; exact ⟨_, _, rfl, hk⟩
theorem d5r {s : ByteArray} {k : Int -> Prop} : @c4a (.v (.string s)) ⟨k⟩ = k s.size := by
 simp only [c4a, AV.v.injEq, Value.string.injEq, exists_eq_left']
theorem g7k {x i} : b0c O (⟨d, none, .ixS x i⟩ :: r) K t h = @iop O (.ixS x i) t h ⟨fun v h' => b0c O r K (b0g t d v) h'⟩ := b2b rfl
theorem g8m {x i} : b0c O (⟨d, some (g, b0), .ixS x i⟩ :: r) K t h = @b1x (t g) b0 ⟨@iop O (.ixS x i) (upd t g (B b0)) h ⟨fun v h' => b0c O r K (b0g (upd t g (B b0)) d v) h'⟩⟩ ⟨b0c O r K (b0g (upd t g (B (!b0))) d U) h⟩ ⟨b0c O r K (b0g t d U) h⟩ := b15 rfl
def c8g (x i : AV) [k : K1 Int] : Prop := ∃ s kd n b, x = .v (.string s) /\ i = .v (.int kd n) /\ get (b29 s) n = some b /\ k.k b
theorem g9m {x i} : @iop O (.ixS x i) t h ⟨k⟩ = @c8g (evT t x) (evT t i) ⟨fun n => k (.v (.int .u8 n)) h⟩ := by
 simp only [iop, op1, c8g, eff]
 generalize evT t x = y
 generalize evT t i = z
 apply propext; constructor
 ·rintro ⟨r, h', he, hk⟩
  split at he
  ·rename_i s kd n
   split at he
   ·rename_i h0
    cases hb : s.data.toList[n.toNat]? with
    | none => simp [hb] at he
    | some b =>
     simp only [hb, Option.map_some, iE9, Prod.mk.injEq] at he
     obtain ⟨rfl, rfl⟩ := he
     exact ⟨s, kd, n, _, rfl, rfl, by simp [get, h0, b29, List.getElem?_map, hb], hk⟩
   ·cases he
  ·cases he
 ·rintro ⟨s, kd, n, b, rfl, rfl, hb, hk⟩
  have h0 := b06 hb
  have h1 := b6c hb
  simp only [b29, List.getElem?_map, mE9] at h1
  obtain ⟨c, hc, rfl⟩ := h1
  exact ⟨_, _, by simp only [if_pos h0, hc, Option.map_some], hk⟩
theorem d4z {s : ByteArray} {kd : IntKind} {n b : Int} {k : Int -> Prop} (h : get (b29 s) n = some b) : @c8g (.v (.string s)) (.v (.int kd n)) ⟨k⟩ = k b := by
 apply propext; constructor
 ·rintro ⟨s', kd', n', b', e1, e2, h', hk⟩
  cases e1; cases e2; rw [h] at h'; cases h'; exact hk
 ·exact fun hk => ⟨s, kd, n, b, rfl, rfl, h, hk⟩
theorem c3n : b3i [] [] [] = some true := rfl
theorem b3c {ks : List FK} {a b : Int} {xs ys : List AV} {c : Bool} (h : b3i ks xs ys = some c) : b3i (.i :: ks) (I a :: xs) (I b :: ys) = some (decide (a = b) && c) := by
 by_cases e : a = b <;> simp [b3i, e, h]
theorem d3n {ks : List FK} {xs ys : List AV} {c d : Bool} (hl : xs.length = ks.length) (hm : ys.length = ks.length) (h : b3i ks xs ys = some c) (e : c = d) : @b1w .eql (.flat ks) (.agg xs) (.agg ys) ⟨k1⟩ = k1 (B d) := by
 show b1j _ _ _ _ _ = _
 subst e
 simp only [b1j, b2s, b2l, hl, hm, and_self, if_true, h, Option.map_some, iE9, exists_eq_left']
theorem d3w {ks : List FK} {xs ys : List AV} {c d : Bool} (hl : xs.length = ks.length) (hm : ys.length = ks.length) (h : b3i ks xs ys = some c) (e : c = d) : @b1w .neq (.flat ks) (.agg xs) (.agg ys) ⟨k1⟩ = k1 (B (!d)) := by
 show b1j _ _ _ _ _ = _
 subst e
 simp only [b1j, b2s, b2l, hl, hm, and_self, if_true, h, Option.map_some, iE9, exists_eq_left']
def b09 (i j : Int) (v o : Int) : Int := if i = j then v else o
theorem b7m {cs : List AV} {off : Nat} {l : List Int} {i x : Int} (h : get l i = some x) (hc : (cs.drop off).take l.length = l.map I) : @b8w cs (off + i.toNat) ⟨k1⟩ = k1 (I x) := by
 show b39 _ _ _ = _
 unfold b39
 have h1 := b6c h
 have hlt := (gS9.1 h1).1
 have : cs[off + i.toNat]? = some (I x) := by
  have e : ((cs.drop off).take l.length)[i.toNat]? = some (I x) := by rw [hc, List.getElem?_map, h1]; rfl
  rw [List.getElem?_take, if_pos hlt, List.getElem?_drop] at e
  exact e
 simp [this]
theorem c8f {cs : List AV} {off n : Nat} {l : List Int} {i x : Int} {kd : IntKind} (hg : get l i = some x) (hn : n = l.length) : @b8x 1 n (.fp cs off) (.v (.int kd i)) h ⟨k⟩ = k (.fp cs (off + i.toNat)) h := by
 have h0 := b06 hg
 have h1 := b07 hg
 simp only [b8x, eff, evT, if_true, Nat.one_ne_zero, if_false]
 rw [if_pos ⟨h0, by rw [hn]; exact h1⟩]
 simp only [Nat.mul_one, iE9, Prod.mk.injEq]
 apply propext
 exact ⟨fun ⟨_, _, ⟨e1, e2⟩, hk⟩ => by subst e1; subst e2; exact hk, fun hk => ⟨_, _, ⟨rfl, rfl⟩, hk⟩⟩
theorem c32 {id j off n : Nat} {l : List Int} {i x : Int} {kd : IntKind} (hg : get l i = some x) (hn : n = l.length) (ho : (h.ob id).isSome = true) : @b8x 1 n (.rp id j off) (.v (.int kd i)) h ⟨k⟩ = k (.rp id j (off + i.toNat)) h := by
 have h0 := b06 hg
 have h1 := b07 hg
 obtain ⟨o, ho⟩ := Option.isSome_iff_exists.1 ho
 simp only [b8x, eff, evT, if_true, Nat.one_ne_zero, if_false, ho, bS9]
 rw [if_pos ⟨h0, by rw [hn]; exact h1⟩]
 simp only [Nat.mul_one, iE9, Prod.mk.injEq]
 apply propext
 exact ⟨fun ⟨_, _, ⟨e1, e2⟩, hk⟩ => by subst e1; subst e2; exact hk, fun hk => ⟨_, _, ⟨rfl, rfl⟩, hk⟩⟩
theorem b6y {cs : List AV} {off : Nat} {l : List Int} {i x v : Int} (h : get l i = some x) (hc : (cs.drop off).take l.length = l.map I) : cs.take (off + i.toNat) ++ [I v] ++ cs.drop (off + i.toNat + 1) = cs.take off ++ (l.set i.toNat v).map I ++ cs.drop (off + l.length) := by
 have h1 := b6c h
 have hlt := (gS9.1 h1).1
 have hlen : off + l.length <= cs.length := by
  have := congrArg List.length hc
  simp at this
  omega
 apply List.ext_getElem?
 intro j
 have e : ∀ q, q < l.length -> cs[off + q]? = (l[q]?).map I := fun q hq => by
  have e : ((cs.drop off).take l.length)[q]? = (l[q]?).map I := by rw [hc, List.getElem?_map]
  rw [List.getElem?_take, if_pos hq, List.getElem?_drop] at e
  exact e
 simp only [List.getElem?_append, List.length_append, List.length_take, List.length_cons, List.length_nil, List.length_map, List.length_set, List.getElem?_take, List.getElem?_drop, List.getElem?_map, List.getElem?_set]
 have h2 : min (off + i.toNat) cs.length = off + i.toNat := by omega
 have h3 : min off cs.length = off := by omega
 rw [h2, h3]
 by_cases c1 : j < off
 ·rw [if_pos (by omega), if_pos (by omega), if_pos (by omega), if_pos (by omega), if_pos (by omega), if_pos (by omega)]
 ·by_cases c2 : j < off + l.length
  ·obtain ⟨q, rfl⟩ : ∃ q, j = off + q := ⟨j - off, by omega⟩
   rw [if_pos (show off + q < off + l.length by omega), if_neg (show ¬ off + q < off by omega)]
   have hq : off + q - off = q := by omega
   rw [hq]
   by_cases c3 : q < i.toNat
   ·rw [if_pos (by omega), if_pos (by omega), if_pos (by omega), if_neg (by omega), e q (by omega)]
   ·by_cases c4 : q = i.toNat
    ·subst c4
     rw [if_pos (by omega), if_neg (by omega)]
     simp [hlt]
    ·rw [if_neg (by omega), if_neg (by omega), <- e q (by omega)]
     congr 1; omega
  ·rw [if_neg (by omega), if_neg (by omega)]
   congr 1; omega
theorem b6x {a b i v x : Int} (h : get [a, b] i = some x) : ([a, b].set i.toNat v) = [b09 i 0 v a, b09 i 1 v b] := by
 have h0 := b06 h
 have h1 := b07 h
 have : i = 0 \/ i = 1 := by simp at h1; omega
 rcases this with rfl | rfl <;> rfl
end
attribute [go_sem ↓] d34 d35 g7w g8y g9y g7k g8m g9m d5r
attribute [go_sem] d34 d35 d5r j71 b97 eS
end Go.Nw
namespace Go.Nw
theorem d6l : b2d "#ls" = some (.look true false) := rfl
theorem j1d : b2d "#ps" = some (.put true) := rfl
theorem b6d {l : List Int} {i x : Int} (h : get l i = some x) : Int.toNat i + 1 <= l.length := by
 have := b07 h; have := b06 h; omega
section
variable {k1 : AV -> Prop}
theorem j7y {cs : List AV} {l : List Int} {i x v : Int} (h : get l i = some x) (hc : (cs.drop 0).take l.length = l.map I) : cs.take i.toNat ++ [I v] ++ cs.drop (i.toNat + 1) = cs.take 0 ++ (l.set i.toNat v).map I ++ cs.drop (0 + l.length) := by
 have := b6y (v := v) h hc
 rwa [Nat.zero_add] at this
end
attribute [go_sem] vI vB vS
end Go.Nw
namespace Go.Nw
section
variable {O : Orac} {h : Heap} {k : AV -> Heap -> Prop} {t : Slots} {d : Option Nat} {g : Nat} {b0 : Bool} {r : List XO} {K : Slots -> Heap -> Prop}
theorem g8l {sz len x i} : b0c O (⟨d, some (g, b0), .ixP sz len x i⟩ :: r) K t h = @b1x (t g) b0 ⟨@iop O (.ixP sz len x i) (upd t g (B b0)) h ⟨fun v h' => b0c O r K (b0g (upd t g (B b0)) d v) h'⟩⟩ ⟨b0c O r K (b0g (upd t g (B (!b0))) d U) h⟩ ⟨b0c O r K (b0g t d U) h⟩ := b15 rfl
def c33 (sz len : Nat) (agg : Bool) (x i : AV) (h : Heap) [k : K2] : Prop := ∃ r h', eff (.ixV sz len agg (.t 0) (.t 1)) (evT fun j => if j = 0 then x else i) h = some (r, h') /\ k.k r h'
theorem g7l {sz len agg x i} : b0c O (⟨d, none, .ixV sz len agg x i⟩ :: r) K t h = @iop O (.ixV sz len agg x i) t h ⟨fun v h' => b0c O r K (b0g t d v) h'⟩ := b2b rfl
theorem g8n {sz len agg x i} : b0c O (⟨d, some (g, b0), .ixV sz len agg x i⟩ :: r) K t h = @b1x (t g) b0 ⟨@iop O (.ixV sz len agg x i) (upd t g (B b0)) h ⟨fun v h' => b0c O r K (b0g (upd t g (B b0)) d v) h'⟩⟩ ⟨b0c O r K (b0g (upd t g (B (!b0))) d U) h⟩ ⟨b0c O r K (b0g t d U) h⟩ := b15 rfl
theorem g9n {sz len agg x i} : @iop O (.ixV sz len agg x i) t h ⟨k⟩ = @c33 sz len agg (evT t x) (evT t i) h ⟨k⟩ := by
 show op1 _ _ _ _ _ = _
 simp only [op1, c33, eff, evT, if_true, Nat.one_ne_zero, if_false]
theorem g81 {cs : List AV} {n : Nat} {l : List Int} {i x : Int} {kd : IntKind} (hg : get l i = some x) (hn : n = l.length) (hc : cs = l.map I) : @c33 1 n false (.agg cs) (.v (.int kd i)) h ⟨k⟩ = k (I x) h := by
 have h0 := b06 hg
 have h1 := b07 hg
 have h2 := b6c hg
 simp only [c33, eff, evT, if_true, Nat.one_ne_zero, if_false]
 rw [if_pos ⟨h0, by rw [hn]; exact h1⟩]
 subst hc
 simp only [fT9, if_false, Nat.mul_one, List.getElem?_map, h2, Option.map_some, iE9, Prod.mk.injEq]
 apply propext
 exact ⟨fun ⟨_, _, ⟨e1, e2⟩, hk⟩ => by subst e1; subst e2; exact hk, fun hk => ⟨_, _, ⟨rfl, rfl⟩, hk⟩⟩
end
attribute [go_sem ↓] g8l g7l g8n g9n
end Go.Nw
namespace Go.Nw
end Go.Nw
namespace Go.Nw
theorem g99 {id : Nat} {k : AV -> Prop} : @b4a (.mp id) ⟨k⟩ = k (.mp id) := rfl
attribute [go_sem] g99
end Go.Nw
namespace Go.Nw
end Go.Nw
namespace Go.Nw
section
variable {O : Orac} {h : Heap} {t : Slots} {d : Option Nat} {g : Nat} {b0 : Bool} {r : List XO} {K : Slots -> Heap -> Prop}
theorem g8f {f l} : b0c O (⟨d, some (g, b0), .callw f l⟩ :: r) K t h = @b1x (t g) b0 ⟨@iop O (.callw f l) (upd t g (B b0)) h ⟨fun v h' => b0c O r K (b0g (upd t g (B b0)) d v) h'⟩⟩ ⟨b0c O r K (b0g (upd t g (B (!b0))) d U) h⟩ ⟨b0c O r K (b0g t d U) h⟩ := b15 rfl
end
attribute [go_sem ↓] g8f
end Go.Nw
namespace Go.Nw
section
variable {O : Orac} [MapsOk O] {h : Heap} {k : AV -> Heap -> Prop} {t : Slots}
theorem c8b (hk : k (I 0) h) : @b5i O "#cap" [.v (.slice none 0 0)] h ⟨k⟩ := b8h (k := .cap) rfl rfl hk
theorem g63 {n : Int} {z : Value} (h0 : 0 < n) (h1 : n * 16 <= 2 ^ 40) (hk : k (.rs h.nx 0 n.toNat) (h.new (1, List.replicate n.toNat [.v z]))) : @b5i O "#ax" [.v (.slice none 0 0), I n, .v z] h ⟨k⟩ := by
 refine b8h (k := .ax) rfl (r := .rs h.nx 0 n.toNat) (h' := h.new (1, List.replicate n.toNat [.v z])) ?_ hk
 show (if 0 < n /\ n * 16 <= 2 ^ 40 then _ else none) = _
 rw [if_pos ⟨h0, h1⟩]
theorem g92 {n : Nat} (hk : k (.v (.slice none 0 0)) h) : @c8m n (.v (.slice none 0 0)) none (some (I 0)) h ⟨k⟩ := ⟨_, _, rfl, hk⟩
theorem g93 {n id m : Nat} {rows : List (List AV)} (ho : h.ob id = some (n, rows)) (hk : k (.rs id 0 0) h) : @c8m n (.rs id 0 m) none (some (I 0)) h ⟨k⟩ := by
 refine ⟨.rs id 0 0, h, ?_, hk⟩
 simp only [b2j, bS9, b4l, b4q, ho]
 simp
theorem g3i {n id sz : Nat} {rows : List (List AV)} (ht : t n = .rs id 0 0) (ho : h.ob id = some (sz, rows)) (hp : ∀ r ∈ rows, r.length = sz /\ ∀ c ∈ r, ∃ x, c = .v x) :
  b35 [.t n] (.rs 0 0 0) [(sz, rows)] ⟨t, h⟩ := by
 refine .inr ⟨[t n], [id], rfl, rfl, by simp, ?_, fun k sz' ds hh => ?_⟩
 ·show Ren _ (t n) _
  rw [ht]
  exact .rs id 0 0 _ (by simp [List.range_succ, List.find?])
 ·cases k with
  | zero =>
   simp only [List.getElem?_cons_zero, iE9, Prod.mk.injEq] at hh
   obtain ⟨rfl, rfl⟩ := hh
   refine ⟨id, rows, rfl, ho, rfl, fun r hr => (hp r hr).1, fun i j c hc => ⟨c, hc, ?_⟩⟩
   obtain ⟨r, h1, h2⟩ := b8e hc
   obtain ⟨x, rfl⟩ := (hp r (mG9 h1)).2 c (mG9 h2)
   exact .frz _ (.v x)
  | succ k => simp at hh
theorem g70 {f : String} {as : List AV} {sz : Nat} {rows : List (List AV)} (hz : ∀ a ∈ as, Frz a) (hf : O f as (.rs 0 0 0) [(sz, rows)]) (hp : ∀ r ∈ rows, r.length = sz /\ ∀ c ∈ r, ∃ x, c = .v x)
  (hk : k (.rs h.nx 0 0) (h.new (sz, rows))) : @c0j O f as h ⟨k⟩ := by
 refine ⟨_, _, ⟨as, _, [(sz, rows)], [(sz, rows)], .frz hz, hf, .inl hz, .rs 0 (h.nx + 0) 0 _ (by simp), rfl, fun k sz' es hh => ?_, rfl⟩, hk⟩
 cases k with
 | zero =>
  simp only [List.getElem?_cons_zero, iE9, Prod.mk.injEq] at hh
  obtain ⟨rfl, rfl⟩ := hh
  refine ⟨_, rfl, rfl, fun r hr => (hp r hr).1, fun i j c hc => ⟨c, hc, ?_⟩⟩
  obtain ⟨r, h1, h2⟩ := b8e hc
  obtain ⟨x, rfl⟩ := (hp r (mG9 h1)).2 c (mG9 h2)
  exact .frz _ (.v x)
 | succ k => simp at hh
theorem g60 {α : Type} {f : α -> List AV} {sz b id : Nat} {l m r : List α} {es : List (List AV)} (ho : h.ob id = some (sz, es)) (he : es.take l.length = List.map f l) (hl : l.length <= es.length)
  (ha : ap b l m = some r) (hk : k (.rs h.nx 0 (List.length r)) ((h.upd id none).new (sz, List.map f r))) : @b8v sz b (.rs id 0 (List.length l)) (.fs sz (List.map f m)) h ⟨k⟩ := by
 obtain ⟨hb, rfl⟩ := c25 ha
 rw [List.length_append, List.map_append, <- he] at hk
 refine ⟨_, _, ?_, hk⟩
 simp only [eff, evT, if_true, Nat.one_ne_zero, if_false, ho, bS9, List.length_map]
 rw [if_pos ⟨trivial, trivial, by omega, hb⟩]
 simp
theorem g61 {sz b n : Nat} (hk : k (.v (.slice none 0 0)) h) : @b8v sz b (.v (.slice none 0 0)) (.fs n []) h ⟨k⟩ := ⟨_, _, rfl, hk⟩
theorem d7c : c2o eS 1 := fun a => ⟨rfl, fun c hc => ⟨_, List.mem_singleton.1 hc⟩⟩
end
theorem c52 {α : Type} {ls : List (List α)} {i : Nat} {x : List α} (h : ls[i]? = some x) : (ls.take (i + 1)).flatten = (ls.take i).flatten ++ x := by
 rw [List.take_add_one, h]; simp
end Go.Nw
namespace Go.Nw
end Go.Nw
