/- Plain laws on the models. -/
import Derived.Test.YtinmifhfkkjccaaNwTp3Src
import Derived.Test.YtinmifhfkkjccaaNwCall
import Derived.Test.YtinmifhfkkjccaaNwRun2
import Derived.Test.YtinmifhfkkjccaaNwHas
import Derived.Test.YtinmifhfkkjccaaProg
import Derived.Test.YtinmifhfkkjccaaNwVcg
import Derived.Test.YtinmifhfkkjccaaNwChain
set_option linter.all false
namespace Go.Nw.XM
instance cfg : Cfg := ⟨fun _ => none, fun f => (["(newel/situation.Plant).set", "slices.Reverse[[]int,int]", "(*newel/drive.motion).with", "(*newel/drive.motion).extreme"] : List String).contains f⟩
end Go.Nw.XM
namespace Go.Nw.XM
open Go.Proofs Go.Nw.Tp3
set_option maxRecDepth 100000
def gy (o : Option XFunc) : XFunc := match o with | some x => x | none => ⟨0, [], .skip⟩
noncomputable def y_neweltop_measures : XFunc := gy (c6p Try.prog [] [] Try.f8)
noncomputable def y_l01_Example : XFunc := gy (c6p Try.prog [] [] Try.f24)
noncomputable def y_drive_Distance : XFunc := gy (c6p Try.prog [3, 2] [(1000003, 4), (1000003, 5), (1000006, 4), (1000006, 5), (14, 7), (14, 8), (14, 100), (14, 101), (1000007, 7), (1000007, 8), (1000007, 28), (1000007, 30), (1000007, 33), (1000007, 36)] Try.f9)
noncomputable def y_l03_Example : XFunc := gy (c6p Try.prog [] [] Try.f25)
noncomputable def y_circuit_Pairs : XFunc := gy (c6p Try.prog [1, 26, 17] [] Try.f26)
noncomputable def y_drive_checkStop : XFunc := gy (c6p Try.prog [3, 43, 38, 33, 32, 27, 26, 24, 23, 18, 17, 11, 2, 45] [] Try.f27)
noncomputable def y_drive_run : XFunc := gy (c6p Try.prog [4, 14, 11, 3] [] Try.f28)
noncomputable def y_circuit_Critical : XFunc := gy (c6p Try.prog [1, 12] [] Try.f47)
noncomputable def y_slices_Contains___int_int_ : XFunc := gy (c6p Try.prog [] [] Try.f48)
noncomputable def y_circuit_weak : XFunc := gy (c6p Try.prog [2, 6] [] Try.f49)
noncomputable def y_drive_Check : XFunc := gy (c6p Try.prog [1, 41, 36, 29, 22, 15, 10, 6] [] Try.f50)
noncomputable def y_drive_to : XFunc := gy (c6p Try.prog [] [] Try.f51)
noncomputable def y_drive_in : XFunc := gy (c6p Try.prog [3, 11, 5] [] Try.f31)
noncomputable def y___drive_motion__extreme : XFunc := gy (c6p Try.prog [] [] Try.f52)
noncomputable def y_circuit_Check : XFunc := gy (c6p Try.prog [1, 93, 69, 50, 46, 41, 32, 27, 22, 17, 13, 9] [] Try.f69)
noncomputable def y_slices_Index___int_int_ : XFunc := gy (c6p Try.prog [] [] Try.f70)
noncomputable def y__circuit_state__wire : XFunc := gy (c6p Try.prog [2, 7, 6] [] Try.f71)
noncomputable def y_drive_CheckD1 : XFunc := gy (c6p Try.prog [1, 8, 3] [] Try.f72)
noncomputable def y___drive_motion__with : XFunc := gy (c6p Try.prog [] [] Try.f32)
noncomputable def y_slices_Contains___bool_bool_ : XFunc := gy (c6p Try.prog [] [] Try.f86)
noncomputable def y_slices_ContainsFunc___int_int_ : XFunc := gy (c6p Try.prog [] [] Try.f29)
noncomputable def y_circuit_ascending : XFunc := gy (c6p Try.prog [] [] Try.f89)
noncomputable def y_circuit_CheckD1 : XFunc := gy (c6p Try.prog [] [] Try.f87)
noncomputable def y_circuit_CheckD2 : XFunc := gy (c6p Try.prog [] [] Try.f90)
noncomputable def y__circuit_state__conducts : XFunc := gy (c6p Try.prog [2, 25, 20, 19, 12, 5] [] Try.f91)
noncomputable def y__circuit_state__wireD1 : XFunc := gy (c6p Try.prog [] [] Try.f92)
noncomputable def y___drive_motion__grip : XFunc := gy (c6p Try.prog [] [] Try.f55)
noncomputable def y_drive_tick : XFunc := gy (c6p Try.prog [4, 24, 20, 16, 12] [] Try.f54)
noncomputable def y_slices_Index___bool_bool_ : XFunc := gy (c6p Try.prog [] [] Try.f100)
noncomputable def y_slices_IndexFunc___int_int_ : XFunc := gy (c6p Try.prog [] [] Try.f53)
noncomputable def y_circuit_isSet : XFunc := gy (c6p Try.prog [] [] Try.f88)
noncomputable def y_drive_ahead : XFunc := gy (c6p Try.prog [] [] Try.f73)
noncomputable def y_drive_floor : XFunc := gy (c6p Try.prog [] [] Try.f93)
noncomputable def tbl : List (String × XFunc) := [("newel/neweltop.measures", y_neweltop_measures), ("newel/newellaw01.Example", y_l01_Example), ("newel/drive.Distance", y_drive_Distance), ("newel/newellaw03.Example", y_l03_Example), ("newel/circuit.Pairs", y_circuit_Pairs), ("newel/drive.checkStop", y_drive_checkStop), ("newel/drive.run", y_drive_run), ("newel/circuit.Critical", y_circuit_Critical), ("slices.Contains[[]int,int]", y_slices_Contains___int_int_), ("newel/circuit.weak", y_circuit_weak), ("newel/drive.Check", y_drive_Check), ("newel/drive.to", y_drive_to), ("newel/drive.in", y_drive_in), ("(*newel/drive.motion).extreme", y___drive_motion__extreme), ("newel/circuit.Check", y_circuit_Check), ("slices.Index[[]int,int]", y_slices_Index___int_int_), ("(newel/circuit.state).wire", y__circuit_state__wire), ("newel/drive.Check$1", y_drive_CheckD1), ("(*newel/drive.motion).with", y___drive_motion__with), ("slices.Contains[[]bool,bool]", y_slices_Contains___bool_bool_), ("slices.ContainsFunc[[]int,int]", y_slices_ContainsFunc___int_int_), ("newel/circuit.ascending", y_circuit_ascending), ("newel/circuit.Check$1", y_circuit_CheckD1), ("newel/circuit.Check$2", y_circuit_CheckD2), ("(newel/circuit.state).conducts", y__circuit_state__conducts), ("(newel/circuit.state).wire$1", y__circuit_state__wireD1), ("(*newel/drive.motion).grip", y___drive_motion__grip), ("newel/drive.tick", y_drive_tick), ("slices.Index[[]bool,bool]", y_slices_Index___bool_bool_), ("slices.IndexFunc[[]int,int]", y_slices_IndexFunc___int_int_), ("newel/circuit.isSet", y_circuit_isSet), ("newel/drive.ahead", y_drive_ahead), ("newel/drive.floor", y_drive_floor)]
theorem l5b : (match c4q tbl 40 "newel/neweltop.measures" [] [] with | some ([.v (.bool true)], _) => true | _ => false) = true := by kernel_rfl
theorem hw {n : String} {x : XFunc} (k : Nat) {f0 : Func} (bf : List Nat) (fz : List (Nat × Nat)) (hk : Try.prog.funcs[k]? = some f0) (hu : ((b2k n).isNone && Try.prog.funcs.toList.zipIdx.all fun p => p.1.name != n || p.2 == k) = true := by kernel_rfl) (hc : c6p Try.prog bf fz f0 = some x := by kernel_rfl) : Has (b0n Try.prog) n x := b00 k bf fz hk hu hc
theorem y0r : Has (b0n Try.prog) "newel/neweltop.measures" y_neweltop_measures := hw 8 [] [] Try.func8
theorem y0p : Has (b0n Try.prog) "newel/newellaw01.Example" y_l01_Example := hw 24 [] [] Try.func24
theorem y0h : Has (b0n Try.prog) "newel/drive.Distance" y_drive_Distance := hw 9 [3, 2] [(1000003, 4), (1000003, 5), (1000006, 4), (1000006, 5), (14, 7), (14, 8), (14, 100), (14, 101), (1000007, 7), (1000007, 8), (1000007, 28), (1000007, 30), (1000007, 33), (1000007, 36)] Try.func9
theorem y0q : Has (b0n Try.prog) "newel/newellaw03.Example" y_l03_Example := hw 25 [] [] Try.func25
theorem y0b : Has (b0n Try.prog) "newel/circuit.Pairs" y_circuit_Pairs := hw 26 [1, 26, 17] [] Try.func26
theorem y0j : Has (b0n Try.prog) "newel/drive.checkStop" y_drive_checkStop := hw 27 [3, 43, 38, 33, 32, 27, 26, 24, 23, 18, 17, 11, 2, 45] [] Try.func27
theorem y0m : Has (b0n Try.prog) "newel/drive.run" y_drive_run := hw 28 [4, 14, 11, 3] [] Try.func28
theorem y0a : Has (b0n Try.prog) "newel/circuit.Critical" y_circuit_Critical := hw 47 [1, 12] [] Try.func47
theorem y0t : Has (b0n Try.prog) "slices.Contains[[]int,int]" y_slices_Contains___int_int_ := hw 48 [] [] Try.func48
theorem y0e : Has (b0n Try.prog) "newel/circuit.weak" y_circuit_weak := hw 49 [2, 6] [] Try.func49
theorem y0f : Has (b0n Try.prog) "newel/drive.Check" y_drive_Check := hw 50 [1, 41, 36, 29, 22, 15, 10, 6] [] Try.func50
theorem y0o : Has (b0n Try.prog) "newel/drive.to" y_drive_to := hw 51 [] [] Try.func51
theorem y0l : Has (b0n Try.prog) "newel/drive.in" y_drive_in := hw 31 [3, 11, 5] [] Try.func31
theorem x90 : Has (b0n Try.prog) "(*newel/drive.motion).extreme" y___drive_motion__extreme := hw 52 [] [] Try.func52
theorem x97 : Has (b0n Try.prog) "newel/circuit.Check" y_circuit_Check := hw 69 [1, 93, 69, 50, 46, 41, 32, 27, 22, 17, 13, 9] [] Try.func69
theorem y0v : Has (b0n Try.prog) "slices.Index[[]int,int]" y_slices_Index___int_int_ := hw 70 [] [] Try.func70
theorem x94 : Has (b0n Try.prog) "(newel/circuit.state).wire" y__circuit_state__wire := hw 71 [2, 7, 6] [] Try.func71
theorem y0g : Has (b0n Try.prog) "newel/drive.Check$1" y_drive_CheckD1 := hw 72 [1, 8, 3] [] Try.func72
theorem x92 : Has (b0n Try.prog) "(*newel/drive.motion).with" y___drive_motion__with := hw 32 [] [] Try.func32
theorem y0s : Has (b0n Try.prog) "slices.Contains[[]bool,bool]" y_slices_Contains___bool_bool_ := hw 86 [] [] Try.func86
theorem v0l : Has (b0n Try.prog) "slices.ContainsFunc[[]int,int]" y_slices_ContainsFunc___int_int_ := hw 29 [] [] Try.func29
theorem y0c : Has (b0n Try.prog) "newel/circuit.ascending" y_circuit_ascending := hw 89 [] [] Try.func89
theorem x98 : Has (b0n Try.prog) "newel/circuit.Check$1" y_circuit_CheckD1 := hw 87 [] [] Try.func87
theorem x99 : Has (b0n Try.prog) "newel/circuit.Check$2" y_circuit_CheckD2 := hw 90 [] [] Try.func90
theorem x93 : Has (b0n Try.prog) "(newel/circuit.state).conducts" y__circuit_state__conducts := hw 91 [2, 25, 20, 19, 12, 5] [] Try.func91
theorem x95 : Has (b0n Try.prog) "(newel/circuit.state).wire$1" y__circuit_state__wireD1 := hw 92 [] [] Try.func92
theorem x91 : Has (b0n Try.prog) "(*newel/drive.motion).grip" y___drive_motion__grip := hw 55 [] [] Try.func55
theorem y0n : Has (b0n Try.prog) "newel/drive.tick" y_drive_tick := hw 54 [4, 24, 20, 16, 12] [] Try.func54
theorem y0u : Has (b0n Try.prog) "slices.Index[[]bool,bool]" y_slices_Index___bool_bool_ := hw 100 [] [] Try.func100
theorem l7c : Has (b0n Try.prog) "slices.IndexFunc[[]int,int]" y_slices_IndexFunc___int_int_ := hw 53 [] [] Try.func53
theorem y0d : Has (b0n Try.prog) "newel/circuit.isSet" y_circuit_isSet := hw 88 [] [] Try.func88
theorem y0i : Has (b0n Try.prog) "newel/drive.ahead" y_drive_ahead := hw 73 [] [] Try.func73
theorem y0k : Has (b0n Try.prog) "newel/drive.floor" y_drive_floor := hw 93 [] [] Try.func93
theorem l5x : ∀ p ∈ tbl, Has (b0n Try.prog) p.1 p.2 := by
 unfold tbl
 simp only [List.forall_mem_cons, List.not_mem_nil, false_implies, implies_true, and_true]
 exact ⟨y0r, y0p, y0h, y0q, y0b, y0j, y0m, y0a, y0t, y0e, y0f, y0o, y0l, x90, x97, y0v, x94, y0g, x92, y0s, v0l, y0c, x98, x99, x93, x95, x91, y0n, y0u, l7c, y0d, y0i, y0k⟩
theorem l7k : b0n Try.prog "newel/neweltop.measures" [] (B true) [] := by
 have h := l5b
 split at h
 ·rename_i ob e; exact l44 l5x e
 ·cases h
end Go.Nw.XM
namespace Go.Nw
end Go.Nw
namespace Go.Nw
theorem v02 {O : Orac} {x : XO} {s s' : St} (h : wpOp O x s (· = s')) {k : Nat} (hk : x.dst ≠ some k) : s'.t k = s.t k := by
 have hp : ∀ r, (s.put x.dst r).t k = s.t k := fun r => by
  unfold St.put
  cases hd : x.dst with
  | none => rfl
  | some d =>
   have : ¬ k = d := fun e => hk (by rw [hd, e])
   simp only [St.set, upd, this, if_false]
 unfold wpOp at h
 cases hw : b2y s x.guard with
 | none => simp only [hw] at h
 | some b =>
  cases b with
  | false => simp only [hw] at h; rw [<- h]; exact hp _
  | true =>
   simp only [hw] at h
   split at h
   ·obtain ⟨r, h', _, _, h3⟩ := h; rw [<- h3]; exact hp _
   ·obtain ⟨r, h', _, h3⟩ := h; rw [<- h3]; exact hp _
   ·obtain ⟨n, a, b, _, r, h', _, h3⟩ := h; rw [<- h3]; exact hp _
   ·obtain ⟨_, h3⟩ := h; rw [<- h3]; exact hp _
   ·obtain ⟨r, h', _, h3⟩ := h; rw [<- h3]; exact hp _
def u5d (l : List XO) (n : Nat) (prs : List (Nat × Nat)) (ss : List Nat) : Bool :=
 prs.all fun p => p.2 == n && decide (p.1 < n) && match l[p.1]? with
  | some x => (match x.op.lookX with | .t s => ss.contains s && ((l.drop p.1).take (n - p.1)).all (fun y => y.dst != some s) | _ => !x.op.look)
  | none => true
def u4i (ss : List Nat) (t1 : Slots) (h1 h2 : Heap) : Prop := ∀ s ∈ ss, ∀ id, E65 (t1 s) = some id -> h2.ob id = h1.ob id
theorem u7h {O : Orac} {l : List XO} {n : Nat} {prs : List (Nat × Nat)} {ss : List Nat} {Q : XExit -> Slots -> Heap -> Prop} {t : Slots} {h : Heap} (hn : n < l.length) (hp : u5d l n prs ss = true)
  (hw : b0d O (l.take n) (fun t1 h1 => b0d O ((l.drop n).take 1) (fun t2 h2 => u4i ss t1 h1 h2 /\ b0d O (l.drop (n + 1)) (Q .normal) t2 h2) t1 h1) t h) : cw O (.regW l prs) Q t h := by
 letI : Cfg := ⟨fun _ => none, fun _ => false⟩
 have e1 : (l.drop n).take 1 = [l[n]] := by rw [List.drop_eq_getElem_cons hn]; rfl
 rw [e1] at hw
 obtain ⟨S, h0, hS, hK⟩ := d6s hw
 obtain ⟨s', h1, h2, h3⟩ := c5b hK
 obtain ⟨S3, g0, gS, gK⟩ := d6s h3
 have hL : (l.take n).length = n := by rw [List.length_take]; omega
 rw [hL] at h1 h2
 refine ⟨fun i => if i <= n then S i else S3 (i - n - 1), ?_, fun i x hx => ?_, ?_, ?_⟩
 ·simp only [Nat.zero_le, if_true]; exact h0
 ·by_cases hi : i < n
  ·have e1 : i <= n := Nat.le_of_lt hi
   have e2 : i + 1 <= n := hi
   simp only [e1, e2, if_true]
   exact hS i x (by rw [List.getElem?_take, if_pos hi]; exact hx)
  ·have e2 : ¬ i + 1 <= n := by omega
   by_cases e : i = n
   ·subst e
    have hx' : x = l[i] := by rw [gG9 hn] at hx; exact (Option.some.inj hx).symm
    subst hx'
    have e4 : i + 1 - i - 1 = 0 := by omega
    simp only [Nat.le_refl, if_true, e2, if_false, e4]
    rw [g0]; exact h1
   ·obtain ⟨k, rfl⟩ : ∃ k, i = n + 1 + k := ⟨i - n - 1, by omega⟩
    have e3 : ¬ n + 1 + k <= n := by omega
    have e6 : n + 1 + k - n - 1 = k := by omega
    have e7 : n + 1 + k + 1 - n - 1 = k + 1 := by omega
    simp only [e3, e2, if_false, e6, e7]
    exact gS k x (by rw [List.getElem?_drop]; exact hx)
 ·intro j k x z id hjk hj hk hlook _ _ href
  have hq := List.all_eq_true.1 hp (j, k) hjk
  simp only [Bool.and_eq_true, beq_iff_eq, decide_eq_true_eq] at hq
  obtain ⟨⟨rfl, hjn⟩, hm⟩ := hq
  rw [hj] at hm
  dsimp only at hm
  have e2 : ¬ k + 1 <= k := by omega
  have e3 : j <= k := by omega
  have e4 : k + 1 - k - 1 = 0 := by omega
  simp only [Nat.le_refl, if_true, e2, if_false, e4]
  rw [g0]
  simp only [e3, if_true] at href
  cases hx : x.op.lookX with
  | t s =>
   rw [hx] at hm href
   simp only [Bool.and_eq_true, List.contains_iff_mem, List.all_eq_true, bne_iff_ne, ne_eq] at hm
   have same : ∀ d, j + d <= k -> (S (j + d)).t s = (S j).t s := by
    intro d
    induction d with
    | zero => intro _; rfl
    | succ d ih =>
     intro hd
     obtain ⟨y, hy⟩ : ∃ y, l[j + d]? = some y := ⟨_, gG9 (by omega)⟩
     have hw := hS (j + d) y (by rw [List.getElem?_take, if_pos (by omega)]; exact hy)
     have hne : y.dst ≠ some s := hm.2 y (by
      have : ((l.drop j).take (k - j))[d]? = some y := by rw [List.getElem?_take, if_pos (by omega), List.getElem?_drop]; exact hy
      exact mG9 this)
     rw [show j + (d + 1) = j + d + 1 by omega, v02 hw hne]
     exact ih (by omega)
   have := same (k - j) (by omega)
   rw [show j + (k - j) = k by omega] at this
   exact h2 s hm.1 id (by rw [this]; exact href)
  | tf s => rw [hx] at hm; simp [hlook] at hm
  | c v => rw [hx] at hm; simp [hlook] at hm
  | f nm => rw [hx] at hm; simp [hlook] at hm
  | g a b => rw [hx] at hm; simp [hlook] at hm
 ·have e2 : ¬ l.length <= n := by omega
  have e4 : (l.drop (n + 1)).length = l.length - n - 1 := by rw [List.length_drop]; omega
  simp only [e2, if_false]
  rw [<- e4]
  exact gK
theorem u7g {O : Orac} {l : List XO} {n : Nat} {prs : List (Nat × Nat)} {b : XCode} {Q : XExit -> Slots -> Heap -> Prop} {t : Slots} {h : Heap} (ss : List Nat) (post : Slots -> Heap -> Prop) (hn : n < l.length) (hp : u5d l n prs ss = true)
  (h1 : ∀ K : Slots -> Heap -> Prop, (∀ t h, post t h -> K t h) -> b0d O (l.take n) (fun t1 h1 => b0d O ((l.drop n).take 1) (fun t2 h2 => u4i ss t1 h1 h2 /\ b0d O (l.drop (n + 1)) K t2 h2) t1 h1) t h)
  (h2 : ∀ t h, post t h -> cw O b Q t h) : cw O (.seq (.regW l prs) b) Q t h := by
 rw [b9z]; exact u7h hn hp (h1 _ h2)
end Go.Nw
