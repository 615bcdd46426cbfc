/- Closed calls, computed: operations, calls, codes. -/
import Derived.Test.YtkoonfmgmgfmdaaDoorNwRun
import Derived.Test.YtkoonfmgmgfmdaaDoorNwExact
set_option linter.all false
set_option linter.unusedVariables false
set_option linter.unusedSimpArgs false
set_option linter.unusedSectionVars false
namespace Go.Nw
def c6u (x : X) (ev : X → AV) (h : Heap) : Option (AV × Heap) := some (ev x, h)
def c6w (c : X) (a : X) (b : X) (ev : X → AV) (h : Heap) : Option (AV × Heap) := match ev c with | .v (.bool t) => some (if t then ev a else ev b, h) | _ => none
def d56 (x : X) (ev : X → AV) (h : Heap) : Option (AV × Heap) := if b1c (ev x) then some (.rp h.nx 0 0, h.new ((cellsOf (ev x)).length, [cellsOf (ev x)])) else none
def d53 (zs : List Value) (ev : X → AV) (h : Heap) : Option (AV × Heap) := some (.rp h.nx 0 0, h.new (zs.length, [zs.map .v]))
def d58 (zs : List Value) (parts : List (Nat × Nat × X)) (ev : X → AV) (h : Heap) : Option (AV × Heap) :=
    (b4d (parts.map fun p => (p.1, p.2.1, ev p.2.2))).bind fun ps => if ps.all fun p => decide (p.1 + p.2.length ≤ zs.length) then some (.agg (place (zs.map .v) ps), h) else none
def d57 (sz : Nat) (parts : List X) (ev : X → AV) (h : Heap) : Option (AV × Heap) :=
    if (parts.map ev).all fun x => b1c x && (cellsOf x).length == sz then some (.rs h.nx 0 parts.length, h.new (sz, (parts.map ev).map cellsOf)) else none
def c6t (agg : Bool) (n : Nat) (a : X) (ev : X → AV) (h : Heap) : Option (AV × Heap) :=
    match ev a with
    | .fp cs off => if agg then (if off + n ≤ cs.length then some (.agg ((cs.drop off).take n), h) else none) else (cs[off]?).map fun x => (x, h)
    | .rp id i off => (h.ob id).bind fun o => (o.2[i]?).bind fun cs =>
        if agg then (if off + n ≤ cs.length then some (.agg ((cs.drop off).take n), h) else none) else (cs[off]?).map fun x => (x, h)
    | _ => none
def d6j (n : Nat) (a : X) (x : X) (ev : X → AV) (h : Heap) : Option (AV × Heap) :=
    match ev a with
    | .rp id i off => (h.ob id).bind fun o => (o.2[i]?).bind fun cs =>
        if b1c (ev x) ∧ (cellsOf (ev x)).length = n ∧ off + n ≤ cs.length then
          some (.dead, h.upd id (some (o.1, o.2.set i (cs.take off ++ cellsOf (ev x) ++ cs.drop (off + n)))))
        else none
    | _ => none
def c6v (x : X) (ev : X → AV) (h : Heap) : Option (AV × Heap) := match ev x with | .fp cs off => some (.fp cs off, h) | .rp id i off => (h.ob id).bind fun _ => some (.rp id i off, h) | .fn f a b => some (.fn f a b, h) | _ => none
def b9e (op : BinOp) (k : EqK) (x : X) (y : X) (ev : X → AV) (h : Heap) : Option (AV × Heap) := (b2e op k (ev x) (ev y)).map fun r => (r, h)
def c6x (op : UnOp) (x : X) (ev : X → AV) (h : Heap) : Option (AV × Heap) := (b41 op (ev x)).map fun r => (r, h)
def d59 (k : IntKind) (x : X) (ev : X → AV) (h : Heap) : Option (AV × Heap) := match ev x with | .v (.int _ n) => some (.v (.int k (k.wrap n)), h) | _ => none
def d6g (f : String) (first : List X) (caps : List X) (ev : X → AV) (h : Heap) : Option (AV × Heap) := some (.fn f (first.map ev) (caps.map ev), h)
def d6h (sz : Nat) (zs : List Value) (bytes : Nat) (len : X) (cap : X) (ev : X → AV) (h : Heap) : Option (AV × Heap) :=
    match ev len, ev cap with
    | .v (.int _ n), .v (.int _ c) => if n = c ∧ 0 ≤ n ∧ n * bytes ≤ 2 ^ 47 ∧ n < 2 ^ 63 then some (.rs h.nx 0 n.toNat, h.new (sz, List.replicate n.toNat (zs.map .v))) else none
    | _, _ => none
def d6i (n : Nat) (x : X) (lo : Option X) (hi : Option X) (ev : X → AV) (h : Heap) : Option (AV × Heap) :=
    (b1x (ev x)).bind fun len =>
    (b3q 0 (lo.map ev)).bind fun l =>
    (b3t len (hi.map ev)).bind fun r =>
    if l ≤ r then
      match ev x with
      | .fs sz es => if sz = n then some (.fs sz ((es.take r).drop l), h) else none
      | .rs id lo' _ => (h.ob id).bind fun o => if (l = 0 ∨ l < r) ∧ o.1 = n then some (.rs id (lo' + l) (r - l), h) else none
      | _ => none
    else none
def c6o (off : Nat) (x : X) (ev : X → AV) (h : Heap) : Option (AV × Heap) := match ev x with | .fp cs o => some (.fp cs (o + off), h) | .rp id i o => (h.ob id).bind fun _ => some (.rp id i (o + off), h) | _ => none
def c6n (agg : Bool) (n : Nat) (off : Nat) (x : X) (ev : X → AV) (h : Heap) : Option (AV × Heap) := match ev x with
    | .agg cs => if agg then (if off + n ≤ cs.length then some (.agg ((cs.drop off).take n), h) else none) else (cs[off]?).map fun x => (x, h)
    | _ => none
def c6p (n : Nat) (x : X) (i : X) (ev : X → AV) (h : Heap) : Option (AV × Heap) := match ev x, ev i with
    | .fs sz es, .v (.int _ k) => if sz = n ∧ 0 ≤ k then (es[k.toNat]?).map fun cs => (.fp cs 0, h) else none
    | .rs id lo len, .v (.int _ k) => (h.ob id).bind fun o => if o.1 = n ∧ 0 ≤ k ∧ k < len then some (.rp id (lo + k.toNat) 0, h) else none
    | _, _ => none
def d6b (sz : Nat) (len : Nat) (x : X) (i : X) (ev : X → AV) (h : Heap) : Option (AV × Heap) := match ev x, ev i with
    | .fp cs off, .v (.int _ n) => if 0 ≤ n ∧ n < len then some (.fp cs (off + n.toNat * sz), h) else none
    | .rp id k off, .v (.int _ n) => (h.ob id).bind fun _ => if 0 ≤ n ∧ n < len then some (.rp id k (off + n.toNat * sz), h) else none
    | _, _ => none
def d6d (sz : Nat) (len : Nat) (agg : Bool) (x : X) (i : X) (ev : X → AV) (h : Heap) : Option (AV × Heap) := match ev x, ev i with
    | .agg cs, .v (.int _ n) => if 0 ≤ n ∧ n < len then (if agg then (if n.toNat * sz + sz ≤ cs.length then some (.agg ((cs.drop (n.toNat * sz)).take sz), h) else none) else (cs[n.toNat * sz]?).map fun x => (x, h)) else none
    | _, _ => none
def d6c (x : X) (i : X) (ev : X → AV) (h : Heap) : Option (AV × Heap) := match ev x, ev i with
    | .v (.string s), .v (.int _ n) => if 0 ≤ n then (s.data.toList[n.toNat]?).map fun b => (.v (.int .u8 b.toNat), h) else none
    | _, _ => none
def c6m (x : X) (i : Nat) (ev : X → AV) (h : Heap) : Option (AV × Heap) := match ev x with | .tup vs => (vs[i]?).map fun x => (x, h) | _ => none
def c6s (str : Bool) (x : X) (ev : X → AV) (h : Heap) : Option (AV × Heap) := if str then (match ev x with | .v (.string s) => some (.v (.int .i64 s.size), h) | _ => none) else (b1x (ev x)).map fun n : Nat => (.v (.int .i64 n), h)
def d6f (xs : List X) (ev : X → AV) (h : Heap) : Option (AV × Heap) := (b3k b4x (xs.map ev)).map fun r => (r, h)
def d6e (xs : List X) (ev : X → AV) (h : Heap) : Option (AV × Heap) := (b3k b4w (xs.map ev)).map fun r => (r, h)
def d54 (sz : Nat) (bytes : Nat) (s : X) (x : X) (ev : X → AV) (h : Heap) : Option (AV × Heap) :=
    match ev x with
    | .rs id2 lo2 len2 =>
      (h.ob id2).bind fun o2 =>
      match ev s with
      | .v (.slice none 0 0) => if len2 = 0 then some (.v (.slice none 0 0), h) else if o2.1 = sz ∧ lo2 + len2 ≤ o2.2.length ∧ len2 * bytes ≤ 2 ^ 40 then some (.rs h.nx 0 len2, h.new (sz, (o2.2.drop lo2).take len2)) else none
      | .rs id lo len => (h.ob id).bind fun o =>
          if o.1 = sz ∧ o2.1 = sz ∧ id ≠ id2 ∧ lo + len ≤ o.2.length ∧ lo2 + len2 ≤ o2.2.length ∧ (len + len2) * bytes ≤ 2 ^ 40 then
            some (.rs h.nx 0 (len + len2), (h.upd id none).new (sz, (o.2.drop lo).take len ++ (o2.2.drop lo2).take len2))
          else none
      | _ => none
    | .fs sz2 es =>
      match ev s with
      | .v (.slice none 0 0) => if es.length = 0 then some (.v (.slice none 0 0), h) else if sz2 = sz ∧ es.length * bytes ≤ 2 ^ 40 then some (.rs h.nx 0 es.length, h.new (sz, es)) else none
      | .rs id lo len => (h.ob id).bind fun o =>
          if o.1 = sz ∧ sz2 = sz ∧ lo + len ≤ o.2.length ∧ (len + es.length) * bytes ≤ 2 ^ 40 then
            some (.rs h.nx 0 (len + es.length), (h.upd id none).new (sz, (o.2.drop lo).take len ++ es))
          else none
      | _ => none
    | _ => none
def b5h (x : AV) (no : Unit → Option (AV × Heap)) (k : IntKind → Int → Option (AV × Heap)) : Option (AV × Heap) := match x with
  | .v a => (match a with | .int kd n => k kd n | _ => no ())
  | _ => no ()
theorem c89 {x : AV} {no : Unit → Option (AV × Heap)} {k : IntKind → Int → Option (AV × Heap)} {r : Option (AV × Heap)} (h0 : no () = r) (h1 : ∀ kd n, x = .v (.int kd n) → k kd n = r) : b5h x no k = r := by
  unfold b5h
  cases x with
  | v a => cases a with
    | int kd n => exact h1 kd n rfl
    | _ => exact h0
  | _ => exact h0
def c2h (op : BinOp) (k : EqK) (x y : X) (ev : X → AV) (h : Heap) : Option (AV × Heap) :=
  b5h (ev x) (fun _ => b9e op k x y ev h) fun k1 a => b5h (ev y) (fun _ => b9e op k x y ev h) fun k2 b => (b19 op k1 a k2 b).map fun r => (.v r, h)
theorem d55 {op : BinOp} {k : EqK} {x y : X} {ev : X → AV} {h : Heap} : c2h op k x y ev h = b9e op k x y ev h :=
  c89 rfl fun k1 a hx => c89 rfl fun k2 b hy => by
    unfold b9e
    rw [hx, hy]
    show _ = (((b19 op k1 a k2 b).map AV.v).map fun r => (r, h))
    rw [Option.map_map]; rfl
def c6q (n : Nat) (sz : Nat) (es : List (List AV)) (h : Heap) (k : Int) : Option (AV × Heap) := if sz = n ∧ 0 ≤ k then (es[k.toNat]?).map fun cs => (.fp cs 0, h) else none
def c6r (n : Nat) (id lo len : Nat) (h : Heap) (k : Int) : Option (AV × Heap) := (h.ob id).bind fun o => if o.1 = n ∧ 0 ≤ k ∧ k < len then some (.rp id (lo + k.toNat) 0, h) else none
def b9f (n : Nat) (x i : X) (ev : X → AV) (h : Heap) : Option (AV × Heap) :=
  match ev x with
  | .fs sz es => b5h (ev i) (fun _ => none) fun _ k => c6q n sz es h k
  | .rs id lo len => b5h (ev i) (fun _ => none) fun _ k => c6r n id lo len h k
  | _ => none
theorem d6a {n : Nat} {x i : X} {ev : X → AV} {h : Heap} : b9f n x i ev h = c6p n x i ev h := by
  unfold b9f c6p c6q c6r b5h
  cases ev x <;> try rfl
  all_goals
    cases ev i <;> try rfl
    rename_i a
    cases a <;> rfl
def c6z (op : XOp) (ev : X → AV) (h : Heap) : Option (AV × Heap) :=
  match op with
  | .mv x => c6u x ev h
  | .pick c a b => c6w c a b ev h
  | .box x => d56 x ev h
  | .alloc zs => d53 zs ev h
  | .build zs parts => d58 zs parts ev h
  | .bsl sz parts => d57 sz parts ev h
  | .load agg n a => c6t agg n a ev h
  | .store n a x => d6j n a x ev h
  | .nilck x => c6v x ev h
  | .bin op k x y => c2h op k x y ev h
  | .un op x => c6x op x ev h
  | .cvtI k x => d59 k x ev h
  | .mkfn f first caps => d6g f first caps ev h
  | .mksl sz zs bytes len cap => d6h sz zs bytes len cap ev h
  | .slc n x lo hi => d6i n x lo hi ev h
  | .fldA off x => c6o off x ev h
  | .fld agg n off x => c6n agg n off x ev h
  | .ixA n x i => b9f n x i ev h
  | .ixP sz len x i => d6b sz len x i ev h
  | .ixV sz len agg x i => d6d sz len agg x i ev h
  | .ixS x i => d6c x i ev h
  | .ext x i => c6m x i ev h
  | .len str x => c6s str x ev h
  | .min xs => d6f xs ev h
  | .max xs => d6e xs ev h
  | .app sz bytes s x => d54 sz bytes s x ev h
  | _ => none
theorem b3j (op : XOp) (ev : X → AV) (h : Heap) : c6z op ev h = eff op ev h := by
  cases op
  case bin => exact d55
  case ixA => exact d6a
  all_goals rfl
def chg (op : XOp) (ev : X → AV) : Option Nat := match op with
  | .store _ a _ => (match ev a with | .rp id _ _ => some id | _ => none)
  | .app _ _ s _ => (match ev s with | .rs id _ _ => some id | _ => none)
  | _ => none
def c2i (op : XOp) (ev : X → AV) (l : List (Option Ob)) : Option (AV × List (Option Ob)) :=
  match c6z op ev (b08 l) with
  | none => none
  | some (r, h') => match chg op ev with
    | some id => if h'.nx = l.length then fO (h'.ob id) fun o => fS (l.set id o) fun l' => some (r, l') else fO (h'.ob id) fun o => fL fO ((List.range (h'.nx - l.length)).map fun i => h'.ob (l.length + i)) fun m => fS (l.set id o ++ m) fun l' => some (r, l')
    | none => if h'.nx = l.length then some (r, l) else fL fO ((List.range (h'.nx - l.length)).map fun i => h'.ob (l.length + i)) fun m => fS (l ++ m) fun l' => some (r, l')
theorem c59 {op : XOp} {ev : X → AV} (hw : ∀ f as, op ≠ .callw f as) {id : Nat} : op.touch ev id ↔ chg op ev = some id := by
  cases op <;> simp only [XOp.touch, chg]
  case store n a x =>
    cases ev a <;> simp
  case app sz by' s x =>
    cases ev s <;> simp
  case callw f as => exact absurd rfl (hw f as)
  all_goals simp
theorem c7g {l : List (Option Ob)} {h : Heap} (hn : h.nx = l.length) (hu : ∀ id, h.us id ↔ id < l.length) (ho : ∀ id, h.ob id = (l[id]?).join) : b08 l = h := by
  obtain ⟨ob, us, nx⟩ := h
  simp only at hn
  subst hn
  unfold b08
  congr 1
  · funext i; exact (ho i).symm
  · funext k; exact propext (hu k).symm
theorem d6k {op : XOp} {ev : X → AV} {l l' : List (Option Ob)} {r : AV} (hw : ∀ f as, op ≠ .callw f as) (h : c2i op ev l = some (r, l')) : eff op ev (b08 l) = some (r, b08 l') ∧ l.length ≤ l'.length := by
  unfold c2i at h
  rw [b3j] at h
  cases he : eff op ev (b08 l) with
  | none => rw [he] at h; cases h
  | some p =>
    obtain ⟨r1, h'⟩ := p
    rw [he] at h
    simp only [c2r, c2s, b39 (fun a k => c2r (o := a) (k := k))] at h
    have fr := c60 he
    have hnx : l.length ≤ h'.nx := fr.nx
    have hus : ∀ id, h'.us id ↔ id < h'.nx := fun id => by
      rw [fr.us id]
      show id < l.length ∨ (l.length ≤ id ∧ id < h'.nx) ↔ _
      omega
    have hob : ∀ id, chg op ev ≠ some id → ¬ (l.length ≤ id ∧ id < h'.nx) → h'.ob id = (l[id]?).join := fun id h1 h2 => fr.ob id (fun ht => h1 ((c59 hw).1 ht)) h2
    have out : ∀ (m : List (Option Ob)), m.length = l.length → (∀ id, id < l.length → h'.ob id = (m[id]?).join) → (∀ id, h'.nx ≤ id → h'.ob id = none) →
        (b08 (m ++ (List.range (h'.nx - l.length)).map fun i => h'.ob (l.length + i)) = h') ∧ l.length ≤ (m ++ (List.range (h'.nx - l.length)).map fun i => h'.ob (l.length + i)).length := by
      intro m hm h1 h2
      have hlen : (m ++ (List.range (h'.nx - l.length)).map fun i => h'.ob (l.length + i)).length = h'.nx := by simp [hm]; omega
      refine ⟨c7g hlen.symm (fun id => by rw [hlen]; exact hus id) fun id => ?_, by rw [hlen]; exact hnx⟩
      by_cases a : id < l.length
      · rw [List.getElem?_append_left (by omega)]; exact h1 id a
      · rw [List.getElem?_append_right (by omega), hm, List.getElem?_map]
        by_cases b : id < h'.nx
        · rw [List.getElem?_range (by omega)]
          simp only [Option.map_some, Option.join_some]
          rw [show l.length + (id - l.length) = id by omega]
        · rw [List.getElem?_eq_none (by simp; omega)]
          exact h2 id (by omega)
    have same : ∀ (m : List (Option Ob)), h'.nx = l.length → m = m ++ (List.range (h'.nx - l.length)).map fun i => h'.ob (l.length + i) := fun m e => by rw [e]; simp
    cases hc : chg op ev with
    | none =>
      rw [hc] at h
      simp only at h
      have := out l rfl (fun id hi => hob id (by rw [hc]; simp) (by omega)) (fun id hi => by
        rw [hob id (by rw [hc]; simp) (by omega), List.getElem?_eq_none (by omega)]; rfl)
      split at h
      · rename_i e
        rw [← same l e] at this
        cases h
        exact ⟨by rw [this.1], this.2⟩
      · cases h
        exact ⟨by rw [this.1], this.2⟩
    | some id0 =>
      rw [hc] at h
      simp only at h
      have ht : op.touch ev id0 := (c59 hw).2 hc
      have hid : id0 < l.length := by
        have := d1k he ht
        rcases Nat.lt_or_ge id0 l.length with g | g
        · exact g
        · exact absurd (show (l[id0]?).join = none by rw [List.getElem?_eq_none g]; rfl) this
      have := out (l.set id0 (h'.ob id0)) (by simp) (fun id hi => by
          by_cases e : id0 = id
          · subst e; rw [List.getElem?_set_self hi]; rfl
          · rw [List.getElem?_set_ne e]; exact hob id (by rw [hc]; simpa using e) (by omega))
        (fun id hi => by
          rw [hob id (by rw [hc]; simp; omega) (by omega), List.getElem?_eq_none (by omega)]; rfl)
      split at h
      · rename_i e
        rw [← same _ e] at this
        cases h
        exact ⟨by rw [this.1], this.2⟩
      · cases h
        exact ⟨by rw [this.1], this.2⟩
def b9r : Nat → AV → List Nat
  | 0, _ => []
  | n + 1, a => match a with
    | .rs id _ _ => [id]
    | .rp id _ _ => [id]
    | .agg cs | .tup cs => cs.flatMap (b9r n)
    | _ => []
def b8b (ob : List (Option Ob)) : Nat → List Nat → List Nat → List Nat
  | 0, _, d => d
  | _, [], d => d
  | n + 1, id :: r, d => if d.contains id then b8b ob n r d else match (ob[id]?).join with
    | some o => b8b ob n (o.2.flatMap (fun e => e.flatMap (b9r 8)) ++ r) (d ++ [id])
    | none => b8b ob n r (d ++ [id])
def c0d : List Nat → Bool
  | [] => true
  | a :: l => !l.contains a && c0d l
theorem c96 : ∀ {l : List Nat}, c0d l = true → l.Nodup
  | [], _ => List.nodup_nil
  | a :: l, h => by
    simp only [c0d, Bool.and_eq_true, Bool.not_eq_true', List.contains_eq_mem, decide_eq_false_iff_not] at h
    exact List.nodup_cons.2 ⟨h.1, c96 h.2⟩
abbrev b20 := String → List AV → List (Option Ob) → Option (List AV × List (Option Ob))
def c13 (O : Orac) (run : b20) : Prop := ∀ f as ob rs ob', run f as ob = some (rs, ob') → ∃ fn e s', Has O f fn ∧ as.length = fn.np ∧ (e = .normal ∨ e = .ret) ∧
  wp O fn.body (fun e2 s2 => e2 = e ∧ s2 = RS.st s') { start as with h := b08 ob } ∧ fn.res.mapM (b2y (RS.st s')) = some rs ∧ s'.ob = ob' ∧ ob.length ≤ ob'.length
def depth : Nat := 12
def c17 (run : b20) (f : String) (as : List AV) (ob : List (Option Ob)) : Option (AV × List (Option Ob)) :=
  (as.mapM (fzR ob depth)).bind fun as' => (run f as' []).bind fun (rs, ob1) =>
  let ids := b8b ob1 1000 (rs.flatMap (b9r 8)) []
  let f1 : Nat → Option Nat := fun id => (List.range ids.length).find? fun k => ids[k]? = some id
  if c0d ids then
    (b3m f1 depth (b3f rs)).bind fun r =>
    (ids.mapM fun id => ((ob1[id]?).join).bind (c0l f1 depth)).bind fun frag =>
    if as.all (b2o depth) || (c0g depth r && frag.all fun o => o.2.all fun e => e.all (c0g depth)) then
      let f2 : Nat → Option Nat := fun k => if k < frag.length then some (ob.length + k) else none
      (b3m f2 depth r).bind fun r' =>
      (frag.mapM (c0l f2 depth)).bind fun frag' =>
      if frag'.length = 0 then some (r', ob) else fL fO (frag'.map some) fun m => fS (ob ++ m) fun l => some (r', l)
    else none
  else none
theorem c9l : ∀ (frag : b2l) (ob : List (Option Ob)), (b08 ob).join frag = b08 (ob ++ frag.map some)
  | [], ob => by simp [Heap.join]
  | o :: frag, ob => by
    have e : (b08 ob).new o = b08 (ob ++ [some o]) := by
      symm
      refine c7g (by simp [b08, Heap.new]) (fun id => ?_) fun id => ?_
      · simp only [b08, Heap.new, List.length_append, List.length_cons, List.length_nil]; omega
      · show (if id = ob.length then some o else (ob[id]?).join) = ((ob ++ [some o])[id]?).join
        by_cases a : id = ob.length
        · subst a; simp
        · rw [if_neg a]
          rcases Nat.lt_or_ge id ob.length with b | b
          · rw [List.getElem?_append_left b]
          · rw [List.getElem?_eq_none b, List.getElem?_eq_none (by simp; omega)]
    show ((b08 ob).new o).join frag = _
    rw [e, c9l frag]
    simp
theorem c50 {O : Orac} {run : b20} (hr : c13 O run) {f : String} {as : List AV} {ob ob' : List (Option Ob)} {r' : AV} (h : c17 run f as ob = some (r', ob')) : b5y O f as (b08 ob) r' (b08 ob') ∧ ob.length ≤ ob'.length := by
  unfold c17 at h
  obtain ⟨as', ha, h⟩ := Option.bind_eq_some_iff.1 h
  obtain ⟨⟨rs, ob1⟩, hrun, h⟩ := Option.bind_eq_some_iff.1 h
  simp only at h
  generalize hids : b8b ob1 1000 (rs.flatMap (b9r 8)) [] = ids at h
  split at h
  · rename_i hnd
    obtain ⟨r, h1, h⟩ := Option.bind_eq_some_iff.1 h
    obtain ⟨frag, h2, h⟩ := Option.bind_eq_some_iff.1 h
    split at h
    · rename_i hown
      obtain ⟨r2, h3, h⟩ := Option.bind_eq_some_iff.1 h
      obtain ⟨frag', h4, h⟩ := Option.bind_eq_some_iff.1 h
      have hout : r' = r2 ∧ ob' = ob ++ frag'.map some := by
        split at h
        · rename_i z
          cases h
          have : frag' = [] := List.length_eq_zero_iff.1 z
          subst this
          simp
        · simp only [c2s, b39 (fun a k => c2r (o := a) (k := k))] at h; cases h; exact ⟨rfl, rfl⟩
      obtain ⟨rfl, rfl⟩ := hout
      obtain ⟨fn, e, s', hhas, hnp, hen, hwp, hres, hob1, _⟩ := hr _ _ _ _ _ hrun
      have fz := c7b ha
      have hfr : ∀ a ∈ as', Frz a := fun a hm => by
        obtain ⟨q1, q2⟩ := b3w ha
        obtain ⟨i, hi⟩ := List.mem_iff_getElem?.1 hm
        have hlt := (List.getElem?_eq_some_iff.1 hi).1
        exact c69 _ _ _ (q2 i _ a (List.getElem?_eq_getElem (by omega)) hi)
      obtain ⟨g1, g2⟩ := b3w h2
      obtain ⟨g3, g4⟩ := b3w h4
      have hO : O f as' r frag := by
        refine hhas.p as' r frag hnp ?_ hfr
        have hs : (start as') = { start as' with h := b08 [] } := by rw [c7h]; rfl
        rw [hs]
        refine b1z _ ?_ hwp
        rintro e2 s2 ⟨rfl, rfl⟩
        have hd : b3b fn.res r frag s'.st := .inr ⟨rs, ids, hres, g1, c96 hnd, c0m _ _ _ h1, fun k sz ds hk => by
          have hlt := (List.getElem?_eq_some_iff.1 hk).1
          have hlt2 : k < ids.length := by omega
          have := g4
          have hq := g2 k _ _ (List.getElem?_eq_getElem hlt2) hk
          obtain ⟨o, ho, hq⟩ := Option.bind_eq_some_iff.1 hq
          obtain ⟨w1, w2, w3, w4⟩ := d02 hq
          obtain ⟨sz', es⟩ := o
          simp only at w1
          subst w1
          refine ⟨ids[k], es, List.getElem?_eq_getElem hlt2, ?_, w2, w3, w4⟩
          show (s'.ob[ids[k]]?).join = _
          rw [hob1]; exact ho⟩
        rcases hen with rfl | rfl <;> exact hd
      refine ⟨⟨as', r, frag, frag', fz, hO, ?_, c0m _ _ _ h3, g3.symm, ?_, (c9l _ _).symm⟩, by simp⟩
      · rw [Bool.or_eq_true, Bool.and_eq_true] at hown
        rcases hown with hown | ⟨o1, o2⟩
        · exact .inl fun a ha => b2x _ _ (List.all_eq_true.1 hown a ha)
        · exact .inr ⟨c0h _ _ o1, fun o ho e he c hc => c0h _ _ (List.all_eq_true.1 (List.all_eq_true.1 (List.all_eq_true.1 o2 o ho) e he) c hc)⟩
      · intro k sz es hk
        have hlt := (List.getElem?_eq_some_iff.1 hk).1
        have hlt2 : k < frag'.length := by omega
        have hq := g4 k _ _ hk (List.getElem?_eq_getElem hlt2)
        obtain ⟨w1, w2, w3, w4⟩ := d02 hq
        refine ⟨(frag'[k]).2, ?_, w2, w3, w4⟩
        rw [List.getElem?_eq_getElem hlt2, ← show (frag'[k]).1 = sz from w1]
    · cases h
  · cases h
def fQ {β : Type} (a : AV) (k : AV → β) : β := match a with
  | .v x => fV x fun x => k (.v x)
  | .rs id lo len => fN id fun id => fN lo fun lo => fN len fun len => k (.rs id lo len)
  | .rp id i off => fN id fun id => fN i fun i => fN off fun off => k (.rp id i off)
  | .fp cs off => fN off fun off => k (.fp cs off)
  | a => fA 8 a k
theorem b7i {β : Type} {a : AV} {k : AV → β} : fQ a k = k a := by cases a <;> simp only [fQ, c62, b9l, b7h]
def b4c (s : RS) (d : Option Nat) (r : AV) (ob : List (Option Ob)) : Option RS := fQ r fun r => c0k s.t d r fun t => some ⟨t, ob⟩
def oW (run : b20) (d : Option Nat) (f : String) (args : List X) (s : RS) : Option RS := match run f (args.map s.st.ev) s.ob with | some (rs, ob') => b4c s d (b3f rs) ob' | none => none
def oC (run : b20) (d : Option Nat) (f : String) (as : List AV) (s : RS) : Option RS := match c17 run f as s.ob with | some (r, ob') => b4c s d r ob' | none => none
def oV (run : b20) (d : Option Nat) (f : X) (args : List X) (s : RS) : Option RS := match callee (s.st.ev f) with
  | some (n, a, b) => oC run d n (a ++ args.map s.st.ev ++ b) s
  | none => none
def oB (d : Option Nat) (x : X) (s : RS) : Option RS := if b1c (s.st.ev x) then fL (fA 8) (cellsOf (s.st.ev x)) fun cs => c0k s.t d (.fp cs 0) fun t => some ⟨t, s.ob⟩ else none
def oE (d : Option Nat) (op : XOp) (s : RS) : Option RS := match c2i op s.st.ev s.ob with | some (r, ob') => b4c s d r ob' | none => none
def oP (d : Option Nat) (e : Option (AV × Heap)) (s : RS) : Option RS := match e with | some (r, _) => b4c s d r s.ob | none => none
def b79 : XOp → Bool
  | .mv _ | .bin .. | .un .. | .load .. | .ixA .. | .fldA .. | .fld .. | .ext .. | .len .. | .nilck _ | .pick .. => true
  | _ => false
theorem d6n {op : XOp} {ev : X → AV} {h h' : Heap} {r : AV} (hp : b79 op = true) (he : eff op ev h = some (r, h')) : h' = h := by
  cases op <;> simp only [b79, Bool.false_eq_true] at hp <;> simp only [eff] at he
  case mv => cases he; rfl
  case bin => obtain ⟨r, _, e⟩ := Option.map_eq_some_iff.1 he; cases e; rfl
  case un => obtain ⟨r, _, e⟩ := Option.map_eq_some_iff.1 he; cases e; rfl
  case ext =>
    split at he
    · obtain ⟨r, _, e⟩ := Option.map_eq_some_iff.1 he; cases e; rfl
    · cases he
  case pick =>
    split at he
    · cases he; rfl
    · cases he
  case len =>
    split at he
    · split at he
      · cases he; rfl
      · cases he
    · obtain ⟨r, _, e⟩ := Option.map_eq_some_iff.1 he; cases e; rfl
  case nilck =>
    split at he
    · cases he; rfl
    · obtain ⟨o, _, e⟩ := Option.bind_eq_some_iff.1 he; cases e; rfl
    · cases he; rfl
    · cases he
  case fldA =>
    split at he
    · cases he; rfl
    · obtain ⟨o, _, e⟩ := Option.bind_eq_some_iff.1 he; cases e; rfl
    · cases he
  case fld =>
    split at he
    · split at he
      · split at he
        · cases he; rfl
        · cases he
      · obtain ⟨r, _, e⟩ := Option.map_eq_some_iff.1 he; cases e; rfl
    · cases he
  case load =>
    split at he
    · split at he
      · split at he
        · cases he; rfl
        · cases he
      · obtain ⟨r, _, e⟩ := Option.map_eq_some_iff.1 he; cases e; rfl
    · obtain ⟨o, _, he⟩ := Option.bind_eq_some_iff.1 he
      obtain ⟨cs, _, he⟩ := Option.bind_eq_some_iff.1 he
      split at he
      · split at he
        · cases he; rfl
        · cases he
      · obtain ⟨r, _, e⟩ := Option.map_eq_some_iff.1 he; cases e; rfl
    · cases he
  case ixA =>
    split at he
    · split at he
      · obtain ⟨r, _, e⟩ := Option.map_eq_some_iff.1 he; cases e; rfl
      · cases he
    · obtain ⟨o, _, he⟩ := Option.bind_eq_some_iff.1 he
      split at he
      · cases he; rfl
      · cases he
    · cases he
theorem g57 {d : Option Nat} {op : XOp} {e : Option (AV × Heap)} {s s' : RS} (hp : b79 op = true) (he : e = eff op s.st.ev s.st.h) (h : oP d e s = some s') : ∃ r, eff op s.st.ev s.st.h = some (r, s.st.h) ∧ (s'.ob = s.ob ∧ s'.st = { t := (s.st.put d r).t, h := s.st.h }) := by
  unfold oP at h
  split at h
  · rename_i r h'
    unfold b4c at h
    rw [b7i] at h
    obtain ⟨t', h, ht⟩ := b5m h
    cases h
    have := d6n hp he.symm
    subst this
    exact ⟨r, he.symm, rfl, ht s.ob⟩
  · cases h
def oR (run : b20) (d : Option Nat) (op : XOp) (s : RS) : Option RS := match op with
  | .callw f args => oW run d f args s
  | .call f args => oC run d f (args.map s.st.ev) s
  | .callv f args => oV run d f args s
  | .boxF x => oB d x s
  | .mv x => oP d (c6u x s.st.ev (b08 s.ob)) s
  | .bin o k x y => oP d (c2h o k x y s.st.ev (b08 s.ob)) s
  | .un o x => oP d (c6x o x s.st.ev (b08 s.ob)) s
  | .load a n x => oP d (c6t a n x s.st.ev (b08 s.ob)) s
  | .ixA n x i => oP d (b9f n x i s.st.ev (b08 s.ob)) s
  | .fldA o x => oP d (c6o o x s.st.ev (b08 s.ob)) s
  | .fld a n o x => oP d (c6n a n o x s.st.ev (b08 s.ob)) s
  | .ext x i => oP d (c6m x i s.st.ev (b08 s.ob)) s
  | .len b x => oP d (c6s b x s.st.ev (b08 s.ob)) s
  | .nilck x => oP d (c6v x s.st.ev (b08 s.ob)) s
  | .pick c a b => oP d (c6w c a b s.st.ev (b08 s.ob)) s
  | op => oE d op s
def opR (run : b20) (o : XO) (s : RS) : Option RS :=
  match b1o s.st o.guard with
  | none => none
  | some false => (match o.op with | .callw .. => none | _ => c0k s.t o.dst (.v (.tuple #[])) fun t => some ⟨t, s.ob⟩)
  | some true => oR run o.dst o.op s
def c0e (run : b20) : List XO → RS → Option RS
  | [], s => some s
  | o :: l, s => match opR run o s with | some s' => c0e run l s' | none => none
def TR.map (g : AV → AV) : TR → TR
  | .e => .e
  | .n l x r => .n (l.map g) (g x) (r.map g)
theorem TR.map_get {g : AV → AV} (hg : g (.v (.tuple #[])) = .v (.tuple #[])) : ∀ (t : TR) (i : Nat), (t.map g).get i = g (t.get i)
  | .e, _ => hg.symm
  | .n l x r, i => by
    simp only [TR.map, TR.get]
    split
    · rfl
    · split
      · exact TR.map_get hg l _
      · exact TR.map_get hg r _
theorem c26 (s : St) : b4g s s := ⟨fun _ => false, rfl, rfl, fun id sz es' hes => ⟨rfl, es', hes, .inl rfl, fun i j d hd => ⟨d, hd, .inl rfl⟩⟩, fun t => .inl rfl⟩
def b47 (id sz : Nat) (es : List (List AV)) : AV → AV
  | .rs id' lo len => if id' = id ∧ lo + len ≤ es.length then .fs sz ((es.drop lo).take len) else .rs id' lo len
  | .rp id' i off => if id' = id then (match es[i]? with | some cs => .fp cs off | none => .rp id' i off) else .rp id' i off
  | a => a
def c2f (g : AV → AV) : Option Ob → Option Ob
  | some (z, rs) => if (rs.all fun e => e.length == z) = true then some (z, rs.map fun e => e.map g) else some (z, rs)
  | none => none
def b9p (id : Nat) (s : RS) : RS := match (s.ob[id]?).join with
  | some (sz, es) => if (es.all fun e => e.length == sz && e.all (b2o depth)) = true then ⟨s.t.map (b47 id sz es), (s.ob.map (c2f (b47 id sz es))).set id none⟩ else s
  | none => s
theorem d2o {g : AV → AV} {es : List (List AV)} {i j : Nat} {d : AV} (h : at2 (es.map fun e => e.map g) i j = some d) : ∃ c, at2 es i j = some c ∧ d = g c := by
  unfold at2 at h ⊢
  rw [List.getElem?_map] at h
  cases he : es[i]? with
  | none => rw [he] at h; cases h
  | some e =>
    rw [he] at h
    simp only [Option.map_some, Option.bind_some, List.getElem?_map] at h ⊢
    cases hc : e[j]? with
    | none => rw [hc] at h; cases h
    | some c => rw [hc] at h; cases h; exact ⟨c, rfl, rfl⟩
theorem d7w (id : Nat) (s : RS) : b4g s.st (b9p id s).st ∧ (b9p id s).ob.length = s.ob.length := by
  unfold b9p
  split
  · rename_i sz es ho
    split
    · rename_i hz
      have hid : id < s.ob.length := by
        rcases Nat.lt_or_ge id s.ob.length with h | h
        · exact h
        · rw [List.getElem?_eq_none h] at ho; cases ho
      have hrow : ∀ e ∈ es, e.length = sz ∧ ∀ c ∈ e, Frz c := fun e he => by
        have := List.all_eq_true.1 hz e he
        simp only [Bool.and_eq_true, beq_iff_eq] at this
        exact ⟨this.1, fun c hc => b2x _ _ (List.all_eq_true.1 this.2 c hc)⟩
      have hob : (s.st.h.only fun k => k == id).ob id = some (sz, es) := by
        show (if (id == id) = true then (s.ob[id]?).join else none) = _
        simp [ho]
      have cool : ∀ a, b43 (s.st.h.only fun k => k == id) a (b47 id sz es a) := fun a => by
        cases a with
        | rs id' lo len =>
          simp only [b47]
          split
          · rename_i h
            obtain ⟨rfl, hb⟩ := h
            have hmem : ∀ e ∈ (es.drop lo).take len, e ∈ es := fun e he => List.mem_of_mem_drop (List.mem_of_mem_take he)
            refine .inr ⟨.rs _ lo len sz es _ hob hb (by simp; omega) (fun d hd => (hrow d (hmem d hd)).1) fun i j c d hc hd => ?_, .fs sz _ fun e he c hc => (hrow e (hmem e he)).2 c hc⟩
            have e1 : at2 ((es.drop lo).take len) i j = some d → at2 es (lo + i) j = some d := fun h => by
              unfold at2 at h ⊢
              rw [List.getElem?_take] at h
              split at h
              · rw [List.getElem?_drop] at h; exact h
              · cases h
            have := e1 hd
            rw [hc] at this; cases this
            unfold at2 at hc
            obtain ⟨e, he1, he2⟩ := Option.bind_eq_some_iff.1 hc
            exact .refl c ((hrow e (List.mem_of_getElem? he1)).2 c (List.mem_of_getElem? he2))
          · exact .inl rfl
        | rp id' i off =>
          simp only [b47]
          split
          · rename_i h
            subst h
            split
            · rename_i cs hcs
              have hf := (hrow cs (List.mem_of_getElem? hcs)).2
              refine .inr ⟨.rp _ _ off sz es cs cs hob hcs rfl fun j c d hc hd => ?_, .fp cs off hf⟩
              rw [hc] at hd; cases hd
              exact .refl c (hf c (List.mem_of_getElem? hc))
            · exact .inl rfl
          · exact .inl rfl
        | _ => exact .inl rfl
      refine ⟨⟨fun k => k == id, ?_, ?_, fun k sz' es' hk => ?_, fun t => ?_⟩, by simp⟩
      · funext k; show (k < ((s.ob.map _).set id none).length) = (k < s.ob.length); rw [List.length_set, List.length_map]
      · show ((s.ob.map _).set id none).length = s.ob.length; rw [List.length_set, List.length_map]
      · have hk : (((s.ob.map (c2f (b47 id sz es))).set id none)[k]?).join = some (sz', es') := hk
        by_cases e : id = k
        · subst e; rw [List.getElem?_set_self (by rw [List.length_map]; exact hid)] at hk; cases hk
        · rw [List.getElem?_set_ne e, List.getElem?_map] at hk
          refine ⟨by simpa using fun h => e h.symm, ?_⟩
          cases hx : s.ob[k]? with
          | none => rw [hx] at hk; cases hk
          | some o =>
            rw [hx] at hk
            cases o with
            | none => cases hk
            | some zr =>
              obtain ⟨z, rs⟩ := zr
              simp only [Option.map_some, Option.join_some, c2f] at hk
              have hst : s.st.h.ob k = some (z, rs) := by show (s.ob[k]?).join = _; rw [hx]; rfl
              split at hk
              · rename_i hall
                cases hk
                refine ⟨rs, hst, .inr ⟨by simp, fun e he => ?_⟩, fun i j d hd => ?_⟩
                · obtain ⟨e0, he0, rfl⟩ := List.mem_map.1 he
                  have := List.all_eq_true.1 hall e0 he0
                  simpa using this
                · obtain ⟨c, h1, h2⟩ := d2o hd
                  exact ⟨c, h1, by rw [h2]; exact cool c⟩
              · cases hk
                exact ⟨_, hst, .inl rfl, fun i j d hd => ⟨d, hd, .inl rfl⟩⟩
      · show b43 _ (s.t.get t) ((s.t.map (b47 id sz es)).get t)
        rw [TR.map_get rfl]
        exact cool _
    · exact ⟨c26 _, rfl⟩
  · exact ⟨c26 _, rfl⟩
def g7o (s : RS) (n : Nat) : Option Nat := match s.t.get n with
  | .rp id i _ => (match (s.ob[id]?).join with
    | some (_, es) => (match es[i]? with
      | some cs => if cs.all (b2o depth) then some id else cs.findSome? fun c => match c with
        | .rs id2 _ _ => (match (s.ob[id2]?).join with | some (_, fs) => if (fs.all fun e => e.all (b2o depth)) then some id2 else none | none => none)
        | _ => none
      | none => none)
    | none => none)
  | _ => none
def isG : XCode → Bool | .ghost => true | _ => false
def tfs : XCode → List Nat
  | .reg ops => ops.flatMap fun o => o.op.xs.filterMap fun | .tf n => some n | _ => none
  | .seq .ghost b => tfs b
  | .seq a _ => tfs a
  | _ => []
def b7p (b : XCode) (s : RS) : RS := match (tfs b).findSome? (g7o s) with
  | some id => b9p id s
  | none => s
theorem d7x (b : XCode) (s : RS) : b4g s.st (b7p b s).st ∧ (b7p b s).ob.length = s.ob.length := by
  unfold b7p
  split
  · exact d7w _ _
  · exact ⟨c26 _, rfl⟩
def b32 {α : Type} (f : α → α → Bool) : List α → List α → Bool
  | [], [] => true
  | x :: xs, y :: ys => f x y && b32 f xs ys
  | _, _ => false
theorem b4t {α : Type} {f : α → α → Bool} (hf : ∀ x y, f x y = true → x = y) : ∀ {a b : List α}, b32 f a b = true → a = b
  | [], [], _ => rfl
  | x :: xs, y :: ys, h => by
    simp only [b32, Bool.and_eq_true] at h
    rw [hf x y h.1, b4t hf h.2]
  | [], _ :: _, h => by cases h
  | _ :: _, [], h => by cases h
def c2m : Value → Value → Bool
  | .int k a, .int k' b => decide (k = k') && decide (a = b)
  | .bool a, .bool b => decide (a = b)
  | .slice none a b, .slice none c d => decide (a = c) && decide (b = d)
  | _, _ => false
theorem d6s : ∀ x y, c2m x y = true → x = y := by
  intro x y h
  unfold c2m at h
  split at h
  · simp only [Bool.and_eq_true, decide_eq_true_eq] at h; rw [h.1, h.2]
  · simp only [decide_eq_true_eq] at h; rw [h]
  · simp only [Bool.and_eq_true, decide_eq_true_eq] at h; rw [h.1, h.2]
  · cases h
def b5b : Nat → AV → AV → Bool
  | 0, _, _ => false
  | _ + 1, .v x, .v y => c2m x y
  | n + 1, .agg a, .agg b => b32 (b5b n) a b
  | n + 1, .tup a, .tup b => b32 (b5b n) a b
  | n + 1, .fs s a, .fs s' b => decide (s = s') && b32 (b32 (b5b n)) a b
  | n + 1, .fp a o, .fp b o' => decide (o = o') && b32 (b5b n) a b
  | _ + 1, .rs a b c, .rs a' b' c' => decide (a = a') && (decide (b = b') && decide (c = c'))
  | _ + 1, .rp a b c, .rp a' b' c' => decide (a = a') && (decide (b = b') && decide (c = c'))
  | _ + 1, .dead, .dead => true
  | _ + 1, _, _ => false
theorem d6r : ∀ n x y, b5b n x y = true → x = y := by
  intro n
  induction n with
  | zero => intro x y h; cases h
  | succ n ih =>
    intro x y h
    cases x <;> cases y <;> simp only [b5b, Bool.false_eq_true, Bool.and_eq_true, decide_eq_true_eq] at h
    case v.v => rw [d6s _ _ h]
    case agg.agg => rw [b4t ih h]
    case tup.tup => rw [b4t ih h]
    case fs.fs => rw [h.1, b4t (fun _ _ => b4t ih) h.2]
    case fp.fp => rw [h.1, b4t ih h.2]
    case rs.rs => rw [h.1, h.2.1, h.2.2]
    case rp.rp => rw [h.1, h.2.1, h.2.2]
    case dead.dead => rfl
def c42 : Option Ob → Option Ob → Bool
  | none, none => true
  | some o, some p => decide (o.1 = p.1) && b32 (b32 (b5b 20)) o.2 p.2
  | _, _ => false
theorem g8y : ∀ {o p : Option Ob}, c42 o p = true → o = p
  | none, none, _ => rfl
  | some (a, b), some (c, d), h => by
    simp only [c42, Bool.and_eq_true, decide_eq_true_eq] at h
    rw [h.1, b4t (fun _ _ => b4t (d6r 20)) h.2]
  | none, some _, h => by cases h
  | some _, none, h => by cases h
def c0f (run : b20) : List XO → RS → Option (List RS)
  | [], s => some [s]
  | o :: l, s => match opR run o s with
    | some s' => (match c0f run l s' with | some r => some (s :: r) | none => none)
    | none => none
def c6h (xs : List XO) (ss : List RS) : Bool := (List.range xs.length).all fun k => match xs[k]?, ss[k]?, ss[k + 1]? with
  | some y, some s, some s' => !y.op.isW || (List.range xs.length).all fun j => match xs[j]?, ss[j]? with
    | some x, some sj => !x.op.look || (match b1o sj.st x.guard with
      | some true => (match b27 (sj.st.ev x.op.lookX) with | some id => c42 (s'.st.h.ob id) (s.st.h.ob id) | none => true)
      | _ => true)
    | _, _ => false
  | _, _, _ => false
def c4z (run : b20) (xs : List XO) (s : RS) : Option RS := match c0f run xs s with
  | some ss => if c6h xs ss = true then ss.getLast? else none
  | none => none
def b99 (body : RS → Option (XExit × RS)) : Nat → RS → Option (XExit × RS)
  | 0, _ => none
  | n + 1, s => match body s with
    | none => none
    | some (.normal, s') => b99 body n s'
    | some (.exit i, s') => some (.exit i, s')
    | some (.ret, s') => some (.ret, s')
def b2v (run : b20) (n : Nat) : XCode → RS → Option (XExit × RS)
  | .skip, s => some (.normal, s)
  | .reg ops, s => (match c0e run ops s with | some s' => some (.normal, s') | none => none)
  | .regW ops, s => (match c4z run ops s with | some s' => some (.normal, s') | none => none)
  | .seq a b, s => (match (if isG a then some (.normal, b7p b s) else b2v run n a s) with
    | none => none
    | some (.normal, s') => b2v run n b s'
    | some (.exit i, s') => some (.exit i, s')
    | some (.ret, s') => some (.ret, s'))
  | .cond c a b, s => (match s.st.ev c with
    | .v (.bool true) => b2v run n a s
    | .v (.bool false) => b2v run n b s
    | _ => none)
  | .block id a, s => (match b2v run n a s with
    | some (.exit i, s') => if i = id then some (.normal, s') else some (.exit i, s')
    | some (.normal, s') => some (.normal, s')
    | some (.ret, s') => some (.ret, s')
    | none => none)
  | .loop a, s => b99 (b2v run n a) n s
  | .exit id, s => some (.exit id, s)
  | .ret, s => some (.ret, s)
  | .ghost, s => some (.normal, s)
def b8e (tbl : List (String × XFunc)) : Nat → b20
  | 0, _, _, _ => none
  | d + 1, f, as, ob => match tbl.find? fun p => p.1 == f with
    | none => none
    | some p => if as.length = p.2.np then (match (ofL as 0 .e).bind fun t => b2v (b8e tbl d) 10000 p.2.body ⟨t, ob⟩ with
      | none => none
      | some (.exit _, _) => none
      | some (_, s') => (match p.2.res.mapM (b2y s'.st) with | some rs => some (rs, s'.ob) | none => none)) else none
section
variable {O : Orac} {run : b20} (hr : c13 O run)
include hr
omit hr in
theorem b3x {O : Orac} {dst : Option Nat} {guard : Option (Nat × Bool)} {op : XOp} {e : Option (AV × Heap)} {s s' : RS} (hp : b79 op = true) (he : e = eff op s.st.ev s.st.h) (hg : b1o s.st guard = some true) (h : oP dst e s = some s') :
    wpOp O ⟨dst, guard, op⟩ s.st (· = s'.st) ∧ s.ob.length ≤ s'.ob.length := by
  obtain ⟨r, h1, h2, h3⟩ := g57 hp he h
  refine ⟨?_, by rw [h2]; exact Nat.le_refl _⟩
  rw [h3]
  cases op <;> simp only [b79, Bool.false_eq_true] at hp
  all_goals
    unfold wpOp
    simp only [hg]
    exact ⟨r, _, h1, rfl⟩
theorem d0d {o : XO} {s s' : RS} (h : opR run o s = some s') : wpOp O o s.st (· = s'.st) ∧ s.ob.length ≤ s'.ob.length := by
  obtain ⟨dst, guard, op⟩ := o
  unfold opR at h
  simp only at h
  cases hg : b1o s.st guard with
  | none => rw [hg] at h; cases h
  | some w =>
    rw [hg] at h
    cases w with
    | false =>
      simp only at h
      cases op
      case callw => cases h
      all_goals
        obtain ⟨t', h, ht⟩ := b5m h
        cases h
        refine ⟨?_, Nat.le_refl _⟩
        unfold wpOp
        simp only [hg]
        rw [ht]
        cases dst <;> rfl
    | true =>
      simp only [oR] at h
      cases op
      case callw f args =>
        simp only [oW, b4c] at h
        split at h
        · rename_i rs ob' hrun
          rw [b7i] at h
          obtain ⟨t', h, ht⟩ := b5m h
          cases h
          obtain ⟨fn, e, s2, hhas, hnp, hen, hwp, hres, hob, hle⟩ := hr _ _ _ _ _ hrun
          refine ⟨?_, hle⟩
          unfold wpOp
          simp only [hg]
          refine ⟨b3f rs, b08 ob', hhas.w _ _ _ _ hnp ?_, ?_, (ht ob').symm⟩
          · refine b1z _ ?_ hwp
            rintro e2 s3 ⟨rfl, rfl⟩
            have hh : s2.st.h = b08 ob' := by rw [← hob]; rfl
            rcases hen with rfl | rfl <;> exact ⟨⟨rs, hres, rfl⟩, hh⟩
          · obtain ⟨_, _, ⟨h1, h2⟩, hfr, _⟩ := j0v _ hwp
            rw [h2, show s2.st.h = b08 ob' by rw [← hob]; rfl] at hfr
            exact hfr
        · cases h
      case call f args =>
        simp only [oC, b4c] at h
        split at h
        · rename_i r ob' hc
          rw [b7i] at h
          obtain ⟨t', h, ht⟩ := b5m h
          cases h
          obtain ⟨h1, h2⟩ := c50 hr hc
          refine ⟨?_, h2⟩
          unfold wpOp
          simp only [hg]
          exact ⟨r, _, h1, (ht ob').symm⟩
        · cases h
      case callv f args =>
        simp only [oV, oC, b4c] at h
        split at h
        · rename_i n a b hcal
          split at h
          · rename_i r ob' hc
            rw [b7i] at h
            obtain ⟨t', h, ht⟩ := b5m h
            cases h
            obtain ⟨h1, h2⟩ := c50 hr hc
            refine ⟨?_, h2⟩
            unfold wpOp
            simp only [hg]
            exact ⟨n, a, b, hcal, r, _, h1, (ht ob').symm⟩
          · cases h
        · cases h
      case boxF x =>
        simp only [oB] at h
        split at h
        · rename_i hok
          rw [b39 (b7h 8)] at h
          obtain ⟨t', h, ht⟩ := b5m h
          cases h
          refine ⟨?_, Nat.le_refl _⟩
          unfold wpOp
          simp only [hg]
          exact ⟨hok, (ht s.ob).symm⟩
        · cases h
      case mv => exact b3x rfl (b3j _ _ _) hg h
      case bin => exact b3x rfl (b3j _ _ _) hg h
      case un => exact b3x rfl (b3j _ _ _) hg h
      case load => exact b3x rfl (b3j _ _ _) hg h
      case ixA => exact b3x rfl (b3j _ _ _) hg h
      case fldA => exact b3x rfl (b3j _ _ _) hg h
      case fld => exact b3x rfl (b3j _ _ _) hg h
      case ext => exact b3x rfl (b3j _ _ _) hg h
      case len => exact b3x rfl (b3j _ _ _) hg h
      case nilck => exact b3x rfl (b3j _ _ _) hg h
      case pick => exact b3x rfl (b3j _ _ _) hg h
      all_goals
        simp only [oE, b4c] at h
        split at h
        · rename_i r ob' hc
          rw [b7i] at h
          obtain ⟨t', h, ht⟩ := b5m h
          cases h
          obtain ⟨h1, h2⟩ := d6k (by intro f as e; cases e) hc
          refine ⟨?_, h2⟩
          unfold wpOp
          simp only [hg]
          exact ⟨r, _, h1, (ht ob').symm⟩
        · cases h
theorem d0f : ∀ {l : List XO} {s s' : RS}, c0e run l s = some s' → b2b O l (· = s'.st) s.st ∧ s.ob.length ≤ s'.ob.length
  | [], s, s', h => by cases h; exact ⟨rfl, Nat.le_refl _⟩
  | o :: l, s, s', h => by
    simp only [c0e] at h
    split at h
    · rename_i s1 h1
      obtain ⟨a, b⟩ := d0d hr h1
      obtain ⟨c, d⟩ := d0f h
      exact ⟨c01 a c, Nat.le_trans b d⟩
    · cases h
omit hr in
theorem g2l {O : Orac} {a : XCode} {Q : XPost} {s s1 : St} (h1 : wp O a (fun e s2 => e = .normal ∧ s2 = s1) s) (h2 : wp O (.loop a) Q s1) : wp O (.loop a) Q s := by
  obtain ⟨I, m, hI, hstep⟩ := h2
  by_cases hs : I s
  · exact ⟨I, m, hs, hstep⟩
  · classical
    refine ⟨fun x => x = s ∨ I x, fun x => if x = s then m s1 + 1 else m x, .inl rfl, fun x hx => ?_⟩
    have ne : ∀ y, I y → ¬ y = s := fun y hy e => hs (e ▸ hy)
    by_cases hxs : x = s
    · subst hxs
      refine b1z a ?_ h1
      rintro e s2 ⟨rfl, rfl⟩
      exact ⟨.inr hI, by simp only [ne _ hI, if_true, if_false]; omega⟩
    · have hIx : I x := hx.resolve_left hxs
      refine b1z a ?_ (hstep x hIx)
      rintro e s2 hq
      cases e with
      | normal => exact ⟨.inr hq.1, by simp only [hxs, ne _ hq.1, if_false]; exact hq.2⟩
      | exit i => exact hq
      | ret => exact hq
omit hr in
theorem c9v {O : Orac} {a : XCode} {Q : XPost} {s s1 : St} {e : XExit} (hne : e ≠ .normal) (h1 : wp O a (fun e2 s2 => e2 = e ∧ s2 = s1) s) (hq : Q e s1) : wp O (.loop a) Q s := by
  refine ⟨fun x => x = s, fun _ => 0, rfl, fun x hx => ?_⟩
  subst hx
  refine b1z a ?_ h1
  rintro e2 s2 ⟨rfl, rfl⟩
  cases e2 with
  | normal => exact absurd rfl hne
  | exit i => exact hq
  | ret => exact hq
theorem d0g : ∀ {xs : List XO} {s : RS} {ss : List RS}, c0f run xs s = some ss → ss.length = xs.length + 1 ∧ ss[0]? = some s ∧
    ∀ (i : Nat) x, xs[i]? = some x → ∃ a b, ss[i]? = some a ∧ ss[i + 1]? = some b ∧ wpOp O x a.st (· = b.st) ∧ a.ob.length ≤ b.ob.length
  | [], s, ss, h => by cases h; exact ⟨rfl, rfl, fun i x hx => by simp at hx⟩
  | o :: l, s, ss, h => by
    simp only [c0f] at h
    split at h
    · rename_i s' h1
      split at h
      · rename_i r h2
        cases h
        obtain ⟨q1, q2, q3⟩ := d0g h2
        obtain ⟨p1, p2⟩ := d0d hr h1
        refine ⟨by simp [q1], rfl, fun i x hx => ?_⟩
        cases i with
        | zero =>
          simp at hx; subst hx
          exact ⟨s, s', rfl, by simpa using q2, p1, p2⟩
        | succ i => simpa using q3 i x (by simpa using hx)
      · cases h
    · cases h
theorem g75 {xs : List XO} {s s' : RS} (h : c4z run xs s = some s') : wp O (.regW xs) (fun e2 s2 => e2 = .normal ∧ s2 = s'.st) s.st ∧ s.ob.length ≤ s'.ob.length := by
  unfold c4z at h
  split at h
  · rename_i ss h1
    split at h
    · rename_i hdy
      obtain ⟨q1, q2, q3⟩ := d0g hr h1
      have hlast : ss[xs.length]? = some s' := by
        rw [List.getLast?_eq_getElem?, q1] at h; simpa using h
      let S : Nat → St := fun i => ((ss[i]?).getD s).st
      have hS : ∀ {i : Nat} {a : RS}, ss[i]? = some a → S i = a.st := fun {i a} ha => by show ((ss[i]?).getD s).st = _; rw [ha]; rfl
      refine ⟨⟨S, hS q2, fun i x hx => ?_, fun j k x y id hx hy hl hw hwt hrf => ?_, rfl, hS hlast⟩, ?_⟩
      · obtain ⟨a, b, ha, hb, hp, _⟩ := q3 i x hx
        rw [hS ha, hS hb]; exact hp
      · obtain ⟨a, b, ha, hb, _, _⟩ := q3 k y hy
        obtain ⟨c, _, hc, _, _, _⟩ := q3 j x hx
        rw [hS hc] at hwt hrf
        unfold c6h at hdy
        have h2 := List.all_eq_true.1 hdy k (List.mem_range.2 (List.getElem?_eq_some_iff.1 hy).1)
        rw [hy, ha, hb] at h2
        simp only [hw, Bool.not_true, Bool.false_or] at h2
        have h3 := List.all_eq_true.1 h2 j (List.mem_range.2 (List.getElem?_eq_some_iff.1 hx).1)
        rw [hx, hc] at h3
        simp only [hl, Bool.not_true, Bool.false_or, hwt, hrf] at h3
        rw [hS ha, hS hb]
        exact g8y h3
      · have key : ∀ m, m ≤ xs.length → ∀ a, ss[m]? = some a → s.ob.length ≤ a.ob.length := by
          intro m
          induction m with
          | zero => intro _ a ha; rw [q2] at ha; cases ha; exact Nat.le_refl _
          | succ m ih =>
            intro hm a ha
            obtain ⟨b, c, hb, hc, _, hle⟩ := q3 m _ (List.getElem?_eq_getElem (by omega))
            rw [hc] at ha; cases ha
            exact Nat.le_trans (ih (by omega) b hb) hle
        exact key _ (Nat.le_refl _) s' hlast
    · cases h
  · cases h
theorem g8n (n : Nat) : ∀ (c : XCode) {s s' : RS} {e : XExit}, b2v run n c s = some (e, s') → wp O c (fun e2 s2 => e2 = e ∧ s2 = s'.st) s.st ∧ s.ob.length ≤ s'.ob.length := by
  intro c
  induction c with
  | skip => intro s s' e h; cases h; exact ⟨⟨rfl, rfl⟩, Nat.le_refl _⟩
  | reg ops =>
    intro s s' e h
    simp only [b2v] at h
    split at h
    · rename_i s1 h1
      cases h
      obtain ⟨a, b⟩ := d0f hr h1
      refine ⟨?_, b⟩
      show b2b O ops (fun s2 => XExit.normal = XExit.normal ∧ s2 = s'.st) s.st
      exact c02 (fun x hx => ⟨rfl, hx⟩) a
    · cases h
  | regW ops =>
    intro s s' e h
    simp only [b2v] at h
    split at h
    · rename_i s1 h1
      cases h
      exact g75 hr h1
    · cases h
  | seq a b iha ihb =>
    intro s s' e h
    simp only [b2v] at h
    have iha : ∀ {s s' : RS} {e : XExit}, (if isG a then some (.normal, b7p b s) else b2v run n a s) = some (e, s') → wp O a (fun e2 s2 => e2 = e ∧ s2 = s'.st) s.st ∧ s.ob.length ≤ s'.ob.length := by
      intro s s' e h
      by_cases hg : isG a = true
      · rw [if_pos hg] at h
        cases h
        cases a <;> simp only [isG, Bool.false_eq_true] at hg
        obtain ⟨q1, q2⟩ := d7x b s
        exact ⟨⟨_, q1, rfl, rfl⟩, by rw [q2]; exact Nat.le_refl _⟩
      · rw [if_neg hg] at h; exact iha h
    split at h
    · cases h
    · rename_i s1 h1
      obtain ⟨p, q⟩ := iha h1
      obtain ⟨p2, q2⟩ := ihb h
      refine ⟨?_, Nat.le_trans q q2⟩
      show wp O a _ s.st
      refine b1z a ?_ p
      rintro e2 s2 ⟨rfl, rfl⟩
      exact p2
    · rename_i i s1 h1
      cases h
      obtain ⟨p, q⟩ := iha h1
      refine ⟨?_, q⟩
      show wp O a _ s.st
      refine b1z a ?_ p
      rintro e2 s2 ⟨rfl, rfl⟩
      exact ⟨rfl, rfl⟩
    · rename_i s1 h1
      cases h
      obtain ⟨p, q⟩ := iha h1
      refine ⟨?_, q⟩
      show wp O a _ s.st
      refine b1z a ?_ p
      rintro e2 s2 ⟨rfl, rfl⟩
      exact ⟨rfl, rfl⟩
  | cond c a b iha ihb =>
    intro s s' e h
    simp only [b2v] at h
    split at h
    · rename_i hc
      obtain ⟨p, q⟩ := iha h
      exact ⟨⟨true, hc, fun _ => p, fun h => by cases h⟩, q⟩
    · rename_i hc
      obtain ⟨p, q⟩ := ihb h
      exact ⟨⟨false, hc, (fun h => by cases h), fun _ => p⟩, q⟩
    · cases h
  | block id a ih =>
    intro s s' e h
    simp only [b2v] at h
    split at h
    · rename_i i s1 h1
      obtain ⟨p, q⟩ := ih h1
      split at h
      · rename_i hi
        cases h
        refine ⟨?_, q⟩
        show wp O a _ s.st
        refine b1z a ?_ p
        rintro e2 s2 ⟨rfl, rfl⟩
        simp only [XPost.block, hi, if_true]; exact ⟨trivial, trivial⟩
      · rename_i hi
        cases h
        refine ⟨?_, q⟩
        show wp O a _ s.st
        refine b1z a ?_ p
        rintro e2 s2 ⟨rfl, rfl⟩
        simp only [XPost.block, hi, if_false]; exact ⟨trivial, trivial⟩
    · rename_i s1 h1
      cases h
      obtain ⟨p, q⟩ := ih h1
      refine ⟨?_, q⟩
      show wp O a _ s.st
      refine b1z a ?_ p
      rintro e2 s2 ⟨rfl, rfl⟩
      exact ⟨rfl, rfl⟩
    · rename_i s1 h1
      cases h
      obtain ⟨p, q⟩ := ih h1
      refine ⟨?_, q⟩
      show wp O a _ s.st
      refine b1z a ?_ p
      rintro e2 s2 ⟨rfl, rfl⟩
      exact ⟨rfl, rfl⟩
    · cases h
  | loop a ih =>
    intro s s' e h
    simp only [b2v] at h
    have key : ∀ (k : Nat) (s : RS), b99 (b2v run n a) k s = some (e, s') → wp O (.loop a) (fun e2 s2 => e2 = e ∧ s2 = s'.st) s.st ∧ s.ob.length ≤ s'.ob.length := by
      intro k
      induction k with
      | zero => intro s h; cases h
      | succ k ihk =>
        intro s h
        simp only [b99] at h
        split at h
        · cases h
        · rename_i s1 h1
          obtain ⟨p, q⟩ := ih h1
          obtain ⟨p2, q2⟩ := ihk s1 h
          exact ⟨g2l p p2, Nat.le_trans q q2⟩
        · rename_i i s1 h1
          cases h
          obtain ⟨p, q⟩ := ih h1
          exact ⟨c9v (by simp) p ⟨rfl, rfl⟩, q⟩
        · rename_i s1 h1
          cases h
          obtain ⟨p, q⟩ := ih h1
          exact ⟨c9v (by simp) p ⟨rfl, rfl⟩, q⟩
    exact key n s h
  | exit id => intro s s' e h; cases h; exact ⟨⟨rfl, rfl⟩, Nat.le_refl _⟩
  | ret => intro s s' e h; cases h; exact ⟨⟨rfl, rfl⟩, Nat.le_refl _⟩
  | ghost =>
    intro s s' e h
    cases h
    refine ⟨⟨s.st, ⟨fun _ => false, rfl, rfl, fun id sz es' hes => ⟨rfl, es', hes, .inl rfl, fun i j d hd => ⟨d, hd, .inl rfl⟩⟩, fun t => .inl rfl⟩, rfl, rfl⟩, Nat.le_refl _⟩
end
theorem d06 {O : Orac} {tbl : List (String × XFunc)} (ht : ∀ p ∈ tbl, Has O p.1 p.2) : ∀ d, c13 O (b8e tbl d)
  | 0 => fun f as ob rs ob' h => by cases h
  | d + 1 => fun f as ob rs ob' h => by
    simp only [b8e] at h
    split at h
    · cases h
    · rename_i p hp
      split at h
      · rename_i hnp
        have hm := List.mem_of_find?_eq_some hp
        have hf : p.1 = f := by have := List.find?_some hp; simpa using this
        subst hf
        split at h
        · cases h
        · cases h
        · rename_i e s' hex hrun
          split at h
          · rename_i rs' hres
            cases h
            obtain ⟨t, ht0, hrun⟩ := Option.bind_eq_some_iff.1 hrun
            obtain ⟨a, b⟩ := g8n (d06 ht d) 10000 _ hrun
            rw [g59 ht0] at a
            refine ⟨p.2, e, s', ht p hm, hnp, ?_, a, hres, rfl, b⟩
            cases e with
            | normal => exact .inl rfl
            | ret => exact .inr rfl
            | exit i => exact absurd rfl (hex i)
          · cases h
      · cases h
theorem g8r {O : Orac} {tbl : List (String × XFunc)} (ht : ∀ p ∈ tbl, Has O p.1 p.2) {d : Nat} {f : String} {x : Value} {ob' : List (Option Ob)} (h : b8e tbl d f [] [] = some ([.v x], ob')) : O f [] (.v x) [] := by
  obtain ⟨fn, e, s', hhas, hnp, hen, hwp, hres, hob1, _⟩ := d06 ht d _ _ _ _ _ h
  refine hhas.p [] _ [] hnp ?_ (fun a ha => by cases ha)
  have hs : (start []) = { start [] with h := b08 [] } := by rw [c7h]; rfl
  rw [hs]
  refine b1z _ ?_ hwp
  rintro e2 s2 ⟨rfl, rfl⟩
  have hd : b3b fn.res (.v x) [] s'.st := .inl ⟨rfl, _, hres, .refl _ (.v x)⟩
  rcases hen with rfl | rfl <;> exact hd
end Go.Nw
