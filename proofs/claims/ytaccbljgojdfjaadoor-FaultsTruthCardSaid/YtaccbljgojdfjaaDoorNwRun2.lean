/- Closed calls, computed: operations, calls, codes. -/
import Derived.Test.YtaccbljgojdfjaaDoorNwRun
import Derived.Test.YtaccbljgojdfjaaDoorNwExact
set_option linter.all false
set_option linter.unusedVariables false
set_option linter.unusedSimpArgs false
set_option linter.unusedSectionVars false
namespace Go.Nw
def c31 (x : X) (ev : X → AV) (h : Heap) : Option (AV × Heap) := some (ev x, h)
def c33 (c : X) (a : X) (b : X) (ev : X → AV) (h : Heap) : Option (AV × Heap) := match ev c with | .v (.bool t) => some (if t then ev a else ev b, h) | _ => none
def d2f (x : X) (ev : X → AV) (h : Heap) : Option (AV × Heap) := if b02 (ev x) then some (.rp h.nx 0 0, h.new ((cellsOf (ev x)).length, [cellsOf (ev x)])) else none
def d2c (zs : List Value) (ev : X → AV) (h : Heap) : Option (AV × Heap) := some (.rp h.nx 0 0, h.new (zs.length, [zs.map .v]))
def d2h (zs : List Value) (parts : List (Nat × Nat × X)) (ev : X → AV) (h : Heap) : Option (AV × Heap) :=
    (b32 (parts.map fun p => (p.1, p.2.1, ev p.2.2))).bind fun ps => if ps.all fun p => decide (p.1 + p.2.length ≤ zs.length) then some (.agg (place (zs.map .v) ps), h) else none
def d2g (sz : Nat) (parts : List X) (ev : X → AV) (h : Heap) : Option (AV × Heap) :=
    if (parts.map ev).all fun x => b02 x && (cellsOf x).length == sz then some (.rs h.nx 0 parts.length, h.new (sz, (parts.map ev).map cellsOf)) else none
def c30 (agg : Bool) (n : Nat) (a : X) (ev : X → AV) (h : Heap) : Option (AV × Heap) :=
    match ev a with
    | .fp cs off => if agg then (if off + n ≤ cs.length then some (.agg ((cs.drop off).take n), h) else none) else (cs[off]?).map fun x => (x, h)
    | .rp id i off => (h.ob id).bind fun o => (o.2[i]?).bind fun cs =>
        if agg then (if off + n ≤ cs.length then some (.agg ((cs.drop off).take n), h) else none) else (cs[off]?).map fun x => (x, h)
    | _ => none
def d2s (n : Nat) (a : X) (x : X) (ev : X → AV) (h : Heap) : Option (AV × Heap) :=
    match ev a with
    | .rp id i off => (h.ob id).bind fun o => (o.2[i]?).bind fun cs =>
        if b02 (ev x) ∧ (cellsOf (ev x)).length = n ∧ off + n ≤ cs.length then
          some (.dead, h.upd id (some (o.1, o.2.set i (cs.take off ++ cellsOf (ev x) ++ cs.drop (off + n)))))
        else none
    | _ => none
def c32 (x : X) (ev : X → AV) (h : Heap) : Option (AV × Heap) := match ev x with | .fp cs off => some (.fp cs off, h) | .rp id i off => (h.ob id).bind fun _ => some (.rp id i off, h) | .fn f a b => some (.fn f a b, h) | _ => none
def b73 (op : BinOp) (k : EqK) (x : X) (y : X) (ev : X → AV) (h : Heap) : Option (AV × Heap) := (b10 op k (ev x) (ev y)).map fun r => (r, h)
def c34 (op : UnOp) (x : X) (ev : X → AV) (h : Heap) : Option (AV × Heap) := (b4l op (ev x)).map fun r => (r, h)
def d2i (k : IntKind) (x : X) (ev : X → AV) (h : Heap) : Option (AV × Heap) := match ev x with | .v (.int _ n) => some (.v (.int k (k.wrap n)), h) | _ => none
def d2p (f : String) (first : List X) (caps : List X) (ev : X → AV) (h : Heap) : Option (AV × Heap) := some (.fn f (first.map ev) (caps.map ev), h)
def d2q (sz : Nat) (zs : List Value) (bytes : Nat) (len : X) (cap : X) (ev : X → AV) (h : Heap) : Option (AV × Heap) :=
    match ev len, ev cap with
    | .v (.int _ n), .v (.int _ c) => if n = c ∧ 0 ≤ n ∧ n * bytes ≤ 2 ^ 47 ∧ n < 2 ^ 63 then some (.rs h.nx 0 n.toNat, h.new (sz, List.replicate n.toNat (zs.map .v))) else none
    | _, _ => none
def d2r (n : Nat) (x : X) (lo : Option X) (hi : Option X) (ev : X → AV) (h : Heap) : Option (AV × Heap) :=
    (b1k (ev x)).bind fun len =>
    (b3e 0 (lo.map ev)).bind fun l =>
    (b3i len (hi.map ev)).bind fun r =>
    if l ≤ r then
      match ev x with
      | .fs sz es => if sz = n then some (.fs sz ((es.take r).drop l), h) else none
      | .rs id lo' _ => (h.ob id).bind fun o => if (l = 0 ∨ l < r) ∧ o.1 = n then some (.rs id (lo' + l) (r - l), h) else none
      | _ => none
    else none
def c3v (off : Nat) (x : X) (ev : X → AV) (h : Heap) : Option (AV × Heap) := match ev x with | .fp cs o => some (.fp cs (o + off), h) | .rp id i o => (h.ob id).bind fun _ => some (.rp id i (o + off), h) | _ => none
def c3u (agg : Bool) (n : Nat) (off : Nat) (x : X) (ev : X → AV) (h : Heap) : Option (AV × Heap) := match ev x with
    | .agg cs => if agg then (if off + n ≤ cs.length then some (.agg ((cs.drop off).take n), h) else none) else (cs[off]?).map fun x => (x, h)
    | _ => none
def c3w (n : Nat) (x : X) (i : X) (ev : X → AV) (h : Heap) : Option (AV × Heap) := match ev x, ev i with
    | .fs sz es, .v (.int _ k) => if sz = n ∧ 0 ≤ k then (es[k.toNat]?).map fun cs => (.fp cs 0, h) else none
    | .rs id lo len, .v (.int _ k) => (h.ob id).bind fun o => if o.1 = n ∧ 0 ≤ k ∧ k < len then some (.rp id (lo + k.toNat) 0, h) else none
    | _, _ => none
def d2k (sz : Nat) (len : Nat) (x : X) (i : X) (ev : X → AV) (h : Heap) : Option (AV × Heap) := match ev x, ev i with
    | .fp cs off, .v (.int _ n) => if 0 ≤ n ∧ n < len then some (.fp cs (off + n.toNat * sz), h) else none
    | .rp id k off, .v (.int _ n) => (h.ob id).bind fun _ => if 0 ≤ n ∧ n < len then some (.rp id k (off + n.toNat * sz), h) else none
    | _, _ => none
def d2m (sz : Nat) (len : Nat) (agg : Bool) (x : X) (i : X) (ev : X → AV) (h : Heap) : Option (AV × Heap) := match ev x, ev i with
    | .agg cs, .v (.int _ n) => if 0 ≤ n ∧ n < len then (if agg then (if n.toNat * sz + sz ≤ cs.length then some (.agg ((cs.drop (n.toNat * sz)).take sz), h) else none) else (cs[n.toNat * sz]?).map fun x => (x, h)) else none
    | _, _ => none
def d2l (x : X) (i : X) (ev : X → AV) (h : Heap) : Option (AV × Heap) := match ev x, ev i with
    | .v (.string s), .v (.int _ n) => if 0 ≤ n then (s.data.toList[n.toNat]?).map fun b => (.v (.int .u8 b.toNat), h) else none
    | _, _ => none
def c3t (x : X) (i : Nat) (ev : X → AV) (h : Heap) : Option (AV × Heap) := match ev x with | .tup vs => (vs[i]?).map fun x => (x, h) | _ => none
def c3z (str : Bool) (x : X) (ev : X → AV) (h : Heap) : Option (AV × Heap) := if str then (match ev x with | .v (.string s) => some (.v (.int .i64 s.size), h) | _ => none) else (b1k (ev x)).map fun n : Nat => (.v (.int .i64 n), h)
def d2o (xs : List X) (ev : X → AV) (h : Heap) : Option (AV × Heap) := (b21 b4f (xs.map ev)).map fun r => (r, h)
def d2n (xs : List X) (ev : X → AV) (h : Heap) : Option (AV × Heap) := (b21 b4e (xs.map ev)).map fun r => (r, h)
def d2d (sz : Nat) (bytes : Nat) (s : X) (x : X) (ev : X → AV) (h : Heap) : Option (AV × Heap) :=
    match ev x with
    | .rs id2 lo2 len2 =>
      (h.ob id2).bind fun o2 =>
      match ev s with
      | .v (.slice none 0 0) => if len2 = 0 then some (.v (.slice none 0 0), h) else if o2.1 = sz ∧ lo2 + len2 ≤ o2.2.length ∧ len2 * bytes ≤ 2 ^ 40 then some (.rs h.nx 0 len2, h.new (sz, (o2.2.drop lo2).take len2)) else none
      | .rs id lo len => (h.ob id).bind fun o =>
          if o.1 = sz ∧ o2.1 = sz ∧ id ≠ id2 ∧ lo + len ≤ o.2.length ∧ lo2 + len2 ≤ o2.2.length ∧ (len + len2) * bytes ≤ 2 ^ 40 then
            some (.rs h.nx 0 (len + len2), (h.upd id none).new (sz, (o.2.drop lo).take len ++ (o2.2.drop lo2).take len2))
          else none
      | _ => none
    | .fs sz2 es =>
      match ev s with
      | .v (.slice none 0 0) => if es.length = 0 then some (.v (.slice none 0 0), h) else if sz2 = sz ∧ es.length * bytes ≤ 2 ^ 40 then some (.rs h.nx 0 es.length, h.new (sz, es)) else none
      | .rs id lo len => (h.ob id).bind fun o =>
          if o.1 = sz ∧ sz2 = sz ∧ lo + len ≤ o.2.length ∧ (len + es.length) * bytes ≤ 2 ^ 40 then
            some (.rs h.nx 0 (len + es.length), (h.upd id none).new (sz, (o.2.drop lo).take len ++ es))
          else none
      | _ => none
    | _ => none
def b4w (x : AV) (no : Unit → Option (AV × Heap)) (k : IntKind → Int → Option (AV × Heap)) : Option (AV × Heap) := match x with
  | .v a => (match a with | .int kd n => k kd n | _ => no ())
  | _ => no ()
theorem c6h {x : AV} {no : Unit → Option (AV × Heap)} {k : IntKind → Int → Option (AV × Heap)} {r : Option (AV × Heap)} (h0 : no () = r) (h1 : ∀ kd n, x = .v (.int kd n) → k kd n = r) : b4w x no k = r := by
  unfold b4w
  cases x with
  | v a => cases a with
    | int kd n => exact h1 kd n rfl
    | _ => exact h0
  | _ => exact h0
def c0p (op : BinOp) (k : EqK) (x y : X) (ev : X → AV) (h : Heap) : Option (AV × Heap) :=
  b4w (ev x) (fun _ => b73 op k x y ev h) fun k1 a => b4w (ev y) (fun _ => b73 op k x y ev h) fun k2 b => (b1x op k1 a k2 b).map fun r => (.v r, h)
theorem d2e {op : BinOp} {k : EqK} {x y : X} {ev : X → AV} {h : Heap} : c0p op k x y ev h = b73 op k x y ev h :=
  c6h rfl fun k1 a hx => c6h rfl fun k2 b hy => by
    unfold b73
    rw [hx, hy]
    show _ = (((b1x op k1 a k2 b).map AV.v).map fun r => (r, h))
    rw [Option.map_map]; rfl
def c3x (n : Nat) (sz : Nat) (es : List (List AV)) (h : Heap) (k : Int) : Option (AV × Heap) := if sz = n ∧ 0 ≤ k then (es[k.toNat]?).map fun cs => (.fp cs 0, h) else none
def c3y (n : Nat) (id lo len : Nat) (h : Heap) (k : Int) : Option (AV × Heap) := (h.ob id).bind fun o => if o.1 = n ∧ 0 ≤ k ∧ k < len then some (.rp id (lo + k.toNat) 0, h) else none
def b74 (n : Nat) (x i : X) (ev : X → AV) (h : Heap) : Option (AV × Heap) :=
  match ev x with
  | .fs sz es => b4w (ev i) (fun _ => none) fun _ k => c3x n sz es h k
  | .rs id lo len => b4w (ev i) (fun _ => none) fun _ k => c3y n id lo len h k
  | _ => none
theorem d2j {n : Nat} {x i : X} {ev : X → AV} {h : Heap} : b74 n x i ev h = c3w n x i ev h := by
  unfold b74 c3w c3x c3y b4w
  cases ev x <;> try rfl
  all_goals
    cases ev i <;> try rfl
    rename_i a
    cases a <;> rfl
def c36 (op : XOp) (ev : X → AV) (h : Heap) : Option (AV × Heap) :=
  match op with
  | .mv x => c31 x ev h
  | .pick c a b => c33 c a b ev h
  | .box x => d2f x ev h
  | .alloc zs => d2c zs ev h
  | .build zs parts => d2h zs parts ev h
  | .bsl sz parts => d2g sz parts ev h
  | .load agg n a => c30 agg n a ev h
  | .store n a x => d2s n a x ev h
  | .nilck x => c32 x ev h
  | .bin op k x y => c0p op k x y ev h
  | .un op x => c34 op x ev h
  | .cvtI k x => d2i k x ev h
  | .mkfn f first caps => d2p f first caps ev h
  | .mksl sz zs bytes len cap => d2q sz zs bytes len cap ev h
  | .slc n x lo hi => d2r n x lo hi ev h
  | .fldA off x => c3v off x ev h
  | .fld agg n off x => c3u agg n off x ev h
  | .ixA n x i => b74 n x i ev h
  | .ixP sz len x i => d2k sz len x i ev h
  | .ixV sz len agg x i => d2m sz len agg x i ev h
  | .ixS x i => d2l x i ev h
  | .ext x i => c3t x i ev h
  | .len str x => c3z str x ev h
  | .min xs => d2o xs ev h
  | .max xs => d2n xs ev h
  | .app sz bytes s x => d2d sz bytes s x ev h
  | _ => none
theorem b20 (op : XOp) (ev : X → AV) (h : Heap) : c36 op ev h = eff op ev h := by
  cases op
  case bin => exact d2e
  case ixA => exact d2j
  all_goals rfl
def chg (op : XOp) (ev : X → AV) : Option Nat := match op with
  | .store _ a _ => (match ev a with | .rp id _ _ => some id | _ => none)
  | .app _ _ s _ => (match ev s with | .rs id _ _ => some id | _ => none)
  | _ => none
def c0q (op : XOp) (ev : X → AV) (l : List (Option Ob)) : Option (AV × List (Option Ob)) :=
  match c36 op ev (b0x l) with
  | none => none
  | some (r, h') => match chg op ev with
    | some id => if h'.nx = l.length then fO (h'.ob id) fun o => fS (l.set id o) fun l' => some (r, l') else fO (h'.ob id) fun o => fL fO ((List.range (h'.nx - l.length)).map fun i => h'.ob (l.length + i)) fun m => fS (l.set id o ++ m) fun l' => some (r, l')
    | none => if h'.nx = l.length then some (r, l) else fL fO ((List.range (h'.nx - l.length)).map fun i => h'.ob (l.length + i)) fun m => fS (l ++ m) fun l' => some (r, l')
theorem c3m {op : XOp} {ev : X → AV} (hw : ∀ f as, op ≠ .callw f as) {id : Nat} : op.touch ev id ↔ chg op ev = some id := by
  cases op <;> simp only [XOp.touch, chg]
  case store n a x =>
    cases ev a <;> simp
  case app sz by' s x =>
    cases ev s <;> simp
  case callw f as => exact absurd rfl (hw f as)
  all_goals simp
theorem c4o {l : List (Option Ob)} {h : Heap} (hn : h.nx = l.length) (hu : ∀ id, h.us id ↔ id < l.length) (ho : ∀ id, h.ob id = (l[id]?).join) : b0x l = h := by
  obtain ⟨ob, us, nx⟩ := h
  simp only at hn
  subst hn
  unfold b0x
  congr 1
  · funext i; exact (ho i).symm
  · funext k; exact propext (hu k).symm
theorem d2t {op : XOp} {ev : X → AV} {l l' : List (Option Ob)} {r : AV} (hw : ∀ f as, op ≠ .callw f as) (h : c0q op ev l = some (r, l')) : eff op ev (b0x l) = some (r, b0x l') ∧ l.length ≤ l'.length := by
  unfold c0q at h
  rw [b20] at h
  cases he : eff op ev (b0x l) with
  | none => rw [he] at h; cases h
  | some p =>
    obtain ⟨r1, h'⟩ := p
    rw [he] at h
    simp only [c0w, c0x, b3y (fun a k => c0w (o := a) (k := k))] at h
    have fr := c37 he
    have hnx : l.length ≤ h'.nx := fr.nx
    have hus : ∀ id, h'.us id ↔ id < h'.nx := fun id => by
      rw [fr.us id]
      show id < l.length ∨ (l.length ≤ id ∧ id < h'.nx) ↔ _
      omega
    have hob : ∀ id, chg op ev ≠ some id → ¬ (l.length ≤ id ∧ id < h'.nx) → h'.ob id = (l[id]?).join := fun id h1 h2 => fr.ob id (fun ht => h1 ((c3m hw).1 ht)) h2
    have out : ∀ (m : List (Option Ob)), m.length = l.length → (∀ id, id < l.length → h'.ob id = (m[id]?).join) → (∀ id, h'.nx ≤ id → h'.ob id = none) →
        (b0x (m ++ (List.range (h'.nx - l.length)).map fun i => h'.ob (l.length + i)) = h') ∧ l.length ≤ (m ++ (List.range (h'.nx - l.length)).map fun i => h'.ob (l.length + i)).length := by
      intro m hm h1 h2
      have hlen : (m ++ (List.range (h'.nx - l.length)).map fun i => h'.ob (l.length + i)).length = h'.nx := by simp [hm]; omega
      refine ⟨c4o hlen.symm (fun id => by rw [hlen]; exact hus id) fun id => ?_, by rw [hlen]; exact hnx⟩
      by_cases a : id < l.length
      · rw [List.getElem?_append_left (by omega)]; exact h1 id a
      · rw [List.getElem?_append_right (by omega), hm, List.getElem?_map]
        by_cases b : id < h'.nx
        · rw [List.getElem?_range (by omega)]
          simp only [Option.map_some, Option.join_some]
          rw [show l.length + (id - l.length) = id by omega]
        · rw [List.getElem?_eq_none (by simp; omega)]
          exact h2 id (by omega)
    have same : ∀ (m : List (Option Ob)), h'.nx = l.length → m = m ++ (List.range (h'.nx - l.length)).map fun i => h'.ob (l.length + i) := fun m e => by rw [e]; simp
    cases hc : chg op ev with
    | none =>
      rw [hc] at h
      simp only at h
      have := out l rfl (fun id hi => hob id (by rw [hc]; simp) (by omega)) (fun id hi => by
        rw [hob id (by rw [hc]; simp) (by omega), List.getElem?_eq_none (by omega)]; rfl)
      split at h
      · rename_i e
        rw [← same l e] at this
        cases h
        exact ⟨by rw [this.1], this.2⟩
      · cases h
        exact ⟨by rw [this.1], this.2⟩
    | some id0 =>
      rw [hc] at h
      simp only at h
      have ht : op.touch ev id0 := (c3m hw).2 hc
      have hid : id0 < l.length := by
        have := c8h he ht
        rcases Nat.lt_or_ge id0 l.length with g | g
        · exact g
        · exact absurd (show (l[id0]?).join = none by rw [List.getElem?_eq_none g]; rfl) this
      have := out (l.set id0 (h'.ob id0)) (by simp) (fun id hi => by
          by_cases e : id0 = id
          · subst e; rw [List.getElem?_set_self hi]; rfl
          · rw [List.getElem?_set_ne e]; exact hob id (by rw [hc]; simpa using e) (by omega))
        (fun id hi => by
          rw [hob id (by rw [hc]; simp; omega) (by omega), List.getElem?_eq_none (by omega)]; rfl)
      split at h
      · rename_i e
        rw [← same _ e] at this
        cases h
        exact ⟨by rw [this.1], this.2⟩
      · cases h
        exact ⟨by rw [this.1], this.2⟩
def b8e : Nat → AV → List Nat
  | 0, _ => []
  | n + 1, a => match a with
    | .rs id _ _ => [id]
    | .rp id _ _ => [id]
    | .agg cs | .tup cs => cs.flatMap (b8e n)
    | _ => []
def b69 (ob : List (Option Ob)) : Nat → List Nat → List Nat → List Nat
  | 0, _, d => d
  | _, [], d => d
  | n + 1, id :: r, d => if d.contains id then b69 ob n r d else match (ob[id]?).join with
    | some o => b69 ob n (o.2.flatMap (fun e => e.flatMap (b8e 8)) ++ r) (d ++ [id])
    | none => b69 ob n r (d ++ [id])
def b85 : List Nat → Bool
  | [] => true
  | a :: l => !l.contains a && b85 l
theorem c7b : ∀ {l : List Nat}, b85 l = true → l.Nodup
  | [], _ => List.nodup_nil
  | a :: l, h => by
    simp only [b85, Bool.and_eq_true, Bool.not_eq_true', List.contains_eq_mem, decide_eq_false_iff_not] at h
    exact List.nodup_cons.2 ⟨h.1, c7b h.2⟩
abbrev b2x := String → List AV → List (Option Ob) → Option (List AV × List (Option Ob))
def c0a (O : Orac) (run : b2x) : Prop := ∀ f as ob rs ob', run f as ob = some (rs, ob') → ∃ fn e s', Has O f fn ∧ as.length = fn.np ∧ (e = .normal ∨ e = .ret) ∧
  wp O fn.body (fun e2 s2 => e2 = e ∧ s2 = RS.st s') { start as with h := b0x ob } ∧ fn.res.mapM (b2h (RS.st s')) = some rs ∧ s'.ob = ob' ∧ ob.length ≤ ob'.length
def depth : Nat := 12
def c0g (run : b2x) (f : String) (as : List AV) (ob : List (Option Ob)) : Option (AV × List (Option Ob)) :=
  (as.mapM (fzR ob depth)).bind fun as' => (run f as' []).bind fun (rs, ob1) =>
  let ids := b69 ob1 1000 (rs.flatMap (b8e 8)) []
  let f1 : Nat → Option Nat := fun id => (List.range ids.length).find? fun k => ids[k]? = some id
  if b85 ids then
    (b28 f1 depth (b2u rs)).bind fun r =>
    (ids.mapM fun id => ((ob1[id]?).join).bind (b9f f1 depth)).bind fun frag =>
    if as.all (b2e depth) || (b87 depth r && frag.all fun o => o.2.all fun e => e.all (b87 depth)) then
      let f2 : Nat → Option Nat := fun k => if k < frag.length then some (ob.length + k) else none
      (b28 f2 depth r).bind fun r' =>
      (frag.mapM (b9f f2 depth)).bind fun frag' =>
      if frag'.length = 0 then some (r', ob) else fL fO (frag'.map some) fun m => fS (ob ++ m) fun l => some (r', l)
    else none
  else none
theorem c6t : ∀ (frag : b14) (ob : List (Option Ob)), (b0x ob).join frag = b0x (ob ++ frag.map some)
  | [], ob => by simp [Heap.join]
  | o :: frag, ob => by
    have e : (b0x ob).new o = b0x (ob ++ [some o]) := by
      symm
      refine c4o (by simp [b0x, Heap.new]) (fun id => ?_) fun id => ?_
      · simp only [b0x, Heap.new, List.length_append, List.length_cons, List.length_nil]; omega
      · show (if id = ob.length then some o else (ob[id]?).join) = ((ob ++ [some o])[id]?).join
        by_cases a : id = ob.length
        · subst a; simp
        · rw [if_neg a]
          rcases Nat.lt_or_ge id ob.length with b | b
          · rw [List.getElem?_append_left b]
          · rw [List.getElem?_eq_none b, List.getElem?_eq_none (by simp; omega)]
    show ((b0x ob).new o).join frag = _
    rw [e, c6t frag]
    simp
theorem c3f {O : Orac} {run : b2x} (hr : c0a O run) {f : String} {as : List AV} {ob ob' : List (Option Ob)} {r' : AV} (h : c0g run f as ob = some (r', ob')) : b5d O f as (b0x ob) r' (b0x ob') ∧ ob.length ≤ ob'.length := by
  unfold c0g at h
  obtain ⟨as', ha, h⟩ := Option.bind_eq_some_iff.1 h
  obtain ⟨⟨rs, ob1⟩, hrun, h⟩ := Option.bind_eq_some_iff.1 h
  simp only at h
  generalize hids : b69 ob1 1000 (rs.flatMap (b8e 8)) [] = ids at h
  split at h
  · rename_i hnd
    obtain ⟨r, h1, h⟩ := Option.bind_eq_some_iff.1 h
    obtain ⟨frag, h2, h⟩ := Option.bind_eq_some_iff.1 h
    split at h
    · rename_i hown
      obtain ⟨r2, h3, h⟩ := Option.bind_eq_some_iff.1 h
      obtain ⟨frag', h4, h⟩ := Option.bind_eq_some_iff.1 h
      have hout : r' = r2 ∧ ob' = ob ++ frag'.map some := by
        split at h
        · rename_i z
          cases h
          have : frag' = [] := List.length_eq_zero_iff.1 z
          subst this
          simp
        · simp only [c0x, b3y (fun a k => c0w (o := a) (k := k))] at h; cases h; exact ⟨rfl, rfl⟩
      obtain ⟨rfl, rfl⟩ := hout
      obtain ⟨fn, e, s', hhas, hnp, hen, hwp, hres, hob1, _⟩ := hr _ _ _ _ _ hrun
      have fz := c4j ha
      have hfr : ∀ a ∈ as', Frz a := fun a hm => by
        obtain ⟨q1, q2⟩ := b3n ha
        obtain ⟨i, hi⟩ := List.mem_iff_getElem?.1 hm
        have hlt := (List.getElem?_eq_some_iff.1 hi).1
        exact c4h _ _ _ (q2 i _ a (List.getElem?_eq_getElem (by omega)) hi)
      obtain ⟨g1, g2⟩ := b3n h2
      obtain ⟨g3, g4⟩ := b3n h4
      have hO : O f as' r frag := by
        refine hhas.p as' r frag hnp ?_ hfr
        have hs : (start as') = { start as' with h := b0x [] } := by rw [c4p]; rfl
        rw [hs]
        refine b1m _ ?_ hwp
        rintro e2 s2 ⟨rfl, rfl⟩
        have hd : b2q fn.res r frag s'.st := .inr ⟨rs, ids, hres, g1, c7b hnd, b9g _ _ _ h1, fun k sz ds hk => by
          have hlt := (List.getElem?_eq_some_iff.1 hk).1
          have hlt2 : k < ids.length := by omega
          have := g4
          have hq := g2 k _ _ (List.getElem?_eq_getElem hlt2) hk
          obtain ⟨o, ho, hq⟩ := Option.bind_eq_some_iff.1 hq
          obtain ⟨w1, w2, w3, w4⟩ := c7y hq
          obtain ⟨sz', es⟩ := o
          simp only at w1
          subst w1
          refine ⟨ids[k], es, List.getElem?_eq_getElem hlt2, ?_, w2, w3, w4⟩
          show (s'.ob[ids[k]]?).join = _
          rw [hob1]; exact ho⟩
        rcases hen with rfl | rfl <;> exact hd
      refine ⟨⟨as', r, frag, frag', fz, hO, ?_, b9g _ _ _ h3, g3.symm, ?_, (c6t _ _).symm⟩, by simp⟩
      · rw [Bool.or_eq_true, Bool.and_eq_true] at hown
        rcases hown with hown | ⟨o1, o2⟩
        · exact .inl fun a ha => b2f _ _ (List.all_eq_true.1 hown a ha)
        · exact .inr ⟨b88 _ _ o1, fun o ho e he c hc => b88 _ _ (List.all_eq_true.1 (List.all_eq_true.1 (List.all_eq_true.1 o2 o ho) e he) c hc)⟩
      · intro k sz es hk
        have hlt := (List.getElem?_eq_some_iff.1 hk).1
        have hlt2 : k < frag'.length := by omega
        have hq := g4 k _ _ hk (List.getElem?_eq_getElem hlt2)
        obtain ⟨w1, w2, w3, w4⟩ := c7y hq
        refine ⟨(frag'[k]).2, ?_, w2, w3, w4⟩
        rw [List.getElem?_eq_getElem hlt2, ← show (frag'[k]).1 = sz from w1]
    · cases h
  · cases h
def fQ {β : Type} (a : AV) (k : AV → β) : β := match a with
  | .v x => fV x fun x => k (.v x)
  | .rs id lo len => fN id fun id => fN lo fun lo => fN len fun len => k (.rs id lo len)
  | .rp id i off => fN id fun id => fN i fun i => fN off fun off => k (.rp id i off)
  | .fp cs off => fN off fun off => k (.fp cs off)
  | a => fA 8 a k
theorem b6k {β : Type} {a : AV} {k : AV → β} : fQ a k = k a := by cases a <;> simp only [fQ, c39, b78, b6j]
def b31 (s : RS) (d : Option Nat) (r : AV) (ob : List (Option Ob)) : Option RS := fQ r fun r => b9c s.t d r fun t => some ⟨t, ob⟩
def oW (run : b2x) (d : Option Nat) (f : String) (args : List X) (s : RS) : Option RS := match run f (args.map s.st.ev) s.ob with | some (rs, ob') => b31 s d (b2u rs) ob' | none => none
def oC (run : b2x) (d : Option Nat) (f : String) (as : List AV) (s : RS) : Option RS := match c0g run f as s.ob with | some (r, ob') => b31 s d r ob' | none => none
def oV (run : b2x) (d : Option Nat) (f : X) (args : List X) (s : RS) : Option RS := match callee (s.st.ev f) with
  | some (n, a, b) => oC run d n (a ++ args.map s.st.ev ++ b) s
  | none => none
def oB (d : Option Nat) (x : X) (s : RS) : Option RS := if b02 (s.st.ev x) then fL (fA 8) (cellsOf (s.st.ev x)) fun cs => b9c s.t d (.fp cs 0) fun t => some ⟨t, s.ob⟩ else none
def oE (d : Option Nat) (op : XOp) (s : RS) : Option RS := match c0q op s.st.ev s.ob with | some (r, ob') => b31 s d r ob' | none => none
def oP (d : Option Nat) (e : Option (AV × Heap)) (s : RS) : Option RS := match e with | some (r, _) => b31 s d r s.ob | none => none
def b68 : XOp → Bool
  | .mv _ | .bin .. | .un .. | .load .. | .ixA .. | .fldA .. | .fld .. | .ext .. | .len .. | .nilck _ | .pick .. => true
  | _ => false
theorem d2w {op : XOp} {ev : X → AV} {h h' : Heap} {r : AV} (hp : b68 op = true) (he : eff op ev h = some (r, h')) : h' = h := by
  cases op <;> simp only [b68, Bool.false_eq_true] at hp <;> simp only [eff] at he
  case mv => cases he; rfl
  case bin => obtain ⟨r, _, e⟩ := Option.map_eq_some_iff.1 he; cases e; rfl
  case un => obtain ⟨r, _, e⟩ := Option.map_eq_some_iff.1 he; cases e; rfl
  case ext =>
    split at he
    · obtain ⟨r, _, e⟩ := Option.map_eq_some_iff.1 he; cases e; rfl
    · cases he
  case pick =>
    split at he
    · cases he; rfl
    · cases he
  case len =>
    split at he
    · split at he
      · cases he; rfl
      · cases he
    · obtain ⟨r, _, e⟩ := Option.map_eq_some_iff.1 he; cases e; rfl
  case nilck =>
    split at he
    · cases he; rfl
    · obtain ⟨o, _, e⟩ := Option.bind_eq_some_iff.1 he; cases e; rfl
    · cases he; rfl
    · cases he
  case fldA =>
    split at he
    · cases he; rfl
    · obtain ⟨o, _, e⟩ := Option.bind_eq_some_iff.1 he; cases e; rfl
    · cases he
  case fld =>
    split at he
    · split at he
      · split at he
        · cases he; rfl
        · cases he
      · obtain ⟨r, _, e⟩ := Option.map_eq_some_iff.1 he; cases e; rfl
    · cases he
  case load =>
    split at he
    · split at he
      · split at he
        · cases he; rfl
        · cases he
      · obtain ⟨r, _, e⟩ := Option.map_eq_some_iff.1 he; cases e; rfl
    · obtain ⟨o, _, he⟩ := Option.bind_eq_some_iff.1 he
      obtain ⟨cs, _, he⟩ := Option.bind_eq_some_iff.1 he
      split at he
      · split at he
        · cases he; rfl
        · cases he
      · obtain ⟨r, _, e⟩ := Option.map_eq_some_iff.1 he; cases e; rfl
    · cases he
  case ixA =>
    split at he
    · split at he
      · obtain ⟨r, _, e⟩ := Option.map_eq_some_iff.1 he; cases e; rfl
      · cases he
    · obtain ⟨o, _, he⟩ := Option.bind_eq_some_iff.1 he
      split at he
      · cases he; rfl
      · cases he
    · cases he
theorem g1h {d : Option Nat} {op : XOp} {e : Option (AV × Heap)} {s s' : RS} (hp : b68 op = true) (he : e = eff op s.st.ev s.st.h) (h : oP d e s = some s') : ∃ r, eff op s.st.ev s.st.h = some (r, s.st.h) ∧ (s'.ob = s.ob ∧ s'.st = { t := (s.st.put d r).t, h := s.st.h }) := by
  unfold oP at h
  split at h
  · rename_i r h'
    unfold b31 at h
    rw [b6k] at h
    obtain ⟨t', h, ht⟩ := b4y h
    cases h
    have := d2w hp he.symm
    subst this
    exact ⟨r, he.symm, rfl, ht s.ob⟩
  · cases h
def oR (run : b2x) (d : Option Nat) (op : XOp) (s : RS) : Option RS := match op with
  | .callw f args => oW run d f args s
  | .call f args => oC run d f (args.map s.st.ev) s
  | .callv f args => oV run d f args s
  | .boxF x => oB d x s
  | .mv x => oP d (c31 x s.st.ev (b0x s.ob)) s
  | .bin o k x y => oP d (c0p o k x y s.st.ev (b0x s.ob)) s
  | .un o x => oP d (c34 o x s.st.ev (b0x s.ob)) s
  | .load a n x => oP d (c30 a n x s.st.ev (b0x s.ob)) s
  | .ixA n x i => oP d (b74 n x i s.st.ev (b0x s.ob)) s
  | .fldA o x => oP d (c3v o x s.st.ev (b0x s.ob)) s
  | .fld a n o x => oP d (c3u a n o x s.st.ev (b0x s.ob)) s
  | .ext x i => oP d (c3t x i s.st.ev (b0x s.ob)) s
  | .len b x => oP d (c3z b x s.st.ev (b0x s.ob)) s
  | .nilck x => oP d (c32 x s.st.ev (b0x s.ob)) s
  | .pick c a b => oP d (c33 c a b s.st.ev (b0x s.ob)) s
  | op => oE d op s
def opR (run : b2x) (o : XO) (s : RS) : Option RS :=
  match b1q s.st o.guard with
  | none => none
  | some false => (match o.op with | .callw .. => none | _ => b9c s.t o.dst (.v (.tuple #[])) fun t => some ⟨t, s.ob⟩)
  | some true => oR run o.dst o.op s
def b86 (run : b2x) : List XO → RS → Option RS
  | [], s => some s
  | o :: l, s => match opR run o s with | some s' => b86 run l s' | none => none
def TR.map (g : AV → AV) : TR → TR
  | .e => .e
  | .n l x r => .n (l.map g) (g x) (r.map g)
theorem TR.map_get {g : AV → AV} (hg : g (.v (.tuple #[])) = .v (.tuple #[])) : ∀ (t : TR) (i : Nat), (t.map g).get i = g (t.get i)
  | .e, _ => hg.symm
  | .n l x r, i => by
    simp only [TR.map, TR.get]
    split
    · rfl
    · split
      · exact TR.map_get hg l _
      · exact TR.map_get hg r _
def c0o (id i : Nat) (cs : List AV) : AV → AV
  | .rp id' i' off => if id' = id ∧ i' = i then .fp cs off else .rp id' i' off
  | a => a
def b8c (n : Nat) (s : RS) : RS := match s.t.get n with
  | .rp id i _ => match (s.ob[id]?).join with
    | some (_, es) => match es[i]? with
      | some cs => if cs.all (b2e depth) then ⟨s.t.map (c0o id i cs), s.ob.set id none⟩ else s
      | none => s
    | none => s
  | _ => s
theorem b6u (s : St) : b36 s s := ⟨fun _ => false, rfl, rfl, fun id sz es' hes => ⟨rfl, es', hes, .inl rfl, fun i j d hd => ⟨d, hd, .inl rfl⟩⟩, fun t => .inl rfl⟩
theorem d3z (n : Nat) (s : RS) : b36 s.st (b8c n s).st ∧ (b8c n s).ob.length = s.ob.length := by
  unfold b8c
  split
  · rename_i id i off hv
    split
    · rename_i sz es ho
      split
      · rename_i cs hcs
        split
        · rename_i hz
          have hid : id < s.ob.length := by
            rcases Nat.lt_or_ge id s.ob.length with h | h
            · exact h
            · rw [List.getElem?_eq_none h] at ho; cases ho
          have hf : ∀ c ∈ cs, Frz c := fun c hc => b2f _ _ (List.all_eq_true.1 hz c hc)
          refine ⟨⟨fun k => k == id, ?_, ?_, fun k sz' es' hk => ?_, fun t => ?_⟩, by simp⟩
          · funext k; show (k < (s.ob.set id none).length) = (k < s.ob.length); rw [List.length_set]
          · show (s.ob.set id none).length = s.ob.length; rw [List.length_set]
          · have hk : ((s.ob.set id none)[k]?).join = some (sz', es') := hk
            by_cases e : id = k
            · subst e; rw [List.getElem?_set_self hid] at hk; cases hk
            · rw [List.getElem?_set_ne e] at hk
              exact ⟨by simpa using fun h => e h.symm, es', hk, .inl rfl, fun i j d hd => ⟨d, hd, .inl rfl⟩⟩
          · show b46 _ (s.t.get t) ((s.t.map (c0o id i cs)).get t)
            rw [TR.map_get rfl]
            cases hx : s.t.get t with
            | rp id' i' off' =>
              simp only [c0o]
              split
              · rename_i h
                obtain ⟨rfl, rfl⟩ := h
                refine .inr ⟨.rp _ _ off' sz es cs cs ?_ hcs rfl fun j c d hc hd => ?_, .fp cs off' hf⟩
                · show (if (id' == id') = true then (s.ob[id']?).join else none) = _
                  simp [ho]
                · rw [hc] at hd; cases hd
                  exact .refl c (hf c (List.mem_of_getElem? hc))
              · exact .inl rfl
            | _ => exact .inl rfl
        · exact ⟨b6u _, rfl⟩
      · exact ⟨b6u _, rfl⟩
    · exact ⟨b6u _, rfl⟩
  · exact ⟨b6u _, rfl⟩
def isG : XCode → Bool | .ghost => true | _ => false
def tfs : XCode → List Nat
  | .reg ops => ops.flatMap fun o => o.op.xs.filterMap fun | .tf n => some n | _ => none
  | .seq .ghost b => tfs b
  | .seq a _ => tfs a
  | _ => []
def d69 : AV → Bool | .rp .. => true | _ => false
def b6t (b : XCode) (s : RS) : RS := match (tfs b).find? fun n => d69 (s.t.get n) with
  | some n => b8c n s
  | none => s
theorem d30 (b : XCode) (s : RS) : b36 s.st (b6t b s).st ∧ (b6t b s).ob.length = s.ob.length := by
  unfold b6t
  split
  · exact d3z _ _
  · exact ⟨b6u _, rfl⟩
def b82 (body : RS → Option (XExit × RS)) : Nat → RS → Option (XExit × RS)
  | 0, _ => none
  | n + 1, s => match body s with
    | none => none
    | some (.normal, s') => b82 body n s'
    | some (.exit i, s') => some (.exit i, s')
    | some (.ret, s') => some (.ret, s')
def b2i (run : b2x) (n : Nat) : XCode → RS → Option (XExit × RS)
  | .skip, s => some (.normal, s)
  | .reg ops, s => (match b86 run ops s with | some s' => some (.normal, s') | none => none)
  | .seq a b, s => (match (if isG a then some (.normal, b6t b s) else b2i run n a s) with
    | none => none
    | some (.normal, s') => b2i run n b s'
    | some (.exit i, s') => some (.exit i, s')
    | some (.ret, s') => some (.ret, s'))
  | .cond c a b, s => (match s.st.ev c with
    | .v (.bool true) => b2i run n a s
    | .v (.bool false) => b2i run n b s
    | _ => none)
  | .block id a, s => (match b2i run n a s with
    | some (.exit i, s') => if i = id then some (.normal, s') else some (.exit i, s')
    | some (.normal, s') => some (.normal, s')
    | some (.ret, s') => some (.ret, s')
    | none => none)
  | .loop a, s => b82 (b2i run n a) n s
  | .exit id, s => some (.exit id, s)
  | .ret, s => some (.ret, s)
  | .ghost, s => some (.normal, s)
def b7c (tbl : List (String × XFunc)) : Nat → b2x
  | 0, _, _, _ => none
  | d + 1, f, as, ob => match tbl.find? fun p => p.1 == f with
    | none => none
    | some p => if as.length = p.2.np then (match (ofL as 0 .e).bind fun t => b2i (b7c tbl d) 10000 p.2.body ⟨t, ob⟩ with
      | none => none
      | some (.exit _, _) => none
      | some (_, s') => (match p.2.res.mapM (b2h s'.st) with | some rs => some (rs, s'.ob) | none => none)) else none
section
variable {O : Orac} {run : b2x} (hr : c0a O run)
include hr
omit hr in
theorem b3o {O : Orac} {dst : Option Nat} {guard : Option (Nat × Bool)} {op : XOp} {e : Option (AV × Heap)} {s s' : RS} (hp : b68 op = true) (he : e = eff op s.st.ev s.st.h) (hg : b1q s.st guard = some true) (h : oP dst e s = some s') :
    wpOp O ⟨dst, guard, op⟩ s.st (· = s'.st) ∧ s.ob.length ≤ s'.ob.length := by
  obtain ⟨r, h1, h2, h3⟩ := g1h hp he h
  refine ⟨?_, by rw [h2]; exact Nat.le_refl _⟩
  rw [h3]
  cases op <;> simp only [b68, Bool.false_eq_true] at hp
  all_goals
    unfold wpOp
    simp only [hg]
    exact ⟨r, _, h1, rfl⟩
theorem g2c {o : XO} {s s' : RS} (h : opR run o s = some s') : wpOp O o s.st (· = s'.st) ∧ s.ob.length ≤ s'.ob.length := by
  obtain ⟨dst, guard, op⟩ := o
  unfold opR at h
  simp only at h
  cases hg : b1q s.st guard with
  | none => rw [hg] at h; cases h
  | some w =>
    rw [hg] at h
    cases w with
    | false =>
      simp only at h
      cases op
      case callw => cases h
      all_goals
        obtain ⟨t', h, ht⟩ := b4y h
        cases h
        refine ⟨?_, Nat.le_refl _⟩
        unfold wpOp
        simp only [hg]
        rw [ht]
        cases dst <;> rfl
    | true =>
      simp only [oR] at h
      cases op
      case callw f args =>
        simp only [oW, b31] at h
        split at h
        · rename_i rs ob' hrun
          rw [b6k] at h
          obtain ⟨t', h, ht⟩ := b4y h
          cases h
          obtain ⟨fn, e, s2, hhas, hnp, hen, hwp, hres, hob, hle⟩ := hr _ _ _ _ _ hrun
          refine ⟨?_, hle⟩
          unfold wpOp
          simp only [hg]
          refine ⟨b2u rs, b0x ob', hhas.w _ _ _ _ hnp ?_, ?_, (ht ob').symm⟩
          · refine b1m _ ?_ hwp
            rintro e2 s3 ⟨rfl, rfl⟩
            have hh : s2.st.h = b0x ob' := by rw [← hob]; rfl
            rcases hen with rfl | rfl <;> exact ⟨⟨rs, hres, rfl⟩, hh⟩
          · obtain ⟨_, _, ⟨h1, h2⟩, hfr, _⟩ := g57 _ hwp
            rw [h2, show s2.st.h = b0x ob' by rw [← hob]; rfl] at hfr
            exact hfr
        · cases h
      case call f args =>
        simp only [oC, b31] at h
        split at h
        · rename_i r ob' hc
          rw [b6k] at h
          obtain ⟨t', h, ht⟩ := b4y h
          cases h
          obtain ⟨h1, h2⟩ := c3f hr hc
          refine ⟨?_, h2⟩
          unfold wpOp
          simp only [hg]
          exact ⟨r, _, h1, (ht ob').symm⟩
        · cases h
      case callv f args =>
        simp only [oV, oC, b31] at h
        split at h
        · rename_i n a b hcal
          split at h
          · rename_i r ob' hc
            rw [b6k] at h
            obtain ⟨t', h, ht⟩ := b4y h
            cases h
            obtain ⟨h1, h2⟩ := c3f hr hc
            refine ⟨?_, h2⟩
            unfold wpOp
            simp only [hg]
            exact ⟨n, a, b, hcal, r, _, h1, (ht ob').symm⟩
          · cases h
        · cases h
      case boxF x =>
        simp only [oB] at h
        split at h
        · rename_i hok
          rw [b3y (b6j 8)] at h
          obtain ⟨t', h, ht⟩ := b4y h
          cases h
          refine ⟨?_, Nat.le_refl _⟩
          unfold wpOp
          simp only [hg]
          exact ⟨hok, (ht s.ob).symm⟩
        · cases h
      case mv => exact b3o rfl (b20 _ _ _) hg h
      case bin => exact b3o rfl (b20 _ _ _) hg h
      case un => exact b3o rfl (b20 _ _ _) hg h
      case load => exact b3o rfl (b20 _ _ _) hg h
      case ixA => exact b3o rfl (b20 _ _ _) hg h
      case fldA => exact b3o rfl (b20 _ _ _) hg h
      case fld => exact b3o rfl (b20 _ _ _) hg h
      case ext => exact b3o rfl (b20 _ _ _) hg h
      case len => exact b3o rfl (b20 _ _ _) hg h
      case nilck => exact b3o rfl (b20 _ _ _) hg h
      case pick => exact b3o rfl (b20 _ _ _) hg h
      all_goals
        simp only [oE, b31] at h
        split at h
        · rename_i r ob' hc
          rw [b6k] at h
          obtain ⟨t', h, ht⟩ := b4y h
          cases h
          obtain ⟨h1, h2⟩ := d2t (by intro f as e; cases e) hc
          refine ⟨?_, h2⟩
          unfold wpOp
          simp only [hg]
          exact ⟨r, _, h1, (ht ob').symm⟩
        · cases h
theorem c7g : ∀ {l : List XO} {s s' : RS}, b86 run l s = some s' → b1r O l (· = s'.st) s.st ∧ s.ob.length ≤ s'.ob.length
  | [], s, s', h => by cases h; exact ⟨rfl, Nat.le_refl _⟩
  | o :: l, s, s', h => by
    simp only [b86] at h
    split at h
    · rename_i s1 h1
      obtain ⟨a, b⟩ := g2c hr h1
      obtain ⟨c, d⟩ := c7g h
      exact ⟨b9s a c, Nat.le_trans b d⟩
    · cases h
omit hr in
theorem d7w {O : Orac} {a : XCode} {Q : b08} {s s1 : St} (h1 : wp O a (fun e s2 => e = .normal ∧ s2 = s1) s) (h2 : wp O (.loop a) Q s1) : wp O (.loop a) Q s := by
  obtain ⟨I, m, hI, hstep⟩ := h2
  by_cases hs : I s
  · exact ⟨I, m, hs, hstep⟩
  · classical
    refine ⟨fun x => x = s ∨ I x, fun x => if x = s then m s1 + 1 else m x, .inl rfl, fun x hx => ?_⟩
    have ne : ∀ y, I y → ¬ y = s := fun y hy e => hs (e ▸ hy)
    by_cases hxs : x = s
    · subst hxs
      refine b1m a ?_ h1
      rintro e s2 ⟨rfl, rfl⟩
      exact ⟨.inr hI, by simp only [ne _ hI, if_true, if_false]; omega⟩
    · have hIx : I x := hx.resolve_left hxs
      refine b1m a ?_ (hstep x hIx)
      rintro e s2 hq
      cases e with
      | normal => exact ⟨.inr hq.1, by simp only [hxs, ne _ hq.1, if_false]; exact hq.2⟩
      | exit i => exact hq
      | ret => exact hq
omit hr in
theorem c61 {O : Orac} {a : XCode} {Q : b08} {s s1 : St} {e : XExit} (hne : e ≠ .normal) (h1 : wp O a (fun e2 s2 => e2 = e ∧ s2 = s1) s) (hq : Q e s1) : wp O (.loop a) Q s := by
  refine ⟨fun x => x = s, fun _ => 0, rfl, fun x hx => ?_⟩
  subst hx
  refine b1m a ?_ h1
  rintro e2 s2 ⟨rfl, rfl⟩
  cases e2 with
  | normal => exact absurd rfl hne
  | exit i => exact hq
  | ret => exact hq
theorem g3s (n : Nat) : ∀ (c : XCode) {s s' : RS} {e : XExit}, b2i run n c s = some (e, s') → wp O c (fun e2 s2 => e2 = e ∧ s2 = s'.st) s.st ∧ s.ob.length ≤ s'.ob.length := by
  intro c
  induction c with
  | skip => intro s s' e h; cases h; exact ⟨⟨rfl, rfl⟩, Nat.le_refl _⟩
  | reg ops =>
    intro s s' e h
    simp only [b2i] at h
    split at h
    · rename_i s1 h1
      cases h
      obtain ⟨a, b⟩ := c7g hr h1
      refine ⟨?_, b⟩
      show b1r O ops (fun s2 => XExit.normal = XExit.normal ∧ s2 = s'.st) s.st
      exact b9t (fun x hx => ⟨rfl, hx⟩) a
    · cases h
  | seq a b iha ihb =>
    intro s s' e h
    simp only [b2i] at h
    have iha : ∀ {s s' : RS} {e : XExit}, (if isG a then some (.normal, b6t b s) else b2i run n a s) = some (e, s') → wp O a (fun e2 s2 => e2 = e ∧ s2 = s'.st) s.st ∧ s.ob.length ≤ s'.ob.length := by
      intro s s' e h
      by_cases hg : isG a = true
      · rw [if_pos hg] at h
        cases h
        cases a <;> simp only [isG, Bool.false_eq_true] at hg
        obtain ⟨q1, q2⟩ := d30 b s
        exact ⟨⟨_, q1, rfl, rfl⟩, by rw [q2]; exact Nat.le_refl _⟩
      · rw [if_neg hg] at h; exact iha h
    split at h
    · cases h
    · rename_i s1 h1
      obtain ⟨p, q⟩ := iha h1
      obtain ⟨p2, q2⟩ := ihb h
      refine ⟨?_, Nat.le_trans q q2⟩
      show wp O a _ s.st
      refine b1m a ?_ p
      rintro e2 s2 ⟨rfl, rfl⟩
      exact p2
    · rename_i i s1 h1
      cases h
      obtain ⟨p, q⟩ := iha h1
      refine ⟨?_, q⟩
      show wp O a _ s.st
      refine b1m a ?_ p
      rintro e2 s2 ⟨rfl, rfl⟩
      exact ⟨rfl, rfl⟩
    · rename_i s1 h1
      cases h
      obtain ⟨p, q⟩ := iha h1
      refine ⟨?_, q⟩
      show wp O a _ s.st
      refine b1m a ?_ p
      rintro e2 s2 ⟨rfl, rfl⟩
      exact ⟨rfl, rfl⟩
  | cond c a b iha ihb =>
    intro s s' e h
    simp only [b2i] at h
    split at h
    · rename_i hc
      obtain ⟨p, q⟩ := iha h
      exact ⟨⟨true, hc, fun _ => p, fun h => by cases h⟩, q⟩
    · rename_i hc
      obtain ⟨p, q⟩ := ihb h
      exact ⟨⟨false, hc, (fun h => by cases h), fun _ => p⟩, q⟩
    · cases h
  | block id a ih =>
    intro s s' e h
    simp only [b2i] at h
    split at h
    · rename_i i s1 h1
      obtain ⟨p, q⟩ := ih h1
      split at h
      · rename_i hi
        cases h
        refine ⟨?_, q⟩
        show wp O a _ s.st
        refine b1m a ?_ p
        rintro e2 s2 ⟨rfl, rfl⟩
        simp only [b08.block, hi, if_true]; exact ⟨trivial, trivial⟩
      · rename_i hi
        cases h
        refine ⟨?_, q⟩
        show wp O a _ s.st
        refine b1m a ?_ p
        rintro e2 s2 ⟨rfl, rfl⟩
        simp only [b08.block, hi, if_false]; exact ⟨trivial, trivial⟩
    · rename_i s1 h1
      cases h
      obtain ⟨p, q⟩ := ih h1
      refine ⟨?_, q⟩
      show wp O a _ s.st
      refine b1m a ?_ p
      rintro e2 s2 ⟨rfl, rfl⟩
      exact ⟨rfl, rfl⟩
    · rename_i s1 h1
      cases h
      obtain ⟨p, q⟩ := ih h1
      refine ⟨?_, q⟩
      show wp O a _ s.st
      refine b1m a ?_ p
      rintro e2 s2 ⟨rfl, rfl⟩
      exact ⟨rfl, rfl⟩
    · cases h
  | loop a ih =>
    intro s s' e h
    simp only [b2i] at h
    have key : ∀ (k : Nat) (s : RS), b82 (b2i run n a) k s = some (e, s') → wp O (.loop a) (fun e2 s2 => e2 = e ∧ s2 = s'.st) s.st ∧ s.ob.length ≤ s'.ob.length := by
      intro k
      induction k with
      | zero => intro s h; cases h
      | succ k ihk =>
        intro s h
        simp only [b82] at h
        split at h
        · cases h
        · rename_i s1 h1
          obtain ⟨p, q⟩ := ih h1
          obtain ⟨p2, q2⟩ := ihk s1 h
          exact ⟨d7w p p2, Nat.le_trans q q2⟩
        · rename_i i s1 h1
          cases h
          obtain ⟨p, q⟩ := ih h1
          exact ⟨c61 (by simp) p ⟨rfl, rfl⟩, q⟩
        · rename_i s1 h1
          cases h
          obtain ⟨p, q⟩ := ih h1
          exact ⟨c61 (by simp) p ⟨rfl, rfl⟩, q⟩
    exact key n s h
  | exit id => intro s s' e h; cases h; exact ⟨⟨rfl, rfl⟩, Nat.le_refl _⟩
  | ret => intro s s' e h; cases h; exact ⟨⟨rfl, rfl⟩, Nat.le_refl _⟩
  | ghost =>
    intro s s' e h
    cases h
    refine ⟨⟨s.st, ⟨fun _ => false, rfl, rfl, fun id sz es' hes => ⟨rfl, es', hes, .inl rfl, fun i j d hd => ⟨d, hd, .inl rfl⟩⟩, fun t => .inl rfl⟩, rfl, rfl⟩, Nat.le_refl _⟩
end
theorem c72 {O : Orac} {tbl : List (String × XFunc)} (ht : ∀ p ∈ tbl, Has O p.1 p.2) : ∀ d, c0a O (b7c tbl d)
  | 0 => fun f as ob rs ob' h => by cases h
  | d + 1 => fun f as ob rs ob' h => by
    simp only [b7c] at h
    split at h
    · cases h
    · rename_i p hp
      split at h
      · rename_i hnp
        have hm := List.mem_of_find?_eq_some hp
        have hf : p.1 = f := by have := List.find?_some hp; simpa using this
        subst hf
        split at h
        · cases h
        · cases h
        · rename_i e s' hex hrun
          split at h
          · rename_i rs' hres
            cases h
            obtain ⟨t, ht0, hrun⟩ := Option.bind_eq_some_iff.1 hrun
            obtain ⟨a, b⟩ := g3s (c72 ht d) 10000 _ hrun
            rw [g1j ht0] at a
            refine ⟨p.2, e, s', ht p hm, hnp, ?_, a, hres, rfl, b⟩
            cases e with
            | normal => exact .inl rfl
            | ret => exact .inr rfl
            | exit i => exact absurd rfl (hex i)
          · cases h
      · cases h
theorem g3w {O : Orac} {tbl : List (String × XFunc)} (ht : ∀ p ∈ tbl, Has O p.1 p.2) {d : Nat} {f : String} {x : Value} {ob' : List (Option Ob)} (h : b7c tbl d f [] [] = some ([.v x], ob')) : O f [] (.v x) [] := by
  obtain ⟨fn, e, s', hhas, hnp, hen, hwp, hres, hob1, _⟩ := c72 ht d _ _ _ _ _ h
  refine hhas.p [] _ [] hnp ?_ (fun a ha => by cases ha)
  have hs : (start []) = { start [] with h := b0x [] } := by rw [c4p]; rfl
  rw [hs]
  refine b1m _ ?_ hwp
  rintro e2 s2 ⟨rfl, rfl⟩
  have hd : b2q fn.res (.v x) [] s'.st := .inl ⟨rfl, _, hres, .refl _ (.v x)⟩
  rcases hen with rfl | rfl <;> exact hd
end Go.Nw
