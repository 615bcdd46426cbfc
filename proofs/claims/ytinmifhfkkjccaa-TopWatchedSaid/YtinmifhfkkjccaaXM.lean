/- Models of functions: printed by gen.py. -/
import Derived.Test.YtinmifhfkkjccaaNwMaps
import Derived.Test.YtinmifhfkkjccaaNwOwnM
import Derived.Test.YtinmifhfkkjccaaNwTp3Src
set_option linter.all false
namespace Go.Nw.XM
noncomputable section
open Go.Nw.Tp3
set_option maxHeartbeats 4000000
theorem lA9 {α : Type} {l m : List α} : (l ++ m).length = l.length + m.length := List.length_append
theorem mA9 {α β : Type} {f : α → β} {l m : List α} : List.map f (l ++ m) = List.map f l ++ List.map f m := List.map_append
theorem oF9 {a b : Bool} : (a || b) = false ↔ a = false ∧ b = false := Bool.or_eq_false_iff
theorem nF9 : (¬False) = True := not_false_eq_true
theorem bF9 {α : Type} [BEq α] [LawfulBEq α] {a b : α} : (a == b) = false ↔ a ≠ b := beq_eq_false_iff_ne
theorem sI9 {α : Type} {a b : α} (h : some a = some b) : a = b := Option.some.inj h
theorem va9 {p : Prop} (h : p := by first | (simp only [go_sem, List.length_append, List.map_append]; done) | rfl) : p := h
theorem vb9 {p : Prop} (h : p := by simp only [go_sem, List.length_append, List.map_append]) : p := h
theorem vc9 {p : Prop} (h : p := by first | exact b1w | exact b1y (by first | assumption | omega | (simp only [nxs] <;> omega)) | assumption | exact b1v (by assumption) (by first | assumption | omega | (simp only [nxs] <;> omega))) : p := h
theorem vd9 {p : Prop} (h : p := by first | first | assumption | omega | (simp only [nxs] <;> omega)) : p := h
theorem ve9 {p : Prop} (h : p := by first | exact b1w | exact b1y (by first | omega | (simp only [nxs] <;> omega)) | assumption | exact b1v (by assumption) (by first | omega | (simp only [go_sem, nxs] <;> omega))) : p := h
theorem vf9 {p : Prop} (h : p := by first | rfl | simp only [go_sem, List.length_append, List.map_append]) : p := h
theorem vg9 {p : Prop} (h : p := by simp only [go_sem]) : p := h
variable {O : Orac} [MapsOk O]
structure Brake where
 Force : Int
 Delay : Int
 deriving Inhabited, DecidableEq
structure Escalator where
 Up : Bool
 Empty : Int
 Pull : Int
 Drag : Int
 Motor : Int
 Brakes : List Brake
 deriving Inhabited, DecidableEq
@[go_sem] def J1g (x : Brake) : List AV := [I x.Force, I x.Delay]
theorem x17 (x : Brake) : ∀ c ∈ J1g x, Frz c := (b0a (b0e _) (b0a (b0e _) b0j))
@[go_sem] theorem J7i {l : List Brake} {n : Nat} {a0 : Int} {a1 : Int} : (List.map J1g l).set n [I a0, I a1] = List.map J1g (l.set n (Brake.mk a0 a1)) := by rw [List.map_set]; rfl
def J77 (e : Escalator) : Bool :=
 decide (10 < (List.length e.Brakes : Int))
def J9a (O : Orac) : Prop := ∀ (e : Escalator), Fn O "newel/newellaw01.Far" [.agg [B e.Up, I e.Empty, I e.Pull, I e.Drag, I e.Motor, .fs 2 (List.map J1g e.Brakes)]] (B (J77 e))
def c48 (n : Int) (low : Int) (high : Int) : Bool :=
 (decide (low <= n)) && (decide (n <= high))
def J7y (O : Orac) : Prop := ∀ (n : Int) (low : Int) (high : Int), Fn O "newel/newelref01.within" [I n, I low, I high] (B (c48 n low high))
def J90 : Option Int :=
 some 0
def J8b (e : Escalator) : Int -> Option (Out Int (Unit ⊕ Int))
 | i_3 =>
  if decide (i_3 < (List.length e.Brakes : Int)) then
   (get e.Brakes i_3).bind fun x14 =>
   if (!(c48 x14.Force 0 10000000)) || (!(c48 x14.Delay 0 20)) then
    some (.br (.inr 10))
   else
    some (.nx (wr (i_3 + 1)))
  else
   some (.br (.inl ()))
def J79 (e : Escalator) : Option Int :=
 if ((((!(c48 e.Empty 1 100000)) || (!(c48 e.Pull 0 100))) || (!(c48 e.Drag 0 10000000))) || (!(c48 e.Motor 0 10000000))) || (decide (3 < (List.length e.Brakes : Int))) then
  some 10
 else
  (b0w (J8b e) (0)).bind fun
   | (.inl ()) => J90
   | (.inr r') => some r'
def J9c (O : Orac) : Prop := ∀ (e : Escalator) (r : Int) (hm0 : J79 e = some r), Fn O "newel/newelref01.Check" [.agg [B e.Up, I e.Empty, I e.Pull, I e.Drag, I e.Motor, .fs 2 (List.map J1g e.Brakes)]] (I r)
structure Span where
 Low : Int
 High : Int
 deriving Inhabited, DecidableEq
structure Stop where
 Speed : Int
 Loads : Span
 Fail : Int
 deriving Inhabited, DecidableEq
def J8a (e : Escalator) (s : Stop) : Option Int :=
 (J79 e).bind fun y2 =>
 if decide (¬y2 = 0) then
  some 10
 else
  (if (((!(c48 s.Speed 0 1000)) || (decide (s.Loads.Low < 0))) || (decide (s.Loads.High < s.Loads.Low))) || (decide (100000 < s.Loads.High)) then some true else (shl .i64 1 (IntKind.wrap .u64 (List.length e.Brakes : Int))).bind fun q7 =>
  some (!(c48 s.Fail 0 (wr (q7 - 1))))).bind fun c8 =>
  if c8 then
   some 11
  else
   some 0
def J9d (O : Orac) : Prop := ∀ (e : Escalator) (s : Stop) (r : Int) (hm0 : J8a e s = some r), Fn O "newel/newelref01.CheckStop" [.agg [B e.Up, I e.Empty, I e.Pull, I e.Drag, I e.Motor, .fs 2 (List.map J1g e.Brakes)], .agg [I s.Speed, I s.Loads.Low, I s.Loads.High, I s.Fail]] (I r)
def J8x (loads : List Int) : Option Bool :=
 some (decide ((List.length loads : Int) <= 100))
def J8d (s : Stop) (loads : List Int) : Int -> Option (Out Int (Unit ⊕ Bool))
 | i_5 =>
  if decide (i_5 < (List.length loads : Int)) then
   (get loads i_5).bind fun x8 =>
   if !(c48 x8 s.Loads.Low s.Loads.High) then
    some (.br (.inr false))
   else
    some (.nx (wr (i_5 + 1)))
  else
   some (.br (.inl ()))
def J8c (s : Stop) (loads : List Int) : Option Bool :=
 (b0w (J8d s loads) (0)).bind fun
  | (.inl ()) => J8x loads
  | (.inr r') => some r'
def J9e (O : Orac) : Prop := ∀ (s : Stop) (loads : List Int) (r : Bool) (hm0 : J8c s loads = some r), Fn O "newel/newelref01.History" [.agg [I s.Speed, I s.Loads.Low, I s.Loads.High, I s.Fail], .fs 1 (List.map eI loads)] (B r)
def b47 (high : Int) : Span :=
 (Span.mk 0 high)
def J7x (O : Orac) : Prop := ∀ (high : Int), Fn O "newel/drive.to" [I high] (.agg [I ((b47 high).Low), I ((b47 high).High)])
def l74 (n : Int) (s : Span) : Bool :=
 (decide (s.Low <= n)) && (decide (n <= s.High))
def J7m (O : Orac) : Prop := ∀ (n : Int) (s : Span), Fn O "newel/drive.in" [I n, .agg [I s.Low, I s.High]] (B (l74 n s))
def J7p (b : Brake) : Bool :=
 (l74 b.Force (b47 10000000)) && (l74 b.Delay (b47 20))
def J82 (O : Orac) : Prop := ∀ (b : Brake), Fn O "newel/drive.Check$1" [.agg [I b.Force, I b.Delay]] (B (J7p b))
def J8o : Option Int :=
 some 0
def J71 (e : Escalator) : Int -> Option (Out Int (Unit ⊕ Int))
 | x_44 =>
  if decide (x_44 < (List.length e.Brakes : Int)) then
   (get e.Brakes x_44).bind fun x15 =>
   if !(J7p x15) then
    some (.br (.inr 10))
   else
    some (.nx (wr (x_44 + 1)))
  else
   some (.br (.inl ()))
def J8n (e : Escalator) : Option Int :=
 if (((((decide (e.Empty < 1)) || (decide (100000 < e.Empty))) || (!(l74 e.Pull (b47 100)))) || (!(l74 e.Drag (b47 10000000)))) || (!(l74 e.Motor (b47 10000000)))) || (decide (3 < (List.length e.Brakes : Int))) then
  some 10
 else
  (b0w (J71 e) (0)).bind fun
   | (.inl ()) => J8o
   | (.inr r') => some r'
def J81 (O : Orac) : Prop := ∀ (e : Escalator) (r : Int) (hm0 : J8n e = some r), Fn O "newel/drive.Check" [.agg [B e.Up, I e.Empty, I e.Pull, I e.Drag, I e.Motor, .fs 2 (List.map J1g e.Brakes)]] (I r)
def J7s (e : Escalator) (s : Stop) : Option Int :=
 (J8n e).bind fun y2 =>
 if decide (¬y2 = 0) then
  some y2
 else
  (if ((((!(l74 s.Speed (b47 1000))) || (decide (s.Loads.Low < 0))) || (decide (s.Loads.High < s.Loads.Low))) || (decide (100000 < s.Loads.High))) || (decide (s.Fail < 0)) then some true else (shl .i64 1 (List.length e.Brakes : Int)).bind fun q7 =>
  some (decide (q7 <= s.Fail))).bind fun c8 =>
  if c8 then
   some 11
  else
   some 0
def J8g (O : Orac) : Prop := ∀ (e : Escalator) (s : Stop) (r : Int) (hm0 : J7s e s = some r), Fn O "newel/drive.checkStop" [.agg [B e.Up, I e.Empty, I e.Pull, I e.Drag, I e.Motor, .fs 2 (List.map J1g e.Brakes)], .agg [I s.Speed, I s.Loads.Low, I s.Loads.High, I s.Fail]] (I r)
structure drive_motion where
 e : Escalator
 s : Stop
 speed : Int
 time : Int
 deriving Inhabited, DecidableEq
def J8l (force_2 : Int) : Option Int :=
 some force_2
def J70 (x_11 : Int) (force_2_1 : Int) : Option (Out (Int × Int) Int) :=
 some (.nx (force_2_1, wr (x_11 + 1)))
def J7n (m : drive_motion) : (Int × Int) -> Option (Out (Int × Int) Int)
 | (force_2, x_11) =>
  if decide (x_11 < (List.length m.e.Brakes : Int)) then
   (get m.e.Brakes x_11).bind fun x9 =>
   (shr .i64 m.s.Fail x_11).bind fun q11 =>
   if (decide ((b6y q11 1) = 0)) && (decide (x9.Delay <= m.time)) then
    J70 x_11 (wr (force_2 + x9.Force))
   else
    J70 x_11 force_2
  else
   some (.br force_2)
def J40 (m : drive_motion) : Option Int :=
 (b0w (J7n m) (0, 0)).bind fun force_2 =>
 J8l force_2
def J80 (O : Orac) : Prop := ∀ (m : drive_motion) (r : Int) (hm0 : J40 m = some r), Fn O "(*newel/drive.motion).grip" [.fp [B m.e.Up, I m.e.Empty, I m.e.Pull, I m.e.Drag, I m.e.Motor, .fs 2 (List.map J1g m.e.Brakes), I m.s.Speed, I m.s.Loads.Low, I m.s.Loads.High, I m.s.Fail, I m.speed, I m.time] 0] (I r)
def J8q (q_5 : Int) : Option Int :=
 some q_5
def J74 (a : Int) (b : Int) : Option Int :=
 (quo .i64 a b).bind fun q3 =>
 (rem a b).bind fun q4 =>
 if decide (q4 < 0) then
  J8q (wr (q3 - 1))
 else
  J8q q3
def J87 (O : Orac) : Prop := ∀ (a : Int) (b : Int) (r : Int) (hm0 : J74 a b = some r), Fn O "newel/drive.floor" [I a, I b] (I r)
def J7r (v : Int) (g : Int) (f : Int) (m : Int) : Option Int :=
 (J74 (wr (g - f)) m).bind fun y2 =>
 some (mx 0 (wr (v + y2)))
def J86 (O : Orac) : Prop := ∀ (v : Int) (g : Int) (f : Int) (m : Int) (r : Int) (hm0 : J7r v g f m = some r), Fn O "newel/drive.ahead" [I v, I g, I f, I m] (I r)
def J7u (e : Escalator) (v : Int) (load : Int) (brakes : Int) (g_9 : Int) : Option Int :=
 if (decide (v < 0)) || ((decide (v = 0)) && (decide (g_9 < 0))) then
  (J7r (wr (0 - v)) (wr (0 - g_9)) (wr (e.Drag + brakes)) (wr (e.Empty + load))).bind fun y8 =>
  some (wr (0 - y8))
 else
  (J7r v g_9 (wr (e.Drag + brakes)) (wr (e.Empty + load))).bind fun y10 =>
  some y10
def J75 (e : Escalator) (v : Int) (load : Int) (brakes : Int) : Option Int :=
 if e.Up then
  J7u e v load brakes (wr (0 - (wr (e.Pull * load))))
 else
  J7u e v load brakes (wr (e.Pull * load))
def J89 (O : Orac) : Prop := ∀ (e : Escalator) (v : Int) (load : Int) (brakes : Int) (r : Int) (hm0 : J75 e v load brakes = some r), Fn O "newel/drive.tick" [.agg [B e.Up, I e.Empty, I e.Pull, I e.Drag, I e.Motor, .fs 2 (List.map J1g e.Brakes)], I v, I load, I brakes] (I r)
def J7j (m : drive_motion) (load : Int) : Option (Int × drive_motion) :=
 (J40 m).bind fun y3 =>
 (J75 m.e m.speed load y3).bind fun y4 =>
 some (y4, (drive_motion.mk m.e m.s y4 (wr (m.time + 1))))
def J8f (O : Orac) : Prop := ∀ (m : drive_motion) (i_0 : Nat) (load : Int) (h0 : Heap) (ob_p0 : h0.ob i_0 = some (12, [[B m.e.Up, I m.e.Empty, I m.e.Pull, I m.e.Drag, I m.e.Motor, .fs 2 (List.map J1g m.e.Brakes), I m.s.Speed, I m.s.Loads.Low, I m.s.Loads.High, I m.s.Fail, I m.speed, I m.time]])) (lt_p0 : i_0 < h0.nx) (r : Int × drive_motion) (hm0 : J7j m load = some r), b6e O "(*newel/drive.motion).with" [.rp i_0 0 0, I load] h0 (fun v h => v = I r.1 /\ h.ob i_0 = some (12, [[B r.2.e.Up, I r.2.e.Empty, I r.2.e.Pull, I r.2.e.Drag, I r.2.e.Motor, .fs 2 (List.map J1g r.2.e.Brakes), I r.2.s.Speed, I r.2.s.Loads.Low, I r.2.s.Loads.High, I r.2.s.Fail, I r.2.speed, I r.2.time]]) /\ (∀ j, j < h0.nx -> ¬j = i_0 -> h.ob j = h0.ob j) /\ h0.nx <= h.nx)
def J7z (m : drive_motion) (b56 : Bool) : Option (Int × drive_motion) :=
 (J7j m m.s.Loads.Low).bind fun y3 =>
 (J7j m m.s.Loads.High).bind fun y4 =>
 if (b56 && (decide (y3.1 < y4.1))) || ((!b56) && (decide (y4.1 < y3.1))) then
  some (y4.2.s.Loads.High, y4.2)
 else
  some (y3.2.s.Loads.Low, y3.2)
def J8z (O : Orac) : Prop := ∀ (m : drive_motion) (i_0 : Nat) (b56 : Bool) (h0 : Heap) (ob_p0 : h0.ob i_0 = some (12, [[B m.e.Up, I m.e.Empty, I m.e.Pull, I m.e.Drag, I m.e.Motor, .fs 2 (List.map J1g m.e.Brakes), I m.s.Speed, I m.s.Loads.Low, I m.s.Loads.High, I m.s.Fail, I m.speed, I m.time]])) (lt_p0 : i_0 < h0.nx) (r : Int × drive_motion) (hm0 : J7z m b56 = some r), b6e O "(*newel/drive.motion).extreme" [.rp i_0 0 0, B b56] h0 (fun v h => v = I r.1 /\ h.ob i_0 = some (12, [[B r.2.e.Up, I r.2.e.Empty, I r.2.e.Pull, I r.2.e.Drag, I r.2.e.Motor, .fs 2 (List.map J1g r.2.e.Brakes), I r.2.s.Speed, I r.2.s.Loads.Low, I r.2.s.Loads.High, I r.2.s.Fail, I r.2.speed, I r.2.time]]) /\ (∀ j, j < h0.nx -> ¬j = i_0 -> h.ob j = h0.ob j) /\ h0.nx <= h.nx)
structure drive_stopped where
 way : Int
 loads : List Int
 rests : Bool
 deriving Inhabited, DecidableEq
def J8r (out_8_0 : Int) (out_8_1 : List Int) (out_8_2 : Bool) : Option drive_stopped :=
 some (drive_stopped.mk out_8_0 out_8_1 out_8_2)
def J7k (b56 : Bool) : (Bool × Int × Int × Int × Int × (List Brake) × Int × Int × Int × Int × Int × Int × Int × (List Int) × Bool) -> Option (Out (Bool × Int × Int × Int × Int × (List Brake) × Int × Int × Int × Int × Int × Int × Int × (List Int) × Bool) ((Int × (List Int) × Bool)))
 | (m_7_0, m_7_1, m_7_2, m_7_3, m_7_4, m_7_5, m_7_6, m_7_7, m_7_8, m_7_9, m_7_10, m_7_11, out_8_0, out_8_1, out_8_2) =>
  if (!out_8_2) && (decide (m_7_11 < 100)) then
   (J7z (drive_motion.mk (Escalator.mk m_7_0 m_7_1 m_7_2 m_7_3 m_7_4 m_7_5) (Stop.mk m_7_6 (Span.mk m_7_7 m_7_8) m_7_9) m_7_10 m_7_11) b56).bind fun y9 =>
   (ap 8 out_8_1 ([y9.1])).bind fun l10 =>
   some (.nx (y9.2.e.Up, y9.2.e.Empty, y9.2.e.Pull, y9.2.e.Drag, y9.2.e.Motor, y9.2.e.Brakes, y9.2.s.Speed, y9.2.s.Loads.Low, y9.2.s.Loads.High, y9.2.s.Fail, y9.2.speed, y9.2.time, wr (out_8_0 + y9.2.speed), l10, decide (y9.2.speed = 0)))
  else
   some (.br (out_8_0, out_8_1, out_8_2))
def J7t (e : Escalator) (s : Stop) (b56 : Bool) : Option drive_stopped :=
 (b0w (J7k b56) (e.Up, e.Empty, e.Pull, e.Drag, e.Motor, e.Brakes, s.Speed, s.Loads.Low, s.Loads.High, s.Fail, s.Speed, 0, 0, [], decide (s.Speed = 0))).bind fun
  | (out_8_0, out_8_1, out_8_2) => J8r out_8_0 out_8_1 out_8_2
def J88 (O : Orac) : Prop := ∀ (e : Escalator) (s : Stop) (b56 : Bool) (r : drive_stopped) (hm0 : J7t e s b56 = some r), Fn O "newel/drive.run" [.agg [B e.Up, I e.Empty, I e.Pull, I e.Drag, I e.Motor, .fs 2 (List.map J1g e.Brakes)], .agg [I s.Speed, I s.Loads.Low, I s.Loads.High, I s.Fail], B b56] (.agg [I r.way, .fs 1 (List.map eI r.loads), B r.rests])
def J72 (e : Escalator) (s : Stop) : Option (Span × Span × Int) :=
 (J7s e s).bind fun y2 =>
 if decide (¬y2 = 0) then
  some ((Span.mk 0 0), (Span.mk 0 0), y2)
 else
  (J7t e s true).bind fun y7 =>
  (J7t e s false).bind fun y8 =>
  if !y7.rests then
   some ((Span.mk 0 0), (Span.mk 0 0), 12)
  else
   some ((Span.mk y8.way y7.way), (Span.mk (List.length y8.loads : Int) (List.length y7.loads : Int)), 0)
def J83 (O : Orac) : Prop := ∀ (e : Escalator) (s : Stop) (r : Span × Span × Int) (hm0 : J72 e s = some r), Fn O "newel/drive.Distance" [.agg [B e.Up, I e.Empty, I e.Pull, I e.Drag, I e.Motor, .fs 2 (List.map J1g e.Brakes)], .agg [I s.Speed, I s.Loads.Low, I s.Loads.High, I s.Fail]] (.tup [.agg [I r.1.Low, I r.1.High], .agg [I r.2.1.Low, I r.2.1.High], I r.2.2])
def d5b : Option Int :=
 some (-1)
def g3c (s : List Int) (f : Int -> Option Bool) : Int -> Option (Out Int (Unit ⊕ Int))
 | x_8 =>
  if decide (x_8 < (List.length s : Int)) then
   (get s x_8).bind fun x9 =>
   (f x9).bind fun y10 =>
   if y10 then
    some (.br (.inr x_8))
   else
    some (.nx (wr (x_8 + 1)))
  else
   some (.br (.inl ()))
def d5a (s : List Int) (f : Int -> Option Bool) : Option Int :=
 (b0w (g3c s f) (0)).bind fun
  | (.inl ()) => d5b
  | (.inr r') => some r'
def d0x (O : Orac) : Prop := ∀ (s : List Int) (f_n : String) (f_a f_b : List AV) (f : Int -> Option Bool) (f_z : Frz (.fn f_n f_a f_b)) (f_h : ∀ z0 y, f z0 = some y -> Fn O f_n (f_a ++ [I z0] ++ f_b) (B y)) (r : Int) (hm0 : d5a s f = some r), Fn O "slices.IndexFunc[[]int,int]" [.fs 1 (List.map eI s), .fn f_n f_a f_b] (I r)
def J8e (s : List Int) (f : Int -> Option Bool) : Option Bool :=
 (d5a s f).bind fun y2 =>
 some (decide (0 <= y2))
def d0v (O : Orac) : Prop := ∀ (s : List Int) (f_n : String) (f_a f_b : List AV) (f : Int -> Option Bool) (f_z : Frz (.fn f_n f_a f_b)) (f_h : ∀ z0 y, f z0 = some y -> Fn O f_n (f_a ++ [I z0] ++ f_b) (B y)) (r : Bool) (hm0 : J8e s f = some r), Fn O "slices.ContainsFunc[[]int,int]" [.fs 1 (List.map eI s), .fn f_n f_a f_b] (B r)
def x28 : Option Bool := some true
def x87 (O : Orac) : Prop := ∀ (r : Bool) (hm0 : x28 = some r), Fn O "newel/neweltop.measures" [] (B r)
def J23 (n : Int) (c0 : Stop) : Bool :=
 !(l74 n c0.Loads)
def J85 (O : Orac) : Prop := ∀ (n : Int) (c0 : Stop), Fn O "newel/drive.Play$1" [I n, .fp [I c0.Speed, I c0.Loads.Low, I c0.Loads.High, I c0.Fail] 0] (B (J23 n c0))
def J8p (out_10 : List Int) : Option ((List Int) × Int) :=
 some (out_10, 0)
def J7q (loads : List Int) : (Bool × Int × Int × Int × Int × (List Brake) × Int × Int × Int × Int × Int × Int × (List Int) × Int) -> Option (Out (Bool × Int × Int × Int × Int × (List Brake) × Int × Int × Int × Int × Int × Int × (List Int) × Int) (((List Int))))
 | (m_9_0, m_9_1, m_9_2, m_9_3, m_9_4, m_9_5, m_9_6, m_9_7, m_9_8, m_9_9, m_9_10, m_9_11, out_10, x_34) =>
  if decide (x_34 < (List.length loads : Int)) then
   (get loads x_34).bind fun x21 =>
   (J7j (drive_motion.mk (Escalator.mk m_9_0 m_9_1 m_9_2 m_9_3 m_9_4 m_9_5) (Stop.mk m_9_6 (Span.mk m_9_7 m_9_8) m_9_9) m_9_10 m_9_11) x21).bind fun y24 =>
   (ap 8 out_10 ([y24.1])).bind fun l25 =>
   some (.nx (y24.2.e.Up, y24.2.e.Empty, y24.2.e.Pull, y24.2.e.Drag, y24.2.e.Motor, y24.2.e.Brakes, y24.2.s.Speed, y24.2.s.Loads.Low, y24.2.s.Loads.High, y24.2.s.Fail, y24.2.speed, y24.2.time, l25, wr (x_34 + 1)))
  else
   some (.br out_10)
def J73 (e : Escalator) (s : Stop) (loads : List Int) : Option ((List Int) × Int) :=
 (J7s e s).bind fun y2 =>
 if decide (¬y2 = 0) then
  some ([], y2)
 else
  (if decide (100 < (List.length loads : Int)) then some true else (J8e loads (fun z8 => some (J23 z8 s))).bind fun y9 =>
  some y9).bind fun c10 =>
  if c10 then
   some ([], 1)
  else
   (b0w (J7q loads) (e.Up, e.Empty, e.Pull, e.Drag, e.Motor, e.Brakes, s.Speed, s.Loads.Low, s.Loads.High, s.Fail, s.Speed, 0, [], 0)).bind fun out_10 =>
   J8p out_10
def J84 (O : Orac) : Prop := ∀ (e : Escalator) (s : Stop) (loads : List Int) (r : (List Int) × Int) (hm0 : J73 e s loads = some r), Fn O "newel/drive.Play" [.agg [B e.Up, I e.Empty, I e.Pull, I e.Drag, I e.Motor, .fs 2 (List.map J1g e.Brakes)], .agg [I s.Speed, I s.Loads.Low, I s.Loads.High, I s.Fail], .fs 1 (List.map eI loads)] (.tup [.fs 1 (List.map eI r.1), I r.2])
structure Counter where
 Name : ByteArray
 Max : Int
 deriving Inhabited, DecidableEq
structure State where
 Name : ByteArray
 Shows : Int
 deriving Inhabited, DecidableEq
structure Literal where
 Kind : Int
 Number : Int
 Value : Int
 Not : Bool
 deriving Inhabited, DecidableEq
structure Set where
 Kind : Int
 Counter : Int
 deriving Inhabited, DecidableEq
structure Rule where
 From : Int
 To : Int
 When : List (List Literal)
 Sets : List Set
 deriving Inhabited, DecidableEq
structure Machine where
 Inputs : List ByteArray
 Outputs : List ByteArray
 Counters : List Counter
 States : List State
 Rules : List Rule
 deriving Inhabited, DecidableEq
@[go_sem] def b2o (x : Set) : List AV := [I x.Kind, I x.Counter]
theorem d14 (x : Set) : ∀ c ∈ b2o x, Frz c := (b0a (b0e _) (b0a (b0e _) b0j))
theorem j7q (x : Set) : (b2o x).length = 2 := rfl
@[go_sem] theorem o5p {l : List Set} {n : Nat} {a0 : Int} {a1 : Int} : (List.map b2o l).set n [I a0, I a1] = List.map b2o (l.set n (Set.mk a0 a1)) := by rw [List.map_set]; rfl
@[go_sem] def b3k (x : Literal) : List AV := [I x.Kind, I x.Number, I x.Value, B x.Not]
theorem c2w (x : Literal) : ∀ c ∈ b3k x, Frz c := (b0a (b0e _) (b0a (b0e _) (b0a (b0e _) (b0a (b0e _) b0j))))
theorem j7o (x : Literal) : (b3k x).length = 4 := rfl
@[go_sem] theorem o5m {l : List Literal} {n : Nat} {a0 : Int} {a1 : Int} {a2 : Int} {a3 : Bool} : (List.map b3k l).set n [I a0, I a1, I a2, B a3] = List.map b3k (l.set n (Literal.mk a0 a1 a2 a3)) := by rw [List.map_set]; rfl
@[go_sem] def b0t (x : List Literal) : List AV := [.fs 4 (List.map b3k x)]
theorem b2j (x : List Literal) : ∀ c ∈ b0t x, Frz c := (b0a (b0c fun a _ => c2w a) b0j)
theorem g1d (x : List Literal) : (b0t x).length = 1 := rfl
@[go_sem] theorem o5k {l : List (List Literal)} {n : Nat} {a0 : List Literal} : (List.map b0t l).set n [.fs 4 (List.map b3k a0)] = List.map b0t (l.set n a0) := by rw [List.map_set]; rfl
@[go_sem] def b0m (x : Rule) : List AV := [I x.From, I x.To, .fs 1 (List.map b0t x.When), .fs 2 (List.map b2o x.Sets)]
theorem b1r (x : Rule) : ∀ c ∈ b0m x, Frz c := (b0a (b0e _) (b0a (b0e _) (b0a (b0c fun a _ => b2j a) (b0a (b0c fun a _ => d14 a) b0j))))
theorem j7p (x : Rule) : (b0m x).length = 4 := rfl
@[go_sem] theorem o5o {l : List Rule} {n : Nat} {a0 : Int} {a1 : Int} {a2 : List (List Literal)} {a3 : List Set} : (List.map b0m l).set n [I a0, I a1, .fs 1 (List.map b0t a2), .fs 2 (List.map b2o a3)] = List.map b0m (l.set n (Rule.mk a0 a1 a2 a3)) := by rw [List.map_set]; rfl
@[go_sem] def b0p (x : State) : List AV := [.v (.string x.Name), I x.Shows]
theorem b1s (x : State) : ∀ c ∈ b0p x, Frz c := (b0a (b0e _) (b0a (b0e _) b0j))
theorem j7r (x : State) : (b0p x).length = 2 := rfl
@[go_sem] theorem o5q {l : List State} {n : Nat} {a0 : ByteArray} {a1 : Int} : (List.map b0p l).set n [.v (.string a0), I a1] = List.map b0p (l.set n (State.mk a0 a1)) := by rw [List.map_set]; rfl
@[go_sem] def b0o (x : Counter) : List AV := [.v (.string x.Name), I x.Max]
theorem b1q (x : Counter) : ∀ c ∈ b0o x, Frz c := (b0a (b0e _) (b0a (b0e _) b0j))
theorem j7m (x : Counter) : (b0o x).length = 2 := rfl
@[go_sem] theorem o5h {l : List Counter} {n : Nat} {a0 : ByteArray} {a1 : Int} : (List.map b0o l).set n [.v (.string a0), I a1] = List.map b0o (l.set n (Counter.mk a0 a1)) := by rw [List.map_set]; rfl
def J18 (ticks : Int) : Machine :=
 (Machine.mk ([(ByteArray.mk #[109, 111, 118, 101, 115])]) ([(ByteArray.mk #[97, 108, 97, 114, 109])]) ([(Counter.mk (ByteArray.mk #[110]) 7)]) ([(State.mk (ByteArray.mk #[119, 97, 116, 99, 104]) 0), (State.mk (ByteArray.mk #[108, 97, 116, 101]) 1)]) ([(Rule.mk 0 1 ([[(Literal.mk 1 0 0 false), (Literal.mk 2 0 ticks false)]]) ([])), (Rule.mk 0 0 ([[(Literal.mk 1 0 0 false)]]) ([(Set.mk 2 0)])), (Rule.mk 0 0 ([[(Literal.mk 1 0 0 true)]]) ([(Set.mk 1 0)]))]))
def J9b (O : Orac) : Prop := ∀ (ticks : Int), Fn O "newel/neweltop.watch" [I ticks] (.agg [.fs 1 (List.map eS ((J18 ticks).Inputs)), .fs 1 (List.map eS ((J18 ticks).Outputs)), .fs 2 (List.map b0o ((J18 ticks).Counters)), .fs 2 (List.map b0p ((J18 ticks).States)), .fs 4 (List.map b0m ((J18 ticks).Rules))])
def b2q (n : Int) (low : Int) (high : Int) : Bool :=
 (decide (low <= n)) && (decide (n <= high))
def c5u (O : Orac) : Prop := ∀ (n : Int) (low : Int) (high : Int), Fn O "newel/situation.within" [I n, I low, I high] (B (b2q n low high))
@[go_sem] def b4f (x : List ByteArray) : List AV := [.fs 1 (List.map eS x)]
theorem c65 (x : List ByteArray) : ∀ c ∈ b4f x, Frz c := (b0a (b0c fun a _ => b0z a) b0j)
theorem g1e (x : List ByteArray) : (b4f x).length = 1 := rfl
@[go_sem] theorem o5l {l : List (List ByteArray)} {n : Nat} {a0 : List ByteArray} : (List.map b4f l).set n [.fs 1 (List.map eS a0)] = List.map b4f (l.set n a0) := by rw [List.map_set]; rfl
def c9i (slices : List (List ByteArray)) : Option (List ByteArray) :=
 if slices.flatten.length * 16 <= 2 ^ 40 /\ slices.length < 2 ^ 40 /\ 0 < slices.flatten.length then some slices.flatten else none
def d0t (O : Orac) : Prop := ∀ (slices : List (List ByteArray)) (r : List ByteArray) (hm0 : c9i slices = some r), FnW O "slices.Concat[[]string,string]" [.fs 1 (List.map b4f slices)] 1 eS r
def c9j (slices : List (List ByteArray)) : Option Unit :=
 if slices.flatten.length = 0 /\ slices.length < 2 ^ 40 then some () else none
def d0u (O : Orac) : Prop := ∀ (slices : List (List ByteArray)) (r : Unit) (hm0 : c9j slices = some r), Fn O "slices.Concat[[]string,string]" [.fs 1 (List.map b4f slices)] (.v (.slice none 0 0))
def c9c (l_3_1 : List ByteArray) : Option (List ByteArray) :=
 some l_3_1
def c89 (m : Machine) : ((List ByteArray) × Int) -> Option (Out ((List ByteArray) × Int) (((List ByteArray))))
 | (l_3_1, x_30) =>
  if decide (x_30 < (List.length m.States : Int)) then
   (get m.States x_30).bind fun x12 =>
   (ap 16 l_3_1 ([x12.Name])).bind fun l14 =>
   some (.nx (l14, wr (x_30 + 1)))
  else
   some (.br l_3_1)
def c9b (m : Machine) (l_3 : List ByteArray) : Option (List ByteArray) :=
 (b0w (c89 m) (l_3, 0)).bind fun l_3_1 =>
 c9c l_3_1
def c9a (m : Machine) : ((List ByteArray) × Int) -> Option (Out ((List ByteArray) × Int) (((List ByteArray))))
 | (l_3, x_17) =>
  if decide (x_17 < (List.length m.Counters : Int)) then
   (get m.Counters x_17).bind fun x21 =>
   (ap 16 l_3 ([x21.Name])).bind fun l23 =>
   some (.nx (l23, wr (x_17 + 1)))
  else
   some (.br l_3)
def c88 (m : Machine) : Option (List ByteArray) :=
 (c9i ([m.Inputs, m.Outputs])).bind fun y2 =>
 (b0w (c9a m) (y2, 0)).bind fun l_3 =>
 c9b m l_3
@[go_sem] def vM (m : Machine) : List AV := [.fs 1 (List.map eS m.Inputs), .fs 1 (List.map eS m.Outputs), .fs 2 (List.map b0o m.Counters), .fs 2 (List.map b0p m.States), .fs 4 (List.map b0m m.Rules)]
theorem fM (m : Machine) : Frz (.agg (vM m)) := (.agg _ (b0a (b0c fun a _ => b0z a) (b0a (b0c fun a _ => b0z a) (b0a (b0c fun a _ => b1q a) (b0a (b0c fun a _ => b1s a) (b0a (b0c fun a _ => b1r a) b0j))))))
def d0r (O : Orac) : Prop := ∀ (m : Machine) (r : List ByteArray) (hm0 : c88 m = some r), Fn O "newel/situation.names" [.agg (vM m)] (.fs 1 (List.map eS r))
def c9h (l_3_1 : List ByteArray) : Option (List ByteArray) :=
 some l_3_1
def c9e (m : Machine) : ((List ByteArray) × Int) -> Option (Out ((List ByteArray) × Int) (((List ByteArray))))
 | (l_3_1, x_30) =>
  if decide (x_30 < (List.length m.States : Int)) then
   (get m.States x_30).bind fun x12 =>
   (ap 16 l_3_1 ([x12.Name])).bind fun l14 =>
   some (.nx (l14, wr (x_30 + 1)))
  else
   some (.br l_3_1)
def c9g (m : Machine) (l_3 : List ByteArray) : Option (List ByteArray) :=
 (b0w (c9e m) (l_3, 0)).bind fun l_3_1 =>
 c9h l_3_1
def c9f (m : Machine) : ((List ByteArray) × Int) -> Option (Out ((List ByteArray) × Int) (((List ByteArray))))
 | (l_3, x_17) =>
  if decide (x_17 < (List.length m.Counters : Int)) then
   (get m.Counters x_17).bind fun x21 =>
   (ap 16 l_3 ([x21.Name])).bind fun l23 =>
   some (.nx (l23, wr (x_17 + 1)))
  else
   some (.br l_3)
def c9d (m : Machine) : Option (List ByteArray) :=
 (c9j ([m.Inputs, m.Outputs])).bind fun y2 =>
 (b0w (c9f m) ([], 0)).bind fun l_3 =>
 c9g m l_3
def d0s (O : Orac) : Prop := ∀ (m : Machine) (r : List ByteArray) (hm0 : c9d m = some r), Fn O "newel/situation.names" [.agg (vM m)] (.fs 1 (List.map eS r))
def c45 (m : Machine) : Option (List ByteArray) :=
 if 0 < m.Inputs.length + m.Outputs.length then c88 m else c9d m
def d0q (O : Orac) : Prop := ∀ (m : Machine) (r : List ByteArray) (hm0 : c45 m = some r), Fn O "newel/situation.names" [.agg (vM m)] (.fs 1 (List.map eS r))
def d48 (word : ByteArray) : Option Bool :=
 some (!(decide (word = (ByteArray.mk #[]))))
def c42 (word : ByteArray) : Int -> Option (Out Int (Unit ⊕ Bool))
 | x_8 =>
  if decide (x_8 < (List.length (b3q word) : Int)) then
   (get (b3q word) x_8).bind fun x8 =>
   if (decide (x8 < 97)) || (decide (122 < x8)) then
    some (.br (.inr false))
   else
    some (.nx (wr (x_8 + 1)))
  else
   some (.br (.inl ()))
def r1j (word : ByteArray) : Option Bool :=
 (b0w (c42 word) (0)).bind fun
  | (.inl ()) => d48 word
  | (.inr r') => some r'
def d0m (O : Orac) : Prop := ∀ (word : ByteArray) (r : Bool) (hm0 : r1j word = some r), Fn O "newel/situation.Plain" [.v (.string word)] (B r)
def b5w (x_4 : Bool) : Bool :=
 if x_4 then
  true
 else
  false
def b84 (word : ByteArray) : Bool :=
 if decide (word = (ByteArray.mk #[97, 110, 121])) then
  b5w (decide (word = (ByteArray.mk #[97, 110, 121])))
 else
  if decide (word = (ByteArray.mk #[116, 111])) then
   b5w (decide (word = (ByteArray.mk #[116, 111])))
  else
   if decide (word = (ByteArray.mk #[122, 101, 114, 111])) then
    b5w (decide (word = (ByteArray.mk #[122, 101, 114, 111])))
   else
    if decide (word = (ByteArray.mk #[109, 111, 114, 101])) then
     b5w (decide (word = (ByteArray.mk #[109, 111, 114, 101])))
    else
     if decide (word = (ByteArray.mk #[108, 101, 115, 115])) then
      b5w (decide (word = (ByteArray.mk #[108, 101, 115, 115])))
     else
      if decide (word = (ByteArray.mk #[105, 102])) then
       b5w (decide (word = (ByteArray.mk #[105, 102])))
      else
       if decide (word = (ByteArray.mk #[121, 101, 115])) then
        b5w (decide (word = (ByteArray.mk #[121, 101, 115])))
       else
        b5w (decide (word = (ByteArray.mk #[110, 111])))
def d0n (O : Orac) : Prop := ∀ (word : ByteArray), Fn O "newel/situation.Reserved" [.v (.string word)] (B (b84 word))
def d49 : Option Bool :=
 some true
def c1i (y2 : List ByteArray) : ((List (ByteArray × Int)) × Int) -> Option (Out ((List (ByteArray × Int)) × Int) (Unit ⊕ Bool))
 | (seen_3, x_10) =>
  if decide (x_10 < (List.length y2 : Int)) then
   (get y2 x_10).bind fun x10 =>
   (r1j x10).bind fun y12 =>
   if (((!y12) || (decide (8 < (ByteArray.size x10 : Int)))) || (b84 x10)) || (decide (1 < (b2w (b3w seen_3 x10 (wr ((b2w seen_3 x10 0) + 1))) x10 0))) then
    some (.br (.inr false))
   else
    some (.nx ((b3w seen_3 x10 (wr ((b2w seen_3 x10 0) + 1))), wr (x_10 + 1)))
  else
   some (.br (.inl ()))
def c44 (m : Machine) : Option Bool :=
 (c45 m).bind fun y2 =>
 (b0w (c1i y2) (([] : List (ByteArray × Int)), 0)).bind fun
  | (.inl ()) => d49
  | (.inr r') => some r'
def d0p (O : Orac) : Prop := ∀ (m : Machine) (r : Bool) (hm0 : c44 m = some r), Fn O "newel/situation.named" [.agg (vM m)] (B r)
def c43 (m : Machine) (x : Literal) : Option Bool :=
 if decide (x.Kind = 1) then
  some ((b2q x.Number 0 (wr ((List.length m.Inputs : Int) - 1))) && (decide (x.Value = 0)))
 else
  if decide (x.Kind = 2) then
   (if (b2q x.Number 0 (wr ((List.length m.Counters : Int) - 1))) then (get m.Counters x.Number).bind fun x7 =>
   some (b2q x.Value 0 x7.Max) else some false).bind fun c8 =>
   some c8
  else
   if decide (x.Kind = 3) then
    some ((b2q x.Number 0 (wr ((List.length m.States : Int) - 1))) && (decide (x.Value = 0)))
   else
    if decide (x.Kind = 4) then
     some ((b2q x.Number 0 (wr ((List.length m.Outputs : Int) - 1))) && (decide (x.Value = 0)))
    else
     some false
def d0o (O : Orac) : Prop := ∀ (m : Machine) (x : Literal) (r : Bool) (hm0 : c43 m x = some r), Fn O "newel/situation.asks" [.agg (vM m), .agg [I x.Kind, I x.Number, I x.Value, B x.Not]] (B r)
def b82 (x : Literal) (c0 : Machine) : Option Bool :=
 (c43 c0 x).bind fun y2 =>
 some (!y2)
def d0j (O : Orac) : Prop := ∀ (x : Literal) (c0 : Machine) (r : Bool) (hm0 : b82 x c0 = some r), Fn O "newel/situation.Asked$1" [.agg [I x.Kind, I x.Number, I x.Value, B x.Not], .fp (vM c0) 0] (B r)
def d5f : Option Int :=
 some (-1)
def g3e (s : List Literal) (f : Literal -> Option Bool) : Int -> Option (Out Int (Unit ⊕ Int))
 | x_8 =>
  if decide (x_8 < (List.length s : Int)) then
   (get s x_8).bind fun x9 =>
   (f x9).bind fun y10 =>
   if y10 then
    some (.br (.inr x_8))
   else
    some (.nx (wr (x_8 + 1)))
  else
   some (.br (.inl ()))
def d5e (s : List Literal) (f : Literal -> Option Bool) : Option Int :=
 (b0w (g3e s f) (0)).bind fun
  | (.inl ()) => d5f
  | (.inr r') => some r'
def d0z (O : Orac) : Prop := ∀ (s : List Literal) (f_n : String) (f_a f_b : List AV) (f : Literal -> Option Bool) (f_z : Frz (.fn f_n f_a f_b)) (f_h : ∀ z0 y, f z0 = some y -> Fn O f_n (f_a ++ [.agg [I z0.Kind, I z0.Number, I z0.Value, B z0.Not]] ++ f_b) (B y)) (r : Int) (hm0 : d5e s f = some r), Fn O "slices.IndexFunc[newel/api.Term,newel/api.Literal]" [.fs 4 (List.map b3k s), .fn f_n f_a f_b] (I r)
def b7t (s : List Literal) (f : Literal -> Option Bool) : Option Bool :=
 (d5e s f).bind fun y2 =>
 some (decide (0 <= y2))
def c1o (O : Orac) : Prop := ∀ (s : List Literal) (f_n : String) (f_a f_b : List AV) (f : Literal -> Option Bool) (f_z : Frz (.fn f_n f_a f_b)) (f_h : ∀ z0 y, f z0 = some y -> Fn O f_n (f_a ++ [.agg [I z0.Kind, I z0.Number, I z0.Value, B z0.Not]] ++ f_b) (B y)) (r : Bool) (hm0 : b7t s f = some r), Fn O "slices.ContainsFunc[newel/api.Term,newel/api.Literal]" [.fs 4 (List.map b3k s), .fn f_n f_a f_b] (B r)
def d46 : Option Bool :=
 some true
def c4u (m : Machine) (c : List (List Literal)) : Int -> Option (Out Int (Unit ⊕ Bool))
 | x_12 =>
  if decide (x_12 < (List.length c : Int)) then
   (get c x_12).bind fun x10 =>
   (if decide (6 < (List.length x10 : Int)) then some true else (b7t x10 (fun z14 => b82 z14 m)).bind fun y15 =>
   some y15).bind fun c16 =>
   if c16 then
    some (.br (.inr false))
   else
    some (.nx (wr (x_12 + 1)))
  else
   some (.br (.inl ()))
def c1h (m : Machine) (c : List (List Literal)) : Option Bool :=
 if decide (6 < (List.length c : Int)) then
  some false
 else
  (b0w (c4u m c) (0)).bind fun
   | (.inl ()) => d46
   | (.inr r') => some r'
def c5t (O : Orac) : Prop := ∀ (m : Machine) (c : List (List Literal)) (r : Bool) (hm0 : c1h m c = some r), Fn O "newel/situation.Asked" [.agg (vM m), .fs 1 (List.map b0t c)] (B r)
def b7s (x : Literal) : Bool :=
 decide (x.Kind = 3)
def d0l (O : Orac) : Prop := ∀ (x : Literal), Fn O "newel/situation.Check$1" [.agg [I x.Kind, I x.Number, I x.Value, B x.Not]] (B (b7s x))
def d47 : Option Int :=
 some 0
def c86 (x_79 : Int) : Option (Out Int (Unit ⊕ Int)) :=
 some (.nx (wr (x_79 + 1)))
def c4y (m : Machine) (x24 : Rule) : Int -> Option (Out Int (Unit ⊕ Int))
 | x_127 =>
  if decide (x_127 < (List.length x24.Sets : Int)) then
   (get x24.Sets x_127).bind fun x41 =>
   if (!(b2q x41.Kind 1 3)) || (!(b2q x41.Counter 0 (wr ((List.length m.Counters : Int) - 1)))) then
    some (.br (.inr 41))
   else
    some (.nx (wr (x_127 + 1)))
  else
   some (.br (.inl ()))
def c87 (m : Machine) (x_79 : Int) (x24 : Rule) : Option (Out Int (Unit ⊕ Int)) :=
 (b0w (c4y m x24) (0)).bind fun
  | (.inl ()) => c86 x_79
  | (.inr r') => some (.br (.inr r'))
def c4x (x24 : Rule) : Int -> Option (Out Int (Unit ⊕ Int))
 | x_117 =>
  if decide (x_117 < (List.length x24.When : Int)) then
   (get x24.When x_117).bind fun x50 =>
   (b7t x50 (fun z53 => some (b7s z53))).bind fun y54 =>
   if y54 then
    some (.br (.inr 41))
   else
    some (.nx (wr (x_117 + 1)))
  else
   some (.br (.inl ()))
def b83 (m : Machine) : Int -> Option (Out Int (Unit ⊕ Int))
 | x_79 =>
  if decide (x_79 < (List.length m.Rules : Int)) then
   (get m.Rules x_79).bind fun x24 =>
   (if (!(b2q x24.From (-1) (wr ((List.length m.States : Int) - 1)))) || (!(b2q x24.To 0 (wr ((List.length m.States : Int) - 1)))) then some true else (c1h m x24.When).bind fun y27 =>
   some (!y27)).bind fun c28 =>
   if c28 || (decide (4 < (List.length x24.Sets : Int))) then
    some (.br (.inr 41))
   else
    (b0w (c4x x24) (0)).bind fun
     | (.inl ()) => c87 m x_79 x24
     | (.inr r') => some (.br (.inr r'))
  else
   some (.br (.inl ()))
def c85 (m : Machine) : Option Int :=
 (b0w (b83 m) (0)).bind fun
  | (.inl ()) => d47
  | (.inr r') => some r'
def c4w (m : Machine) : Int -> Option (Out Int (Unit ⊕ Int))
 | x_62 =>
  if decide (x_62 < (List.length m.States : Int)) then
   (get m.States x_62).bind fun x63 =>
   (shl .i64 1 (List.length m.Outputs : Int)).bind fun q65 =>
   if !(b2q x63.Shows 0 (wr (q65 - 1))) then
    some (.br (.inr 41))
   else
    some (.nx (wr (x_62 + 1)))
  else
   some (.br (.inl ()))
def p84 (m : Machine) : Option Int :=
 (b0w (c4w m) (0)).bind fun
  | (.inl ()) => c85 m
  | (.inr r') => some r'
def c4z (m : Machine) : Int -> Option (Out Int (Unit ⊕ Int))
 | x_50 =>
  if decide (x_50 < (List.length m.Counters : Int)) then
   (get m.Counters x_50).bind fun x73 =>
   if !(b2q x73.Max 1 7) then
    some (.br (.inr 41))
   else
    some (.nx (wr (x_50 + 1)))
  else
   some (.br (.inl ()))
def c4v (m : Machine) : Option Int :=
 (if ((((decide (4 < (List.length m.Inputs : Int))) || (decide (6 < (List.length m.Outputs : Int)))) || (decide (2 < (List.length m.Counters : Int)))) || (!(b2q (List.length m.States : Int) 1 12))) || (decide (40 < (List.length m.Rules : Int))) then some true else (c44 m).bind fun y3 =>
 some (!y3)).bind fun c4 =>
 if c4 then
  some 41
 else
  (b0w (c4z m) (0)).bind fun
   | (.inl ()) => p84 m
   | (.inr r') => some r'
def d0k (O : Orac) : Prop := ∀ (m : Machine) (r : Int) (hm0 : c4v m = some r), Fn O "newel/situation.Check" [.agg (vM m)] (I r)
def c2f (m : Machine) : Option Int :=
 (c4v m).bind fun y2 =>
 some y2
def c96 (O : Orac) : Prop := ∀ (m : Machine) (r : Int) (hm0 : c2f m = some r), Fn O "newel/control.Check" [.agg (vM m)] (I r)
structure situation_Plant where
 Machine : Machine
 deriving Inhabited, DecidableEq
structure control_plant where
 Plant : situation_Plant
 deriving Inhabited, DecidableEq
def b3h (m : Machine) : control_plant :=
 (control_plant.mk (situation_Plant.mk m))
def c5h (O : Orac) : Prop := ∀ (m : Machine), Fn O "newel/control.of" [.agg (vM m)] (.agg [.fs 1 (List.map eS ((((b3h m).Plant).Machine).Inputs)), .fs 1 (List.map eS ((((b3h m).Plant).Machine).Outputs)), .fs 2 (List.map b0o ((((b3h m).Plant).Machine).Counters)), .fs 2 (List.map b0p ((((b3h m).Plant).Machine).States)), .fs 4 (List.map b0m ((((b3h m).Plant).Machine).Rules))])
def c1y (m : situation_Plant) : Option Int :=
 (shl .i64 1 (List.length m.Machine.Inputs : Int)).bind fun q2 =>
 some q2
def c9y (O : Orac) : Prop := ∀ (m : situation_Plant) (r : Int) (hm0 : c1y m = some r), Fn O "(newel/situation.Plant).All" [.agg (vM m.Machine)] (I r)
def p2c (m : situation_Plant) (n : Int) : Option Bool :=
 (c1y m).bind fun y2 =>
 some (b2q n 0 (wr (y2 - 1)))
def p2o (O : Orac) : Prop := ∀ (m : situation_Plant) (n : Int) (r : Bool) (hm0 : p2c m n = some r), Fn O "(newel/situation.Plant).Input" [.agg (vM m.Machine), I n] (B r)
structure Place where
 State : Int
 Values : Int × Int
 deriving Inhabited, DecidableEq
def b6w (x : Literal) (holds_9 : Bool) : Option Bool :=
 some (!(b5c holds_9 x.Not))
def b77 (m : situation_Plant) (x : Literal) (p : Place) (input : Int) : Option Bool :=
 if decide (x.Kind = 1) then
  (shr .i64 input x.Number).bind fun q5 =>
  b6w x (decide ((b6y q5 1) = 1))
 else
  if decide (x.Kind = 2) then
   (get [p.Values.1, p.Values.2] x.Number).bind fun x8 =>
   b6w x (decide (x.Value <= x8))
  else
   if decide (x.Kind = 3) then
    b6w x (decide (p.State = x.Number))
   else
    if decide (x.Kind = 4) then
     (get m.Machine.States p.State).bind fun x13 =>
     (shr .i64 x13.Shows x.Number).bind fun q14 =>
     b6w x (decide ((b6y q14 1) = 1))
    else
     b6w x false
def c93 (O : Orac) : Prop := ∀ (m : situation_Plant) (x : Literal) (p : Place) (input : Int) (r : Bool) (hm0 : b77 m x p input = some r), Fn O "(newel/situation.Plant).literal" [.agg (vM m.Machine), .agg [I x.Kind, I x.Number, I x.Value, B x.Not], .agg [I p.State, I p.Values.1, I p.Values.2], I input] (B r)
def b76 (x : Literal) (c0 : situation_Plant) (c1 : Place) (c2 : Int) : Option Bool :=
 (b77 c0 x c1 c2).bind fun y2 =>
 some (!y2)
def c91 (O : Orac) : Prop := ∀ (x : Literal) (c0 : situation_Plant) (c1 : Place) (c2 : Int) (r : Bool) (hm0 : b76 x c0 c1 c2 = some r), Fn O "(newel/situation.Plant).Holds$1$1" [.agg [I x.Kind, I x.Number, I x.Value, B x.Not], .fp (vM c0.Machine) 0, .fp [I c1.State, I c1.Values.1, I c1.Values.2] 0, .fp [I c2] 0] (B r)
def b74 (t_ : List Literal) (c0 : situation_Plant) (c1 : Place) (c2 : Int) : Option Bool :=
 (b7t t_ (fun z3 => b76 z3 c0 c1 c2)).bind fun y4 =>
 some (!y4)
def c90 (O : Orac) : Prop := ∀ (t_ : List Literal) (c0 : situation_Plant) (c1 : Place) (c2 : Int) (r : Bool) (hm0 : b74 t_ c0 c1 c2 = some r), Fn O "(newel/situation.Plant).Holds$1" [.fs 4 (List.map b3k t_), .fp (vM c0.Machine) 0, .fp [I c1.State, I c1.Values.1, I c1.Values.2] 0, .fp [I c2] 0] (B r)
def d5d : Option Int :=
 some (-1)
def g3d (s : List (List Literal)) (f : (List Literal) -> Option Bool) : Int -> Option (Out Int (Unit ⊕ Int))
 | x_8 =>
  if decide (x_8 < (List.length s : Int)) then
   (get s x_8).bind fun x9 =>
   (f x9).bind fun y10 =>
   if y10 then
    some (.br (.inr x_8))
   else
    some (.nx (wr (x_8 + 1)))
  else
   some (.br (.inl ()))
def d5c (s : List (List Literal)) (f : (List Literal) -> Option Bool) : Option Int :=
 (b0w (g3d s f) (0)).bind fun
  | (.inl ()) => d5d
  | (.inr r') => some r'
def d0y (O : Orac) : Prop := ∀ (s : List (List Literal)) (f_n : String) (f_a f_b : List AV) (f : (List Literal) -> Option Bool) (f_z : Frz (.fn f_n f_a f_b)) (f_h : ∀ z0 y, f z0 = some y -> Fn O f_n (f_a ++ [.fs 4 (List.map b3k z0)] ++ f_b) (B y)) (r : Int) (hm0 : d5c s f = some r), Fn O "slices.IndexFunc[newel/api.Cond,newel/api.Term]" [.fs 1 (List.map b0t s), .fn f_n f_a f_b] (I r)
def c9k (s : List (List Literal)) (f : (List Literal) -> Option Bool) : Option Bool :=
 (d5c s f).bind fun y2 =>
 some (decide (0 <= y2))
def d0w (O : Orac) : Prop := ∀ (s : List (List Literal)) (f_n : String) (f_a f_b : List AV) (f : (List Literal) -> Option Bool) (f_z : Frz (.fn f_n f_a f_b)) (f_h : ∀ z0 y, f z0 = some y -> Fn O f_n (f_a ++ [.fs 4 (List.map b3k z0)] ++ f_b) (B y)) (r : Bool) (hm0 : c9k s f = some r), Fn O "slices.ContainsFunc[newel/api.Cond,newel/api.Term]" [.fs 1 (List.map b0t s), .fn f_n f_a f_b] (B r)
def b6v (m : situation_Plant) (c : List (List Literal)) (p : Place) (input : Int) : Option Bool :=
 (c9k c (fun z3 => b74 z3 m p input)).bind fun y4 =>
 some y4
def b89 (O : Orac) : Prop := ∀ (m : situation_Plant) (c : List (List Literal)) (p : Place) (input : Int) (r : Bool) (hm0 : b6v m c p input = some r), Fn O "(newel/situation.Plant).Holds" [.agg (vM m.Machine), .fs 1 (List.map b0t c), .agg [I p.State, I p.Values.1, I p.Values.2], I input] (B r)
def r1b (m : situation_Plant) (s : Set) (p : Place) : Option Place :=
 (get [p.Values.1, p.Values.2] s.Counter).bind fun x2 =>
 if decide (s.Kind = 1) then
  some (Place.mk p.State (b1n s.Counter 0 0 p.Values.1, b1n s.Counter 1 0 p.Values.2))
 else
  if decide (s.Kind = 2) then
   (get m.Machine.Counters s.Counter).bind fun x6 =>
   some (Place.mk p.State (b1n s.Counter 0 (mn (wr (x2 + 1)) x6.Max) p.Values.1, b1n s.Counter 1 (mn (wr (x2 + 1)) x6.Max) p.Values.2))
  else
   if decide (s.Kind = 3) then
    some (Place.mk p.State (b1n s.Counter 0 (mx (wr (x2 - 1)) 0) p.Values.1, b1n s.Counter 1 (mx (wr (x2 - 1)) 0) p.Values.2))
   else
    some (Place.mk p.State (p.Values.1, p.Values.2))
def c94 (O : Orac) : Prop := ∀ (m : situation_Plant) (s : Set) (p : Place) (i_2 : Nat) (h0 : Heap) (ob_p2 : h0.ob i_2 = some (3, [[I p.State, I p.Values.1, I p.Values.2]])) (lt_p2 : i_2 < h0.nx) (r : Place) (hm0 : r1b m s p = some r), b6e O "(newel/situation.Plant).set" [.agg (vM m.Machine), .agg [I s.Kind, I s.Counter], .rp i_2 0 0] h0 (fun v h => v = .tup [] /\ h.ob i_2 = some (3, [[I r.State, I r.Values.1, I r.Values.2]]) /\ (∀ j, j < h0.nx -> ¬j = i_2 -> h.ob j = h0.ob j) /\ h0.nx <= h.nx)
def c6h (p_4_0 : Int) (p_4_1 : Int) (p_4_2 : Int) : Option Place :=
 some (Place.mk p_4_0 (p_4_1, p_4_2))
def c6i (x_15 : Int) : Option (Out Int ((Int × Int × Int))) :=
 some (.nx (wr (x_15 + 1)))
def c6g (x9 : Rule) (p_4_0 : Int) (p_4_1 : Int) (p_4_2 : Int) : Option (Out Int ((Int × Int × Int))) :=
 some (.br (x9.To, p_4_1, p_4_2))
def c11 (m : situation_Plant) (x9 : Rule) : (Int × Int × Int × Int) -> Option (Out (Int × Int × Int × Int) ((Int × Int × Int)))
 | (p_4_0, p_4_1, p_4_2, x_41) =>
  if decide (x_41 < (List.length x9.Sets : Int)) then
   (get x9.Sets x_41).bind fun x25 =>
   (r1b m x25 (Place.mk p_4_0 (p_4_1, p_4_2))).bind fun y27 =>
   some (.nx (y27.State, y27.Values.1, y27.Values.2, wr (x_41 + 1)))
  else
   some (.br (p_4_0, p_4_1, p_4_2))
def c6f (m : situation_Plant) (p : Place) (input : Int) : Int -> Option (Out Int ((Int × Int × Int)))
 | x_15 =>
  if decide (x_15 < (List.length m.Machine.Rules : Int)) then
   (get m.Machine.Rules x_15).bind fun x9 =>
   (if (decide (¬x9.From = (-1))) && (decide (¬x9.From = p.State)) then some true else (b6v m x9.When (Place.mk p.State (p.Values.1, p.Values.2)) input).bind fun y12 =>
   some (!y12)).bind fun c13 =>
   if c13 then
    c6i x_15
   else
    (b0w (c11 m x9) (p.State, p.Values.1, p.Values.2, 0)).bind fun
     | (p_4_0, p_4_1, p_4_2) => c6g x9 p_4_0 p_4_1 p_4_2
  else
   some (.br (p.State, p.Values.1, p.Values.2))
def r7y (m : situation_Plant) (p : Place) (input : Int) : Option Place :=
 (b0w (c6f m p input) (0)).bind fun
  | (p_4_0, p_4_1, p_4_2) => c6h p_4_0 p_4_1 p_4_2
def c92 (O : Orac) : Prop := ∀ (m : situation_Plant) (p : Place) (input : Int) (r : Place) (hm0 : r7y m p input = some r), Fn O "(newel/situation.Plant).Step" [.agg (vM m.Machine), .agg [I p.State, I p.Values.1, I p.Values.2], I input] (.agg [I r.State, I r.Values.1, I r.Values.2])
@[go_sem] def b1g (x : Place) : List AV := [I x.State, I x.Values.1, I x.Values.2]
theorem x46 (x : Place) : ∀ c ∈ b1g x, Frz c := (b0a (b0e _) (b0a (b0e _) (b0a (b0e _) b0j)))
theorem d32 (x : Place) : (b1g x).length = 3 := rfl
@[go_sem] theorem o5n {l : List Place} {n : Nat} {a0 : Int} {a1 : Int} {a2 : Int} : (List.map b1g l).set n [I a0, I a1, I a2] = List.map b1g (l.set n (Place.mk a0 (a1, a2))) := by rw [List.map_set]; rfl
def r16 (l_9 : List Place) : Option ((List Place) × Int) :=
 some (l_9, 0)
def l40 (m : Machine) (inputs : List Int) : (Int × Int × Int × (List Place) × Int) -> Option (Out (Int × Int × Int × (List Place) × Int) (((List Place)) ⊕ (((List Place) × Int))))
 | (p_8_0, p_8_1, p_8_2, l_9, x_24) =>
  if decide (x_24 < (List.length inputs : Int)) then
   (get inputs x_24).bind fun x14 =>
   (p2c (situation_Plant.mk (((b3h m).Plant).Machine)) x14).bind fun y16 =>
   if !y16 then
    some (.br (.inr ([], 1)))
   else
    (r7y (situation_Plant.mk (((b3h m).Plant).Machine)) (Place.mk p_8_0 (p_8_1, p_8_2)) x14).bind fun y20 =>
    (ap 24 l_9 ([(Place.mk y20.State (y20.Values.1, y20.Values.2))])).bind fun l22 =>
    some (.nx (y20.State, y20.Values.1, y20.Values.2, l22, wr (x_24 + 1)))
  else
   some (.br (.inl l_9))
def r1c (m : Machine) (inputs : List Int) : Option ((List Place) × Int) :=
 (c2f m).bind fun y2 =>
 if decide (¬y2 = 0) then
  some ([], y2)
 else
  if decide (200 < (List.length inputs : Int)) then
   some ([], 2)
  else
   (b0w (l40 m inputs) (0, 0, 0, [], 0)).bind fun
    | (.inl l_9) => r16 l_9
    | (.inr r') => some r'
def r1y (O : Orac) : Prop := ∀ (m : Machine) (inputs : List Int) (r : (List Place) × Int) (hm0 : r1c m inputs = some r), Fn O "newel/control.Run" [.agg (vM m), .fs 1 (List.map eI inputs)] (.tup [.fs 3 (List.map b1g r.1), I r.2])
@[go_sem] def b4v (x : List (List Literal)) : List AV := [.fs 1 (List.map b0t x)]
theorem b97 (x : List (List Literal)) : ∀ c ∈ b4v x, Frz c := (b0a (b0c fun a _ => b2j a) b0j)
theorem c7o (x : List (List Literal)) : (b4v x).length = 1 := rfl
@[go_sem] theorem o5j {l : List (List (List Literal))} {n : Nat} {a0 : List (List Literal)} : (List.map b4v l).set n [.fs 1 (List.map b0t a0)] = List.map b4v (l.set n a0) := by rw [List.map_set]; rfl
def d1j : Option Int :=
 some 0
def c2i (m : Machine) (conds : List (List (List Literal))) : Int -> Option (Out Int (Unit ⊕ Int))
 | x_15 =>
  if decide (x_15 < (List.length conds : Int)) then
   (get conds x_15).bind fun x12 =>
   (c1h m x12).bind fun y14 =>
   if !y14 then
    some (.br (.inr 42))
   else
    some (.nx (wr (x_15 + 1)))
  else
   some (.br (.inl ()))
def b9x (m : Machine) (conds : List (List (List Literal))) : Option Int :=
 (c2f m).bind fun y2 =>
 if decide (¬y2 = 0) then
  some y2
 else
  (b0w (c2i m conds) (0)).bind fun
   | (.inl ()) => d1j
   | (.inr r') => some r'
def c5g (O : Orac) : Prop := ∀ (m : Machine) (conds : List (List (List Literal))) (r : Int) (hm0 : b9x m conds = some r), Fn O "newel/control.check" [.agg (vM m), .fs 1 (List.map b4v conds)] (I r)
def c1z (m : situation_Plant) (assume : List (List Literal)) (p : Place) (input : Int) : Option Bool :=
 (if decide ((List.length assume : Int) = 0) then some true else (b6v m assume p input).bind fun y3 =>
 some y3).bind fun c4 =>
 some c4
def c9z (O : Orac) : Prop := ∀ (m : situation_Plant) (assume : List (List Literal)) (p : Place) (input : Int) (r : Bool) (hm0 : c1z m assume p input = some r), Fn O "(newel/situation.Plant).Allowed" [.agg (vM m.Machine), .fs 1 (List.map b0t assume), .agg [I p.State, I p.Values.1, I p.Values.2], I input] (B r)
structure control_walk where
 places : List Place
 from_ : List Int
 by_ : List Int
 next : List (List Int)
 deriving Inhabited, DecidableEq
def x23 (x : Place) : List Int := [x.State, x.Values.1, x.Values.2]
theorem d30 : ∀ a b, b3o false (vks x23 a) (vks x23 b) = some (decide (a = b)) := j7d (n := 3) (fun _ => rfl) fun a b h => by
 obtain ⟨a1, ⟨a2, a3⟩⟩ := a; obtain ⟨b4, ⟨b5, b6⟩⟩ := b
 simp only [x23, List.cons.injEq, and_true] at h
 obtain ⟨rfl, rfl, rfl⟩ := h; rfl
@[go_sem] def b2f (x : List Int) : List AV := [.fs 1 (List.map eI x)]
theorem b8i (x : List Int) : ∀ c ∈ b2f x, Frz c := (b0a (b0c fun a _ => b1t a) b0j)
theorem j7n (x : List Int) : (b2f x).length = 1 := rfl
@[go_sem] theorem o5i {l : List (List Int)} {n : Nat} {a0 : List Int} : (List.map b2f l).set n [.fs 1 (List.map eI a0)] = List.map b2f (l.set n a0) := by rw [List.map_set]; rfl
def c6a (w_7_0 : List Place) (w_7_1 : List Int) (w_7_2 : List Int) (w_7_3 : List (List Int)) : Option control_walk :=
 some (control_walk.mk w_7_0 w_7_1 w_7_2 w_7_3)
def c6b (at_9 : Int) (w_7_0_1 : List Place) (w_7_1_1 : List Int) (w_7_2_1 : List Int) (w_7_3_1 : List (List Int)) (found_8_1 : List (Place × Int)) : Option (Out ((List Place) × (List Int) × (List Int) × (List (List Int)) × (List (Place × Int)) × Int) (((List Place) × (List Int) × (List Int) × (List (List Int))))) :=
 some (.nx (w_7_0_1, w_7_1_1, w_7_2_1, w_7_3_1, found_8_1, wr (at_9 + 1)))
def c59 (w_7_3 : List (List Int)) (at_9 : Int) (w_7_0_1 : List Place) (w_7_1_1 : List Int) (w_7_2_1 : List Int) (found_8_1 : List (Place × Int)) (row_11 : List Int) : Option (Out ((List Place) × (List Int) × (List Int) × (List (List Int)) × (List (Place × Int)) × Int) (((List Place) × (List Int) × (List Int) × (List (List Int))))) :=
 (ap 24 w_7_3 ([row_11])).bind fun l17 =>
 c6b at_9 w_7_0_1 w_7_1_1 w_7_2_1 l17 found_8_1
def c1v (x_47 : Int) (w_7_0_2 : List Place) (w_7_1_2 : List Int) (w_7_2_2 : List Int) (found_8_2 : List (Place × Int)) (row_11_1 : List Int) : Option (Out ((List Place) × (List Int) × (List Int) × (List (Place × Int)) × (List Int) × Int) (((List Place) × (List Int) × (List Int) × (List (Place × Int)) × (List Int)))) :=
 some (.nx (w_7_0_2, w_7_1_2, w_7_2_2, found_8_2, row_11_1, wr (x_47 + 1)))
def c1w (row_11 : List Int) (x_47 : Int) (w_7_0_2 : List Place) (w_7_1_2 : List Int) (w_7_2_2 : List Int) (found_8_2 : List (Place × Int)) (to_14 : Int) : Option (Out ((List Place) × (List Int) × (List Int) × (List (Place × Int)) × (List Int) × Int) (((List Place) × (List Int) × (List Int) × (List (Place × Int)) × (List Int)))) :=
 (get (List.set row_11 (Int.toNat x_47) (-1)) x_47).bind fun x36 =>
 c1v x_47 w_7_0_2 w_7_1_2 w_7_2_2 found_8_2 (List.set (List.set row_11 (Int.toNat x_47) (-1)) (Int.toNat x_47) to_14)
def c1u (m : control_plant) (assume : List (List Literal)) (heard : Int -> Option Int) (at_9 : Int) (x9 : Place) (l13 : List Int) : ((List Place) × (List Int) × (List Int) × (List (Place × Int)) × (List Int) × Int) -> Option (Out ((List Place) × (List Int) × (List Int) × (List (Place × Int)) × (List Int) × Int) (((List Place) × (List Int) × (List Int) × (List (Place × Int)) × (List Int))))
 | (w_7_0_1, w_7_1_1, w_7_2_1, found_8_1, row_11, x_47) =>
  if decide (x_47 < ((List.length l13 : Nat) : Int)) then
   (get row_11 x_47).bind fun x24 =>
   (c1z m.Plant assume (Place.mk x9.State (x9.Values.1, x9.Values.2)) x_47).bind fun y26 =>
   if !y26 then
    c1v x_47 w_7_0_1 w_7_1_1 w_7_2_1 found_8_1 (List.set row_11 (Int.toNat x_47) (-1))
   else
    (heard x_47).bind fun y31 =>
    (r7y m.Plant (Place.mk x9.State (x9.Values.1, x9.Values.2)) y31).bind fun y32 =>
    if !(b6m found_8_1 (Place.mk y32.State (y32.Values.1, y32.Values.2))) then
     (ap 24 w_7_0_1 ([(Place.mk y32.State (y32.Values.1, y32.Values.2))])).bind fun l41 =>
     (ap 8 w_7_1_1 ([at_9])).bind fun l42 =>
     (ap 8 w_7_2_1 ([x_47])).bind fun l43 =>
     c1w row_11 x_47 l41 l42 l43 (b3w found_8_1 (Place.mk y32.State (y32.Values.1, y32.Values.2)) ((List.length w_7_0_1 : Nat) : Int)) ((List.length w_7_0_1 : Nat) : Int)
    else
     c1w row_11 x_47 w_7_0_1 w_7_1_1 w_7_2_1 found_8_1 (b2w found_8_1 (Place.mk y32.State (y32.Values.1, y32.Values.2)) 0)
  else
   some (.br (w_7_0_1, w_7_1_1, w_7_2_1, found_8_1, row_11))
def b9i (m : control_plant) (assume : List (List Literal)) (heard : Int -> Option Int) : ((List Place) × (List Int) × (List Int) × (List (List Int)) × (List (Place × Int)) × Int) -> Option (Out ((List Place) × (List Int) × (List Int) × (List (List Int)) × (List (Place × Int)) × Int) (((List Place) × (List Int) × (List Int) × (List (List Int)))))
 | (w_7_0, w_7_1, w_7_2, w_7_3, found_8, at_9) =>
  if decide (at_9 < ((List.length w_7_0 : Nat) : Int)) then
   (get w_7_0 at_9).bind fun x9 =>
   (c1y m.Plant).bind fun y12 =>
   (mks 8 y12 0).bind fun l13 =>
   (b0w (c1u m assume heard at_9 x9 l13) (w_7_0, w_7_1, w_7_2, found_8, l13, 0)).bind fun
    | (w_7_0_1, w_7_1_1, w_7_2_1, found_8_1, row_11) => c59 w_7_3 at_9 w_7_0_1 w_7_1_1 w_7_2_1 found_8_1 row_11
  else
   some (.br (w_7_0, w_7_1, w_7_2, w_7_3))
def b9h (m : control_plant) (assume : List (List Literal)) (heard : Int -> Option Int) : Option control_walk :=
 (b0w (b9i m assume heard) ([(Place.mk 0 (0, 0))], [(-1)], [0], [], (b3w ([] : List (Place × Int)) (Place.mk 0 (0, 0)) 0), 0)).bind fun
  | (w_7_0, w_7_1, w_7_2, w_7_3) => c6a w_7_0 w_7_1 w_7_2 w_7_3
def c5e (O : Orac) : Prop := ∀ (m : control_plant) (assume : List (List Literal)) (heard_n : String) (heard_a heard_b : List AV) (heard : Int -> Option Int) (heard_z : Frz (.fn heard_n heard_a heard_b)) (heard_h : ∀ z0 y, heard z0 = some y -> Fn O heard_n (heard_a ++ [I z0] ++ heard_b) (I y)) (r : control_walk) (hm0 : b9h m assume heard = some r), Fn O "(newel/control.plant).explore" [.agg (vM m.Plant.Machine), .fs 1 (List.map b0t assume), .fn heard_n heard_a heard_b] (.fp [.fs 3 (List.map b1g r.places), .fs 1 (List.map eI r.from_), .fs 1 (List.map eI r.by_), .fs 1 (List.map b2f r.next)] 0)
def b9g (at_ : Int) (c0 : control_plant) (c1 : List (List Literal)) (c2 : control_walk) : Option Bool :=
 (get c2.places at_).bind fun x3 =>
 (b6v c0.Plant c1 x3 0).bind fun y4 =>
 some y4
def c9w (O : Orac) : Prop := ∀ (at_ : Int) (c0 : control_plant) (c1 : List (List Literal)) (c2 : control_walk) (r : Bool) (hm0 : b9g at_ c0 c1 c2 = some r), Fn O "(newel/control.plant).breach$1" [I at_, .fp (vM c0.Plant.Machine) 0, .fp [.fs 1 (List.map b0t c1)] 0, .fp [.fp [.fs 3 (List.map b1g c2.places), .fs 1 (List.map eI c2.from_), .fs 1 (List.map eI c2.by_), .fs 1 (List.map b2f c2.next)] 0] 0] (B r)
def c9l (s_1 : List Int) : Option (List Int) :=
 some s_1
def c1j : ((List Int) × Int × Int) -> Option (Out ((List Int) × Int × Int) (((List Int))))
 | (s_0, i_2, j_3) =>
  if decide (i_2 < j_3) then
   (get s_0 j_3).bind fun x11 =>
   (get s_0 i_2).bind fun x13 =>
   (get (List.set s_0 (Int.toNat i_2) x11) j_3).bind fun x14 =>
   some (.nx ((List.set (List.set s_0 (Int.toNat i_2) x11) (Int.toNat j_3) x13), wr (i_2 + 1), wr (j_3 - 1)))
  else
   some (.br s_0)
def H9x (s : List Int) : Option (List Int) :=
 (b0w (c1j) (s, 0, wr ((List.length s : Int) - 1))).bind fun s_1 =>
 c9l s_1
def d00 (O : Orac) : Prop := ∀ (s : List Int) (v_0 : AV) (h0 : Heap) (ow_p0 : b2a h0 v_0 1 (List.map eI s)) (r : List Int) (hm0 : H9x s = some r), b6e O "slices.Reverse[[]int,int]" [v_0] h0 (fun v h => v = .tup [] /\ b2a h v_0 1 (List.map eI r) /\ (∀ j, j < h0.nx -> b07 v_0 j -> h.ob j = h0.ob j) /\ h0.nx <= h.nx)
def c57 (l_5 : List Int) : Option (List Int) :=
 (H9x l_5).bind fun y4 =>
 some y4
def b72 (w_ : control_walk) : (Int × (List Int)) -> Option (Out (Int × (List Int)) (((List Int))))
 | (at_1, l_5) =>
  (get w_.from_ at_1).bind fun x7 =>
  if decide (0 <= x7) then
   (get w_.by_ at_1).bind fun x13 =>
   (ap 8 l_5 ([x13])).bind fun l14 =>
   some (.nx (x7, l14))
  else
   some (.br l_5)
def b71 (w_ : control_walk) (at_ : Int) : Option (List Int) :=
 (b0w (b72 w_) (at_, [])).bind fun l_5 =>
 c57 l_5
def c9u (O : Orac) : Prop := ∀ (w_ : control_walk) (at_ : Int) (r : List Int) (hm0 : b71 w_ at_ = some r), Fn O "(*newel/control.walk).run" [.fp [.fs 3 (List.map b1g w_.places), .fs 1 (List.map eI w_.from_), .fs 1 (List.map eI w_.by_), .fs 1 (List.map b2f w_.next)] 0, I at_] (.fs 1 (List.map eI r))
def c56 : Option ((List Int) × Bool) :=
 some ([], false)
def b9f (w_ : control_walk) (wanted : Int -> Option Bool) : Int -> Option (Out Int (Unit ⊕ (((List Int) × Bool))))
 | x_12 =>
  if decide (x_12 < (List.length w_.places : Int)) then
   (wanted x_12).bind fun y8 =>
   if y8 then
    (b71 w_ x_12).bind fun y11 =>
    some (.br (.inr (y11, true)))
   else
    some (.nx (wr (x_12 + 1)))
  else
   some (.br (.inl ()))
def b9e (w_ : control_walk) (wanted : Int -> Option Bool) : Option ((List Int) × Bool) :=
 (b0w (b9f w_ wanted) (0)).bind fun
  | (.inl ()) => c56
  | (.inr r') => some r'
def c5d (O : Orac) : Prop := ∀ (w_ : control_walk) (wanted_n : String) (wanted_a wanted_b : List AV) (wanted : Int -> Option Bool) (wanted_z : Frz (.fn wanted_n wanted_a wanted_b)) (wanted_h : ∀ z0 y, wanted z0 = some y -> Fn O wanted_n (wanted_a ++ [I z0] ++ wanted_b) (B y)) (r : (List Int) × Bool) (hm0 : b9e w_ wanted = some r), Fn O "(*newel/control.walk).first" [.fp [.fs 3 (List.map b1g w_.places), .fs 1 (List.map eI w_.from_), .fs 1 (List.map eI w_.by_), .fs 1 (List.map b2f w_.next)] 0, .fn wanted_n wanted_a wanted_b] (.tup [.fs 1 (List.map eI r.1), B r.2])
def c1t (m : control_plant) (assume : List (List Literal)) (never : List (List Literal)) (heard : Int -> Option Int) : Option ((List Int) × Bool) :=
 (b9h m assume heard).bind fun y2 =>
 (b9e y2 (fun z5 => b9g z5 m never y2)).bind fun y6 =>
 some (y6.1, y6.2)
def c9v (O : Orac) : Prop := ∀ (m : control_plant) (assume : List (List Literal)) (never : List (List Literal)) (heard_n : String) (heard_a heard_b : List AV) (heard : Int -> Option Int) (heard_z : Frz (.fn heard_n heard_a heard_b)) (heard_h : ∀ z0 y, heard z0 = some y -> Fn O heard_n (heard_a ++ [I z0] ++ heard_b) (I y)) (r : (List Int) × Bool) (hm0 : c1t m assume never heard = some r), Fn O "(newel/control.plant).breach" [.agg (vM m.Plant.Machine), .fs 1 (List.map b0t assume), .fs 1 (List.map b0t never), .fn heard_n heard_a heard_b] (.tup [.fs 1 (List.map eI r.1), B r.2])
def b6f (input : Int) : Int :=
 input
def c5i (O : Orac) : Prop := ∀ (input : Int), Fn O "newel/control.same" [I input] (I (b6f input))
def c2e (m : Machine) (assume : List (List Literal)) (never : List (List Literal)) : Option ((List Int) × Bool × Int) :=
 (b9x m ([assume, never])).bind fun y2 =>
 if decide (¬y2 = 0) then
  some ([], false, y2)
 else
  (c1t (b3h m) assume never (fun z7 => some (b6f z7))).bind fun y8 =>
  some (y8.1, y8.2, 0)
def c95 (O : Orac) : Prop := ∀ (m : Machine) (assume : List (List Literal)) (never : List (List Literal)) (r : (List Int) × Bool × Int) (hm0 : c2e m assume never = some r), Fn O "newel/control.Breach" [.agg (vM m), .fs 1 (List.map b0t assume), .fs 1 (List.map b0t never)] (.tup [.fs 1 (List.map eI r.1), B r.2.1, I r.2.2])
def J8v : Option Bool :=
 (x28).bind fun y50 =>
 some y50
def J7w (inputs_12 : List Int) (y38 : (List Place) × Int) : (Bool × Int) -> Option (Out (Bool × Int) (Unit ⊕ Bool))
 | (rested_20, i_21) =>
  if decide (i_21 < (List.length y38.1 : Int)) then
   (if rested_20 then some true else (get inputs_12 i_21).bind fun x57 =>
   some (decide (x57 = 0))).bind fun c58 =>
   (if !c58 then (get y38.1 i_21).bind fun x62 =>
   some (decide (¬x62.State = 0)) else some false).bind fun c63 =>
   if c63 then
    some (.br (.inr false))
   else
    some (.nx (c58, wr (i_21 + 1)))
  else
   some (.br (.inl ()))
def J8u (y17 : Span × Span × Int) (inputs_12 : List Int) : Option Bool :=
 (r1c (J18 y17.2.1.High) inputs_12).bind fun y38 =>
 (c2e (J18 y17.2.1.High) ([]) ([[(Literal.mk 4 0 0 false)]])).bind fun y40 =>
 if ((((decide (¬y38.2 = 0)) || (decide (¬y40.2.2 = 0))) || (!y40.2.1)) || (decide (¬(List.length y40.1 : Int) = (wr (y17.2.1.High + 1))))) || (decide (¬(List.length y38.1 : Int) = (List.length inputs_12 : Int))) then
  some false
 else
  (b0w (J7w inputs_12 y38) (false, 0)).bind fun
   | (.inl ()) => J8v
   | (.inr r') => some r'
def J7l (y31 : (List Int) × Int) : ((List Int) × Int) -> Option (Out ((List Int) × Int) (((List Int))))
 | (inputs_12, i_13) =>
  (if decide (i_13 < (List.length y31.1 : Int)) then (get y31.1 i_13).bind fun x70 =>
  some (decide (0 <= x70)) else some false).bind fun c71 =>
  if c71 then
   (get y31.1 i_13).bind fun x78 =>
   (ap 8 inputs_12 ([mn 1 x78])).bind fun l79 =>
   some (.nx (l79, wr (i_13 + 1)))
  else
   some (.br inputs_12)
def J78 (m : Escalator) (s : Stop) (loads : List Int) : Option Bool :=
 (if (J77 m) || (decide (100 < (List.length loads : Int))) then some true else (J8a m s).bind fun y5 =>
 some (decide (¬y5 = 0))).bind fun c6 =>
 (if c6 then some true else (J8c s loads).bind fun y7 =>
 some (!y7)).bind fun c8 =>
 if c8 then
  (x28).bind fun y15 =>
  some y15
 else
  (J72 m s).bind fun y17 =>
  if decide (¬y17.2.2 = 0) then
   (if decide (y17.2.2 = 12) then (x28).bind fun y22 =>
   some y22 else some false).bind fun c23 =>
   some c23
  else
   if (decide (y17.2.1.High < 1)) || (decide (7 < y17.2.1.High)) then
    (x28).bind fun y29 =>
    some y29
   else
    (J73 m s loads).bind fun y31 =>
    if (decide (¬y31.2 = 0)) || (decide (¬(List.length y31.1 : Int) = (List.length loads : Int))) then
     some false
    else
     (b0w (J7l y31) ([], 0)).bind fun inputs_12 =>
     J8u y17 inputs_12
def J93 (O : Orac) : Prop := ∀ (m : Escalator) (s : Stop) (loads : List Int) (r : Bool) (hm0 : J78 m s loads = some r), Fn O "newel/neweltop.TopWatched" [.agg [B m.Up, I m.Empty, I m.Pull, I m.Drag, I m.Motor, .fs 2 (List.map J1g m.Brakes)], .agg [I s.Speed, I s.Loads.Low, I s.Loads.High, I s.Fail], .fs 1 (List.map eI loads)] (B r)
structure Passage where
 A : Int
 B : Int
 Kind : Int
 Ticks : Int
 Wide : Int
 Machine : Int
 Still : Int
 deriving Inhabited, DecidableEq
structure Station where
 Places : Int
 Passages : List Passage
 Exits : List Int
 deriving Inhabited, DecidableEq
@[go_sem] def z9o (x : Passage) : List AV := [I x.A, I x.B, I x.Kind, I x.Ticks, I x.Wide, I x.Machine, I x.Still]
@[go_sem] theorem B8b {l : List Passage} {n : Nat} {a0 : Int} {a1 : Int} {a2 : Int} {a3 : Int} {a4 : Int} {a5 : Int} {a6 : Int} : (List.map z9o l).set n [I a0, I a1, I a2, I a3, I a4, I a5, I a6] = List.map z9o (l.set n (Passage.mk a0 a1 a2 a3 a4 a5 a6)) := by rw [List.map_set]; rfl
structure ways_level where
 Station : Station
 out : Int
 help : Bool
 deriving Inhabited, DecidableEq
structure l08_Trip where
 Out : Int
 Help : Bool
 From : Int
 To : Int
 deriving Inhabited, DecidableEq
end
end Go.Nw.XM
