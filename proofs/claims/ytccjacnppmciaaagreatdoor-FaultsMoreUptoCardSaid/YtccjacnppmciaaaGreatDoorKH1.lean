/- That the texts make what their models say: printed by a program. -/
import Derived.Test.YtccjacnppmciaaaGreatDoorAM
import Derived.Test.YtccjacnppmciaaaGreatDoorNwOwnA
set_option linter.all false
namespace Go.Nw.AM
open Go.Nw.Acc
set_option maxHeartbeats 4000000
variable {O : Orac} [MapsOk O]
noncomputable def z2f (a : Accident) : Option Accident := (u02 a).bind fun r => if r.Records = [] then none else some r
noncomputable def z2e (a : Accident) : Option Accident := (u02 a).bind fun r => if a.Records = [] then some r else none
def z2j (O : Orac) : Prop := ∀ (a : Accident) (r : Accident) (hm0 : z2f a = some r), FnWA O "newel/newelref10.CopyAccident" [.agg (vA a)] [.fs 1 (List.map eS r.Machine.Inputs), .fs 1 (List.map eS r.Machine.Outputs), .fs 2 (List.map b0o r.Machine.Counters), .fs 2 (List.map b0p r.Machine.States), .fs 4 (List.map b0m r.Machine.Rules), .fs 1 (List.map b0t r.Assume), I r.Ticks] 4 c26 r.Records
def z2i (O : Orac) : Prop := ∀ (a : Accident) (r : Accident) (hm0 : z2e a = some r), Fn O "newel/newelref10.CopyAccident" [.agg (vA a)] (.agg [.fs 1 (List.map eS r.Machine.Inputs), .fs 1 (List.map eS r.Machine.Outputs), .fs 2 (List.map b0o r.Machine.Counters), .fs 2 (List.map b0p r.Machine.States), .fs 4 (List.map b0m r.Machine.Rules), .fs 1 (List.map b0t r.Assume), I r.Ticks, .v (.slice none 0 0)])
noncomputable def z19 (a : Accident) (x : l10_Further) (y40 : Bool × Int) (p_12_0 : Int) (p_12_1 : Int) (p_12_2 : Int) : Option Bool :=
 (if decide (y40.2 = 0) then (if !y40.1 then some true else (get x.Past.Inputs x.Tick).bind fun x49 =>
 (b7o a.Machine (Place.mk p_12_0 (p_12_1, p_12_2)) x49 x.Cond).bind fun y50 =>
 some y50).bind fun c51 =>
 some c51 else some false).bind fun c52 =>
 (if c52 then (u10).bind fun y53 =>
 some y53 else some false).bind fun c54 =>
 some c54
noncomputable def z1u (a : Accident) (x : l10_Further) : (Int × Int × Int × Int) -> Option (Out (Int × Int × Int × Int) ((Int × Int × Int)))
 | (p_12_0, p_12_1, p_12_2, i_13) =>
  if decide (i_13 < x.Tick) then
   (get x.Past.Inputs i_13).bind fun x65 =>
   (s86 x.Past.Theory i_13 x65).bind fun y66 =>
   (c0w a.Machine (Place.mk p_12_0 (p_12_1, p_12_2)) y66).bind fun y67 =>
   some (.nx (y67.State, y67.Values.1, y67.Values.2, wr (i_13 + 1)))
  else
   some (.br (p_12_0, p_12_1, p_12_2))
noncomputable def y20 (a : Accident) (x : l10_Further) : Option Bool :=
 (c0v a.Machine ([x.Cond])).bind fun y29 =>
 (if ((decide (¬y29 = 0)) || (decide (x.Tick < 0))) || (decide (a.Ticks <= x.Tick)) then some true else (z1v a x.Past.Theory x.Past.Inputs).bind fun y30 =>
 some (!y30)).bind fun c31 =>
 if c31 then
  (u10).bind fun y38 =>
  some y38
 else
  (x43 a ([x.Past.Theory]) x.Cond x.Tick).bind fun y40 =>
  (b0w (z1u a x) (0, 0, 0, 0)).bind fun
   | (p_12_0, p_12_1, p_12_2) => z19 a x y40 p_12_0 p_12_1 p_12_2
noncomputable def z18 (a : Accident) (x : l10_Further) : Option Bool :=
 (z2f a).bind fun y2 =>
 (ap 48 y2.Records ([x.Record])).bind fun l4 =>
 (s9o a).bind fun y10 =>
 (if y10 then some true else (s9o (Accident.mk y2.Machine y2.Assume y2.Ticks l4)).bind fun y11 =>
 some y11).bind fun c12 =>
 (if c12 then some true else (s9r a).bind fun y13 =>
 some (decide (¬y13 = 0))).bind fun c14 =>
 if c14 || (!(l59 a x.Past.Theory)) then
  (u10).bind fun y21 =>
  some y21
 else
  (s9r (Accident.mk y2.Machine y2.Assume y2.Ticks l4)).bind fun y23 =>
  if decide (y23 = 0) then
   (u0g a x.Past.Theory).bind fun y71 =>
   (u0g (Accident.mk y2.Machine y2.Assume y2.Ticks l4) x.Past.Theory).bind fun y73 =>
   if ((decide (¬y71.2 = 0)) || (decide (¬y73.2 = 0))) || (y73.1 && (!y71.1)) then
    some false
   else
    y20 a x
  else
   y20 a x
def z2g (O : Orac) : Prop := ∀ (a : Accident) (x : l10_Further) (r : Bool) (hm0 : z18 a x = some r), Fn O "newel/newellaw10.FaultsMore" [.agg (vA a), .agg [I x.Record.From, I x.Record.To, B x.Record.All, .fs 1 (List.map b0t x.Record.Cond), I x.Past.Theory.Input, I x.Past.Theory.Value, I x.Past.Theory.From, .fs 1 (List.map eI x.Past.Inputs), .fs 1 (List.map b0t x.Cond), I x.Tick]] (B r)
noncomputable def z2o (a : Accident) (x : l10_Further) (y40 : Bool × Int) (p_12_0 : Int) (p_12_1 : Int) (p_12_2 : Int) : Option Bool :=
 (if decide (y40.2 = 0) then (if !y40.1 then some true else (get x.Past.Inputs x.Tick).bind fun x49 =>
 (b7o a.Machine (Place.mk p_12_0 (p_12_1, p_12_2)) x49 x.Cond).bind fun y50 =>
 some y50).bind fun c51 =>
 some c51 else some false).bind fun c52 =>
 (if c52 then (u10).bind fun y53 =>
 some y53 else some false).bind fun c54 =>
 some c54
noncomputable def z2x (a : Accident) (x : l10_Further) : (Int × Int × Int × Int) -> Option (Out (Int × Int × Int × Int) ((Int × Int × Int)))
 | (p_12_0, p_12_1, p_12_2, i_13) =>
  if decide (i_13 < x.Tick) then
   (get x.Past.Inputs i_13).bind fun x65 =>
   (s86 x.Past.Theory i_13 x65).bind fun y66 =>
   (c0w a.Machine (Place.mk p_12_0 (p_12_1, p_12_2)) y66).bind fun y67 =>
   some (.nx (y67.State, y67.Values.1, y67.Values.2, wr (i_13 + 1)))
  else
   some (.br (p_12_0, p_12_1, p_12_2))
noncomputable def z1z (a : Accident) (x : l10_Further) : Option Bool :=
 (c0v a.Machine ([x.Cond])).bind fun y29 =>
 (if ((decide (¬y29 = 0)) || (decide (x.Tick < 0))) || (decide (a.Ticks <= x.Tick)) then some true else (z1v a x.Past.Theory x.Past.Inputs).bind fun y30 =>
 some (!y30)).bind fun c31 =>
 if c31 then
  (u10).bind fun y38 =>
  some y38
 else
  (x43 a ([x.Past.Theory]) x.Cond x.Tick).bind fun y40 =>
  (b0w (z2x a x) (0, 0, 0, 0)).bind fun
   | (p_12_0, p_12_1, p_12_2) => z2o a x y40 p_12_0 p_12_1 p_12_2
noncomputable def z2a (a : Accident) (x : l10_Further) : Option Bool :=
 (z2e a).bind fun y2 =>
 (ap 48 ([]) ([x.Record])).bind fun l4 =>
 (s9o a).bind fun y10 =>
 (if y10 then some true else (s9o (Accident.mk y2.Machine y2.Assume y2.Ticks l4)).bind fun y11 =>
 some y11).bind fun c12 =>
 (if c12 then some true else (s9r a).bind fun y13 =>
 some (decide (¬y13 = 0))).bind fun c14 =>
 if c14 || (!(l59 a x.Past.Theory)) then
  (u10).bind fun y21 =>
  some y21
 else
  (s9r (Accident.mk y2.Machine y2.Assume y2.Ticks l4)).bind fun y23 =>
  if decide (y23 = 0) then
   (u0g a x.Past.Theory).bind fun y71 =>
   (u0g (Accident.mk y2.Machine y2.Assume y2.Ticks l4) x.Past.Theory).bind fun y73 =>
   if ((decide (¬y71.2 = 0)) || (decide (¬y73.2 = 0))) || (y73.1 && (!y71.1)) then
    some false
   else
    z1z a x
  else
   z1z a x
def z2h (O : Orac) : Prop := ∀ (a : Accident) (x : l10_Further) (r : Bool) (hm0 : z2a a x = some r), Fn O "newel/newellaw10.FaultsMore" [.agg (vA a), .agg [I x.Record.From, I x.Record.To, B x.Record.All, .fs 1 (List.map b0t x.Record.Cond), I x.Past.Theory.Input, I x.Past.Theory.Value, I x.Past.Theory.From, .fs 1 (List.map eI x.Past.Inputs), .fs 1 (List.map b0t x.Cond), I x.Tick]] (B r)
noncomputable def z1t (a : Accident) (x : l10_Further) : Option Bool :=
 if 0 < a.Records.length then z18 a x else z2a a x
def z2t (O : Orac) : Prop := ∀ (a : Accident) (x : l10_Further) (r : Bool) (hm0 : z1t a x = some r), Fn O "newel/newellaw10.FaultsMore" [.agg (vA a), .agg [I x.Record.From, I x.Record.To, B x.Record.All, .fs 1 (List.map b0t x.Record.Cond), I x.Past.Theory.Input, I x.Past.Theory.Value, I x.Past.Theory.From, .fs 1 (List.map eI x.Past.Inputs), .fs 1 (List.map b0t x.Cond), I x.Tick]] (B r)
theorem z2n (hf : Has O "newel/newelref10.CopyAccident" x_r10_CopyAccident) (d3a : d0d O) (c0i : c5m O) : z2j O := by
 intro a r hm0;unfold z2f at hm0;obtain ⟨r', hm8, hm9⟩ := b0g hm0;clear hm0;split at hm9
 ·cases hm9
 rename_i hne;obtain rfl := (sI9 hm9).symm;have hm0 := hm8;unfold u02 at hm0;refine z3g hf rfl (b0a (fA _) b0j) (b0a (b0c fun a _ => b0z a) (b0a (b0c fun a _ => b0z a) (b0a (b0c fun a _ => b1q a) (b0a (b0c fun a _ => b1s a) (b0a (b0c fun a _ => b1r a) (b0a (b0c fun a _ => b2j a) (b0a (b0e _) b0j))))))) (fun a => ⟨u8r a, c17 a⟩) ?_;refine b1c (fun t h => t 0 = .agg (vA a)) rfl fun t h s0 => ?_;simp only [x_r10_CopyAccident];apply b0b;intro K hK;simp only [go_sem, s0];apply hK;obtain ⟨y3, h_y3, hm0⟩ := b0g hm0;obtain ⟨y4, h_y4, hm0⟩ := b0g hm0;apply b0b;intro K hK;simp only [go_sem];refine b01 (d3a a.Machine _ h_y3) ?_;simp only [go_sem];refine b01 (c0i a.Assume _ h_y4) ?_;simp only [go_sem];apply hK;refine b0v ?_;apply b0b;intro K hK;simp only [go_sem];apply hK;refine b0i fun K5 hK5 => ?_
 have J6 : ∀ (o_3_7 : List Record) (i2 i3 : Nat) (v3 : AV) (t : Slots) (h : Heap), t 2 = .rp i2 0 0 -> t 3 = .rp i3 0 0 -> h.ob i2 = some (8, [[.v (.slice none 0 0), .v (.slice none 0 0), .v (.slice none 0 0), .v (.slice none 0 0), .v (.slice none 0 0), .v (.slice none 0 0), I 0, .v (.slice none 0 0)]]) -> i2 < h.nx -> h.ob i3 = some (8, [[.fs 1 (List.map eS y3.Inputs), .fs 1 (List.map eS y3.Outputs), .fs 2 (List.map b0o y3.Counters), .fs 2 (List.map b0p y3.States), .fs 4 (List.map b0m y3.Rules), .fs 1 (List.map b0t y4), I a.Ticks, v3]]) -> i3 < h.nx -> b2a h v3 4 (List.map c26 o_3_7) -> ¬i2 = i3 -> b07 v3 i2 -> b07 v3 i3 -> u31 a y3 y4 o_3_7 = some r -> K5 t h := by
  intro o_3_7 i2 i3 v3 t h s2 s3 Q6 Q7 Q3 Q4 Q8 Q9 Qd Qe hm0;refine hK5 _ _ ?_;unfold u31 at hm0;apply b0b;intro K hK;simp only [go_sem, s2, s3, Q6, Q3];apply hK;simp only [b0x, b0y];obtain rfl := sI9 hm0;exact z3e (id := i2) (m := 8) (cs := [.fs 1 (List.map eS y3.Inputs), .fs 1 (List.map eS y3.Outputs), .fs 2 (List.map b0o y3.Counters), .fs 2 (List.map b0p y3.States), .fs 4 (List.map b0m y3.Rules), .fs 1 (List.map b0t y4), I a.Ticks]) (v := v3) (l := o_3_7) (by simp only [go_sem, s2]) (by simp only [go_sem, List.cons_append, List.nil_append]) rfl (b3x Q8 (by intro j hj hl; first | rfl | simp only [go_sem, b4s hj Qd]) (by first | omega | exact Nat.le_refl _ | (simp only [go_sem, nxs] <;> omega))) hne (b0a (b0c fun a _ => b0z a) (b0a (b0c fun a _ => b0z a) (b0a (b0c fun a _ => b1q a) (b0a (b0c fun a _ => b1s a) (b0a (b0c fun a _ => b1r a) (b0a (b0c fun a _ => b2j a) (b0a (b0e _) b0j))))))) (fun a => ⟨u8r a, c17 a⟩)
 simp only [b0u];obtain ⟨b7, hl7, hm0⟩ := b0g hm0;refine b1j hl7 (fun | (o_3_7, i_4), t, h => ∃ i2 i3 : Nat, ∃ v3 : AV, t 1 = .fp (vA a) 0 /\ t 2 = .rp i2 0 0 /\ t 3 = .rp i3 0 0 /\ t 4 = I i_4 /\ h.ob i2 = some (8, [[.v (.slice none 0 0), .v (.slice none 0 0), .v (.slice none 0 0), .v (.slice none 0 0), .v (.slice none 0 0), .v (.slice none 0 0), I 0, .v (.slice none 0 0)]]) /\ i2 < h.nx /\ h.ob i3 = some (8, [[.fs 1 (List.map eS y3.Inputs), .fs 1 (List.map eS y3.Outputs), .fs 2 (List.map b0o y3.Counters), .fs 2 (List.map b0p y3.States), .fs 4 (List.map b0m y3.Rules), .fs 1 (List.map b0t y4), I a.Ticks, v3]]) /\ i3 < h.nx /\ b2a h v3 4 (List.map c26 o_3_7) /\ ¬i2 = i3 /\ b07 v3 i2 /\ b07 v3 i3) ?_ ?_
 ·exact ⟨h.nx, (nxs h.nx), (.v (.slice none 0 0)), va9, va9, va9, va9, vb9, vb9, vb9, vb9, c0o, vd9, vc9, vc9⟩
 ·rintro ⟨o_3_7, i_4⟩ o t h ⟨i2, i3, v3, s1, s2, s3, s4, Q6, Q7, Q3, Q4, Q8, Q9, Qd, Qe⟩ hm1 hb7;simp only [u03] at hm1;rw [u50];refine b0v ?_;apply b0b;intro K hK;simp only [go_sem, s1, s4];apply hK;refine b0i fun K8 hK8 => ?_;simp only [go_sem];refine b0k (fun hc9 => ?_) (fun hc9 => ?_)
  ·rw [b0r hc9] at hm1;simp only [b0s, b0f];refine hK8 _ _ ?_;refine b0i fun K10 hK10 => ?_;simp only [b0u];obtain ⟨x12, h_x12, hm1⟩ := b0g hm1;have h_x120 := b05 h_x12;have h_x121 := b06 h_x12;apply b0b;intro K hK;simp only [go_sem, s1, s4, b08 h_x12, h_x121];apply hK;obtain ⟨y14, h_y14, hm1⟩ := b0g hm1;apply b0b;intro K hK;simp only [go_sem];refine b01 (c0i x12.Cond _ h_y14) ?_;simp only [go_sem];apply hK;obtain ⟨l16, h_l16, hm1⟩ := b0g hm1;apply b03;intro K hK;simp only [go_sem, s3, Q3, Q4];refine b3a (f := c26) (l := o_3_7) (m := ([(Record.mk x12.From x12.To x12.All y14)])) ?_ ?_ ?_ ?_ h_l16 ?_
   ·exact (b3x Q8 (by intro j hj hl; first | rfl | simp only [go_sem, hl]) (by first | omega | exact Nat.le_refl _ | (simp only [go_sem, nxs] <;> omega)))
   ·exact (b4t vb9 vb9)
   ·exact (b4r ve9)
   ·exact (fun _ => by simp)
   simp only [go_sem, s3, Q3, Q4, Qe];apply hK;simp only [b02, b0f];refine hK10 _ _ ?_;apply b03;intro K hK;simp only [go_sem, s4];apply hK;simp only [b0f];obtain rfl := sI9 hm1;refine ⟨_, rfl, ?_⟩;exact ⟨i2, i3, (.rs (nxs (nxs h.nx)) 0 (List.length l16)), s1, s2, s3, va9, (by simp only [go_sem, Q6, Q7, Q9, Qd]), (by simp only [go_sem, Q7]), vb9, (by simp only [go_sem, Q4]), (b2v (by simp only [go_sem, Q4, b8s Q8]) (by first | rfl | simp only [go_sem]) vb9), Q9, vc9, vc9⟩
  ·rw [b0q hc9] at hm1;simp only [b09, b1b, b1a, b0f];obtain rfl := sI9 hm1;obtain rfl := hb7 _ rfl
   try dsimp only at hm0
   exact J6 o_3_7 i2 i3 v3 _ _ s2 s3 Q6 Q7 Q3 Q4 Q8 Q9 Qd Qe hm0
theorem z2m (hf : Has O "newel/newelref10.CopyAccident" x_r10_CopyAccident) (d3a : d0d O) (c0i : c5m O) : z2i O := by
 intro a r hm0;unfold z2e at hm0;obtain ⟨r', hm8, hm9⟩ := b0g hm0;clear hm0;split at hm9
 case isFalse => cases hm9
 rename_i hne;obtain rfl := (sI9 hm9).symm;have hm0 := hm8;unfold u02 at hm0;refine b1i hf rfl (b0a (fA _) b0j) (.agg _ (b0a (b0c fun a _ => b0z a) (b0a (b0c fun a _ => b0z a) (b0a (b0c fun a _ => b1q a) (b0a (b0c fun a _ => b1s a) (b0a (b0c fun a _ => b1r a) (b0a (b0c fun a _ => b2j a) (b0a (b0e _) (b0a (b0e _) b0j))))))))) ?_;refine b1c (fun t h => t 0 = .agg (vA a)) rfl fun t h s0 => ?_;simp only [x_r10_CopyAccident];apply b0b;intro K hK;simp only [go_sem, s0];apply hK;obtain ⟨y3, h_y3, hm0⟩ := b0g hm0;obtain ⟨y4, h_y4, hm0⟩ := b0g hm0;apply b0b;intro K hK;simp only [go_sem];refine b01 (d3a a.Machine _ h_y3) ?_;simp only [go_sem];refine b01 (c0i a.Assume _ h_y4) ?_;simp only [go_sem];apply hK;refine b0v ?_;apply b0b;intro K hK;simp only [go_sem];apply hK;refine b0i fun K5 hK5 => ?_;simp only [b0u];obtain ⟨b7, hl7, hm0⟩ := b0g hm0;refine b1j hl7 (fun | (o, i), t, h => o = [] /\ i = 0 /\ ∃ i2 i3 : Nat, t 1 = .fp (vA a) 0 /\ t 2 = .rp i2 0 0 /\ t 3 = .rp i3 0 0 /\ t 4 = I 0 /\ h.ob i2 = some (8, [[.v (.slice none 0 0), .v (.slice none 0 0), .v (.slice none 0 0), .v (.slice none 0 0), .v (.slice none 0 0), .v (.slice none 0 0), I 0, .v (.slice none 0 0)]]) /\ i2 < h.nx /\ h.ob i3 = some (8, [[.fs 1 (List.map eS y3.Inputs), .fs 1 (List.map eS y3.Outputs), .fs 2 (List.map b0o y3.Counters), .fs 2 (List.map b0p y3.States), .fs 4 (List.map b0m y3.Rules), .fs 1 (List.map b0t y4), I a.Ticks, .v (.slice none 0 0)]]) /\ i3 < h.nx /\ ¬i2 = i3) ?_ ?_
 ·exact ⟨rfl, rfl, h.nx, (nxs h.nx), va9, va9, va9, va9, vb9, vb9, vb9, vb9, (by first | assumption | omega | (simp only [nxs] <;> omega))⟩
 ·rintro ⟨o, i⟩ ou t h ⟨rfl, rfl, i2, i3, s1, s2, s3, s4, Q6, Q7, Q3, Q4, Q9⟩ hm1 hb7;simp only [u03] at hm1;rw [u50];refine b0v ?_;apply b0b;intro K hK;simp only [go_sem, s1, s4];apply hK;refine b0i fun K8 hK8 => ?_;simp only [go_sem];refine b0k (fun hc9 => ?_) (fun hc9 => ?_)
  ·rw [hne] at hc9; simp at hc9
  ·rw [b0q hc9] at hm1;simp only [b09, b1b, b1a, b0f];obtain rfl := sI9 hm1;obtain rfl := hb7 _ rfl;refine hK5 _ _ ?_;unfold u31 at hm0;apply b0b;intro K hK;simp only [go_sem, s2, s3, Q6, Q3];apply hK;simp only [b0x, b0y];obtain rfl := sI9 hm0;exact b90 (id := i2) (m := 8) (cs := [.fs 1 (List.map eS y3.Inputs), .fs 1 (List.map eS y3.Outputs), .fs 2 (List.map b0o y3.Counters), .fs 2 (List.map b0p y3.States), .fs 4 (List.map b0m y3.Rules), .fs 1 (List.map b0t y4), I a.Ticks, .v (.slice none 0 0)]) (by simp only [go_sem, s2]) vb9 rfl (.refl _ (.agg _ (b0a (b0c fun a _ => b0z a) (b0a (b0c fun a _ => b0z a) (b0a (b0c fun a _ => b1q a) (b0a (b0c fun a _ => b1s a) (b0a (b0c fun a _ => b1r a) (b0a (b0c fun a _ => b2j a) (b0a (b0e _) (b0a (b0e _) b0j))))))))))
theorem z2k (hf : Has O "newel/newellaw10.FaultsMore" x_l10_FaultsMore) (z2n : z2j O) (u3o : u2n O) (u0s : u1k O) (u3t : u2s O) (k_l10_works : u4h O) (u3j : u2k O) (c3j : c5l O) (z1y : z13 O) (x5r : x5k O) (u3s : u2r O) (c3k : c5n O) (s3y : b9a O) : z2g O := by
 intro a x r hm0;unfold z18 at hm0;refine b1i hf rfl (b0a (fA _) (b0a (.agg _ (b0a (b0e _) (b0a (b0e _) (b0a (b0e _) (b0a (b0c fun a _ => b2j a) (b0a (b0e _) (b0a (b0e _) (b0a (b0e _) (b0a (b0c fun a _ => b1t a) (b0a (b0c fun a _ => b2j a) (b0a (b0e _) b0j))))))))))) b0j)) (b0e _) ?_;refine b1c (fun t h => t 0 = .agg (vA a) /\ t 1 = .agg [I x.Record.From, I x.Record.To, B x.Record.All, .fs 1 (List.map b0t x.Record.Cond), I x.Past.Theory.Input, I x.Past.Theory.Value, I x.Past.Theory.From, .fs 1 (List.map eI x.Past.Inputs), .fs 1 (List.map b0t x.Cond), I x.Tick]) ⟨rfl, rfl⟩ fun t h ⟨s0, s1⟩ => ?_;simp only [x_l10_FaultsMore];apply b0b;intro K hK;simp only [go_sem, s0, s1];apply hK;obtain ⟨y2, h_y2, hm0⟩ := b0g hm0;apply b0b;intro K hK;simp only [go_sem];refine z3m (z2n a _ h_y2) ?_;simp only [go_sem];apply hK;obtain ⟨l4, h_l4, hm0⟩ := b0g hm0;apply b0b;intro K hK;simp only [go_sem];refine b3a (f := c26) (l := y2.Records) (m := ([x.Record])) ?_ ?_ ?_ ?_ h_l4 ?_
 ·exact (b2v vb9 vb9 vb9)
 ·exact (b4t vb9 vb9)
 ·exact (b4r ve9)
 ·exact (fun _ => by simp)
 simp only [go_sem];apply hK;refine b0v ?_;obtain ⟨y10, h_y10, hm0⟩ := b0g hm0;obtain ⟨c12, h_c12, hm0⟩ := b0g hm0;obtain ⟨c14, h_c14, hm0⟩ := b0g hm0;refine b2p (fun t h => ∃ i5 i5_1 : Nat, t 2 = .fp (vA a) 0 /\ t 3 = .fp [I x.Record.From, I x.Record.To, B x.Record.All, .fs 1 (List.map b0t x.Record.Cond), I x.Past.Theory.Input, I x.Past.Theory.Value, I x.Past.Theory.From, .fs 1 (List.map eI x.Past.Inputs), .fs 1 (List.map b0t x.Cond), I x.Tick] 0 /\ t 5 = .rp i5 0 0 /\ t 41 = B (c14 || (!(l59 a x.Past.Theory))) /\ h.ob i5 = some (8, [[.fs 1 (List.map eS y2.Machine.Inputs), .fs 1 (List.map eS y2.Machine.Outputs), .fs 2 (List.map b0o y2.Machine.Counters), .fs 2 (List.map b0p y2.Machine.States), .fs 4 (List.map b0m y2.Machine.Rules), .fs 1 (List.map b0t y2.Assume), I y2.Ticks, .rs i5_1 0 (List.length l4)]]) /\ i5 < h.nx /\ h.ob i5_1 = some (4, List.map c26 l4) /\ i5_1 < h.nx /\ ¬i5 = i5_1) (fun K hK => ?_) ?_
 ·simp only [go_sem];refine b01 (u3o a _ h_y10) ?_;simp only [go_sem];refine b0k (fun hg15 => ?_) (fun hg15 => ?_)
  ·simp only [hg15, eq_self, if_true] at h_c12;obtain rfl := sI9 h_c12;simp only [eq_self, if_true] at h_c14;obtain rfl := sI9 h_c14;simp only [go_sem, hg15];exact hK _ _ ⟨(nxs h.nx), (nxs (nxs (nxs h.nx))), va9, va9, va9, va9, vb9, vb9, vb9, vb9, vd9⟩
  ·simp only [hg15, if_false, fT9] at h_c12;obtain ⟨y11, h_y11, h_c12⟩ := b0g h_c12;obtain rfl := sI9 h_c12;simp only [go_sem, hg15];refine b8l ?_ (u3o (Accident.mk y2.Machine y2.Assume y2.Ticks l4) _ h_y11) (.v _) ?_
   ·exact .cons (d79 (.cons (.refl _ (b0c fun a _ => b0z a)) (.cons (.refl _ (b0c fun a _ => b0z a)) (.cons (.refl _ (b0c fun a _ => b1q a)) (.cons (.refl _ (b0c fun a _ => b1s a)) (.cons (.refl _ (b0c fun a _ => b1r a)) (.cons (.refl _ (b0c fun a _ => b2j a)) (.cons (.refl _ (b0e _)) (.cons (b29 (f := c26) (l := l4) (id := (nxs (nxs (nxs h.nx)))) vb9 vf9 c17 u8r) (.nil)))))))))) (.nil)
   simp only [go_sem, hg15];refine b0k (fun hg16 => ?_) (fun hg16 => ?_)
   ·simp only [hg16, eq_self, if_true] at h_c14;obtain rfl := sI9 h_c14;simp only [go_sem, hg15, hg16];exact hK _ _ ⟨(nxs h.nx), (nxs (nxs (nxs h.nx))), va9, va9, va9, va9, vb9, vb9, vb9, vb9, vd9⟩
   ·simp only [hg16, if_false, fT9] at h_c14;obtain ⟨y13, h_y13, h_c14⟩ := b0g h_c14;obtain rfl := sI9 h_c14;simp only [go_sem, hg15, hg16];refine b01 (u0s a _ h_y13) ?_;simp only [go_sem, hg15, hg16];refine b0k (fun hg17 => ?_) (fun hg17 => ?_)
    ·simp only [go_sem, hg15, hg16, hg17];exact hK _ _ ⟨(nxs h.nx), (nxs (nxs (nxs h.nx))), va9, va9, va9, (by first | (simp only [go_sem, hg17]; done) | rfl), vb9, vb9, vb9, vb9, vd9⟩
    ·simp only [go_sem, hg15, hg16, hg17];refine b01 (u3t a x.Past.Theory) ?_;simp only [go_sem, hg15, hg16, hg17];exact hK _ _ ⟨(nxs h.nx), (nxs (nxs (nxs h.nx))), va9, va9, va9, (by first | (simp only [go_sem, hg17]; done) | rfl), vb9, vb9, vb9, vb9, vd9⟩
 ·rintro t h ⟨i5, i5_1, s2, s3, s5, s41, Q1, Qa, Q2, Qb, Qc⟩;refine b0i fun K18 hK18 => ?_;simp only [go_sem, s41];refine b0k (fun hc19 => ?_) (fun hc19 => ?_)
  ·rw [b0r hc19] at hm0;obtain ⟨y21, h_y21, hm0⟩ := b0g hm0;apply b0b;intro K hK;simp only [go_sem];refine b01 (k_l10_works  _ h_y21) ?_;simp only [go_sem];apply hK;simp only [b0x, b1p, b0y];obtain rfl := sI9 hm0;exact b04 vb9 (b0e _)
  ·rw [b0q hc19] at hm0;simp only [b0s, b0f];refine hK18 _ _ ?_;refine b0v ?_;obtain ⟨y23, h_y23, hm0⟩ := b0g hm0;apply b0b;intro K hK;simp only [go_sem, s5, Q1];refine b8l ?_ (u0s (Accident.mk y2.Machine y2.Assume y2.Ticks l4) _ h_y23) (.v _) ?_
   ·exact .cons (d79 (.cons (.refl _ (b0c fun a _ => b0z a)) (.cons (.refl _ (b0c fun a _ => b0z a)) (.cons (.refl _ (b0c fun a _ => b1q a)) (.cons (.refl _ (b0c fun a _ => b1s a)) (.cons (.refl _ (b0c fun a _ => b1r a)) (.cons (.refl _ (b0c fun a _ => b2j a)) (.cons (.refl _ (b0e _)) (.cons (b29 (f := c26) (l := l4) (id := i5_1) (by simp only [go_sem, Q2]) vf9 c17 u8r) (.nil)))))))))) (.nil)
   simp only [go_sem];apply hK;refine b0i fun K24 hK24 => ?_
   have J25 : ∀ (t : Slots) (h : Heap), t 2 = .fp (vA a) 0 -> t 3 = .fp [I x.Record.From, I x.Record.To, B x.Record.All, .fs 1 (List.map b0t x.Record.Cond), I x.Past.Theory.Input, I x.Past.Theory.Value, I x.Past.Theory.From, .fs 1 (List.map eI x.Past.Inputs), .fs 1 (List.map b0t x.Cond), I x.Tick] 0 -> y20 a x = some r -> K24 t h := by
    try clear s2 s3 s5 s41 Q1 Qa Q2 Qb Qc
    intro t h s2 s3 hm0;refine hK24 _ _ ?_;unfold y20 at hm0;refine b0v ?_;obtain ⟨y29, h_y29, hm0⟩ := b0g hm0;obtain ⟨c31, h_c31, hm0⟩ := b0g hm0;refine b2p (fun t h => t 2 = .fp (vA a) 0 /\ t 3 = .fp [I x.Record.From, I x.Record.To, B x.Record.All, .fs 1 (List.map b0t x.Record.Cond), I x.Past.Theory.Input, I x.Past.Theory.Value, I x.Past.Theory.From, .fs 1 (List.map eI x.Past.Inputs), .fs 1 (List.map b0t x.Cond), I x.Tick] 0 /\ t 104 = B c31) (fun K hK => ?_) ?_
    ·simp only [go_sem, s2, s3];refine b8l ?_ (c3j a.Machine ([x.Cond]) _ h_y29) (.v _) ?_
     ·exact .cons (.refl _ (fM _)) (.cons (b29 (f := b4v) (l := ([x.Cond])) (id := h.nx) vb9 vf9 b97 c7o) (.nil))
     simp only [go_sem];refine b0k (fun hg32 => ?_) (fun hg32 => ?_)
     ·simp only [hg32, eq_self, if_true, Bool.true_or] at h_c31;obtain rfl := sI9 h_c31;simp only [go_sem, hg32];exact hK _ _ ⟨s2, s3, va9⟩
     ·simp only [go_sem, s3, hg32];refine b0k (fun hg33 => ?_) (fun hg33 => ?_)
      ·simp only [hg32, hg33, eq_self, if_true, Bool.true_or, Bool.or_true] at h_c31;obtain rfl := sI9 h_c31;simp only [go_sem, hg32, hg33];exact hK _ _ ⟨s2, s3, va9⟩
      ·simp only [go_sem, s2, s3, hg32, hg33];refine b0k (fun hg34 => ?_) (fun hg34 => ?_)
       ·simp only [hg32, hg33, hg34, eq_self, if_true, Bool.or_true, Bool.or_false] at h_c31;obtain rfl := sI9 h_c31;simp only [go_sem, hg32, hg33, hg34];exact hK _ _ ⟨s2, s3, va9⟩
       ·simp only [hg32, hg33, hg34, if_false, Bool.or_false, fT9] at h_c31;obtain ⟨y30, h_y30, h_c31⟩ := b0g h_c31;obtain rfl := sI9 h_c31;simp only [go_sem, s2, s3, hg32, hg33, hg34];refine b01 (z1y a x.Past.Theory x.Past.Inputs _ h_y30) ?_;simp only [go_sem, hg32, hg33, hg34];exact hK _ _ ⟨s2, s3, va9⟩
    ·rintro t h ⟨s2, s3, s104⟩;refine b0i fun K35 hK35 => ?_;simp only [go_sem, s104];refine b0k (fun hc36 => ?_) (fun hc36 => ?_)
     ·rw [b0r hc36] at hm0;obtain ⟨y38, h_y38, hm0⟩ := b0g hm0;apply b0b;intro K hK;simp only [go_sem];refine b01 (k_l10_works  _ h_y38) ?_;simp only [go_sem];apply hK;simp only [b0x, b1p, b0y];obtain rfl := sI9 hm0;exact b04 vb9 (b0e _)
     ·rw [b0q hc36] at hm0;simp only [b0s, b0f];refine hK35 _ _ ?_;obtain ⟨y40, h_y40, hm0⟩ := b0g hm0;apply b0b;intro K hK;simp only [go_sem, s2, s3];refine b8l ?_ (x5r a ([x.Past.Theory]) x.Cond x.Tick _ h_y40) (.tup _ (o8l (.v _) (o8l (.v _) o9n))) ?_
      ·exact .cons (.refl _ (fA _)) (.cons (b29 (f := u26) (l := ([x.Past.Theory])) (id := h.nx) vb9 vf9 x5h x6w) (.cons (.refl _ (b0c fun a _ => b2j a)) (.cons (.refl _ (b0e _)) (.nil))))
      simp only [go_sem];apply hK;apply b0b;intro K hK;simp only [go_sem];apply hK;refine b0v ?_;apply b0b;intro K hK;simp only [go_sem];apply hK;refine b0i fun K41 hK41 => ?_
      have J42 : ∀ (p_12_0 p_12_1 p_12_2 : Int) (i12 : Nat) (t : Slots) (h : Heap), t 2 = .fp (vA a) 0 -> t 3 = .fp [I x.Record.From, I x.Record.To, B x.Record.All, .fs 1 (List.map b0t x.Record.Cond), I x.Past.Theory.Input, I x.Past.Theory.Value, I x.Past.Theory.From, .fs 1 (List.map eI x.Past.Inputs), .fs 1 (List.map b0t x.Cond), I x.Tick] 0 -> t 10 = B y40.1 -> t 11 = I y40.2 -> t 12 = .rp i12 0 0 -> h.ob i12 = some (3, [[I p_12_0, I p_12_1, I p_12_2]]) -> i12 < h.nx -> z19 a x y40 p_12_0 p_12_1 p_12_2 = some r -> K41 t h := by
       intro p_12_0 p_12_1 p_12_2 i12 t h s2 s3 s10 s11 s12 Q0 Q5 hm0;refine hK41 _ _ ?_;unfold z19 at hm0;obtain ⟨c52, h_c52, hm0⟩ := b0g hm0;obtain ⟨c54, h_c54, hm0⟩ := b0g hm0;refine b2p (fun t h => t 4 = B c54) (fun K hK => ?_) ?_
       ·simp only [go_sem, s11];refine b0k (fun hg55 => ?_) (fun hg55 => ?_)
        ·simp only [hg55, eq_self, if_true] at h_c52;obtain ⟨c51, h_c51, h_c52⟩ := b0g h_c52;obtain rfl := sI9 h_c52;simp only [go_sem, s10, hg55];refine b0k (fun hg56 => ?_) (fun hg56 => ?_)
         ·simp only [hg56, eq_self, if_true] at h_c51;obtain rfl := sI9 h_c51;simp only [eq_self, if_true] at h_c54;obtain ⟨y53, h_y53, h_c54⟩ := b0g h_c54;obtain rfl := sI9 h_c54;simp only [go_sem, hg55, hg56];refine b01 (k_l10_works  _ h_y53) ?_;simp only [go_sem, hg55, hg56];exact hK _ _ va9
         ·simp only [hg56, if_false, fT9] at h_c51;obtain ⟨x49, h_x49, h_c51⟩ := b0g h_c51;have h_x490 := b05 h_x49;have h_x491 := b06 h_x49;obtain ⟨y50, h_y50, h_c51⟩ := b0g h_c51;obtain rfl := sI9 h_c51;simp only [go_sem, s2, s3, s12, Q0, b08 h_x49, hg55, hg56];refine b01 (s3y a.Machine (Place.mk p_12_0 (p_12_1, p_12_2)) x49 x.Cond _ h_y50) ?_;simp only [go_sem, hg55, hg56];refine b0k (fun hg57 => ?_) (fun hg57 => ?_)
          ·simp only [hg57, eq_self, if_true] at h_c54;obtain ⟨y53, h_y53, h_c54⟩ := b0g h_c54;obtain rfl := sI9 h_c54;simp only [go_sem, hg55, hg56, hg57];refine b01 (k_l10_works  _ h_y53) ?_;simp only [go_sem, hg55, hg56, hg57];exact hK _ _ va9
          ·simp only [hg57, if_false, fT9] at h_c54;obtain rfl := sI9 h_c54;simp only [go_sem, hg55, hg56, hg57];exact hK _ _ va9
        ·simp only [hg55, if_false, fT9] at h_c52;obtain rfl := sI9 h_c52;simp only [if_false, fT9] at h_c54;obtain rfl := sI9 h_c54;simp only [go_sem, hg55];exact hK _ _ va9
       ·rintro t h s4;simp only [b0x, b0y];obtain rfl := sI9 hm0;exact b04 (by simp only [go_sem, s4]) (b0e _)
      simp only [b0u];obtain ⟨b58, hl58, hm0⟩ := b0g hm0;refine b1j hl58 (fun | (p_12_0, p_12_1, p_12_2, i_13), t, h => ∃ i12 : Nat, t 2 = .fp (vA a) 0 /\ t 3 = .fp [I x.Record.From, I x.Record.To, B x.Record.All, .fs 1 (List.map b0t x.Record.Cond), I x.Past.Theory.Input, I x.Past.Theory.Value, I x.Past.Theory.From, .fs 1 (List.map eI x.Past.Inputs), .fs 1 (List.map b0t x.Cond), I x.Tick] 0 /\ t 10 = B y40.1 /\ t 11 = I y40.2 /\ t 12 = .rp i12 0 0 /\ t 13 = I i_13 /\ h.ob i12 = some (3, [[I p_12_0, I p_12_1, I p_12_2]]) /\ i12 < h.nx) ?_ ?_
      ·exact ⟨(nxs h.nx), s2, s3, va9, va9, va9, va9, vb9, vb9⟩
      ·rintro ⟨p_12_0, p_12_1, p_12_2, i_13⟩ o t h ⟨i12, s2, s3, s10, s11, s12, s13, Q0, Q5⟩ hm1 hb58;simp only [z1u] at hm1;rw [z2s];refine b0v ?_;apply b0b;intro K hK;simp only [go_sem, s3, s13];apply hK;refine b0i fun K59 hK59 => ?_;simp only [go_sem];refine b0k (fun hc60 => ?_) (fun hc60 => ?_)
       ·rw [b0r hc60] at hm1;simp only [b0s, b0f];refine hK59 _ _ ?_;refine b0i fun K61 hK61 => ?_;simp only [b0u];obtain ⟨x65, h_x65, hm1⟩ := b0g hm1;have h_x650 := b05 h_x65;have h_x651 := b06 h_x65;obtain ⟨y66, h_y66, hm1⟩ := b0g hm1;obtain ⟨y67, h_y67, hm1⟩ := b0g hm1;apply b03;intro K hK;simp only [go_sem, s2, s3, s12, s13, Q0, b08 h_x65];refine b01 (u3s x.Past.Theory i_13 x65 _ h_y66) ?_;simp only [go_sem];refine b01 (c3k a.Machine (Place.mk p_12_0 (p_12_1, p_12_2)) y66 _ h_y67) ?_;simp only [go_sem, s12, Q0];apply hK;simp only [b02, b0f];refine hK61 _ _ ?_;apply b03;intro K hK;simp only [go_sem, s13];apply hK;simp only [b0f];obtain rfl := sI9 hm1;refine ⟨_, rfl, ?_⟩;exact ⟨i12, s2, s3, s10, s11, s12, va9, vb9, (by simp only [go_sem, Q5])⟩
       ·rw [b0q hc60] at hm1;simp only [b09, b1b, b1a, b0f];obtain rfl := sI9 hm1;obtain rfl := hb58 _ rfl
        try dsimp only at hm0
        exact J42 p_12_0 p_12_1 p_12_2 i12 _ _ s2 s3 s10 s11 s12 Q0 Q5 hm0
   simp only [go_sem];refine b0k (fun hc69 => ?_) (fun hc69 => ?_)
   ·rw [b0r hc69] at hm0;obtain ⟨y71, h_y71, hm0⟩ := b0g hm0;apply b0b;intro K hK;simp only [go_sem, s2, s3];refine b01 (u3j a x.Past.Theory _ h_y71) ?_;simp only [go_sem];apply hK;obtain ⟨y73, h_y73, hm0⟩ := b0g hm0;apply b0b;intro K hK;simp only [go_sem, s3, s5, Q1];refine b8l ?_ (u3j (Accident.mk y2.Machine y2.Assume y2.Ticks l4) x.Past.Theory _ h_y73) (.tup _ (o8l (.v _) (o8l (.v _) o9n))) ?_
    ·exact .cons (d79 (.cons (.refl _ (b0c fun a _ => b0z a)) (.cons (.refl _ (b0c fun a _ => b0z a)) (.cons (.refl _ (b0c fun a _ => b1q a)) (.cons (.refl _ (b0c fun a _ => b1s a)) (.cons (.refl _ (b0c fun a _ => b1r a)) (.cons (.refl _ (b0c fun a _ => b2j a)) (.cons (.refl _ (b0e _)) (.cons (b29 (f := c26) (l := l4) (id := i5_1) (by simp only [go_sem, Q2]) vf9 c17 u8r) (.nil)))))))))) (.cons (.refl _ (.agg _ (b0a (b0e _) (b0a (b0e _) (b0a (b0e _) b0j))))) (.nil))
    simp only [go_sem];apply hK;refine b2p (fun t h => t 2 = .fp (vA a) 0 /\ t 3 = .fp [I x.Record.From, I x.Record.To, B x.Record.All, .fs 1 (List.map b0t x.Record.Cond), I x.Past.Theory.Input, I x.Past.Theory.Value, I x.Past.Theory.From, .fs 1 (List.map eI x.Past.Inputs), .fs 1 (List.map b0t x.Cond), I x.Tick] 0 /\ t 74 = B (((decide (¬y71.2 = 0)) || (decide (¬y73.2 = 0))) || (y73.1 && (!y71.1)))) (fun K hK => ?_) ?_
    ·simp only [go_sem];refine b0k (fun hg74 => ?_) (fun hg74 => ?_)
     ·simp only [go_sem, hg74];exact hK _ _ ⟨s2, s3, (by first | (simp only [go_sem, hg74]; done) | rfl)⟩
     ·simp only [go_sem, hg74];refine b0k (fun hg75 => ?_) (fun hg75 => ?_)
      ·simp only [go_sem, hg74, hg75];exact hK _ _ ⟨s2, s3, (by first | (simp only [go_sem, hg74, hg75]; done) | rfl)⟩
      ·simp only [go_sem, hg74, hg75];refine b0k (fun hg76 => ?_) (fun hg76 => ?_)
       ·simp only [go_sem, hg74, hg75, hg76];exact hK _ _ ⟨s2, s3, (by first | (simp only [go_sem, hg74, hg75, hg76]; done) | rfl)⟩
       ·simp only [go_sem, hg74, hg75, hg76];exact hK _ _ ⟨s2, s3, (by first | (simp only [go_sem, hg74, hg75, hg76]; done) | rfl)⟩
    ·try clear s2 s3 s5 s41 Q1 Qa Q2 Qb Qc
     rintro t h ⟨s2, s3, s74⟩;simp only [go_sem, s74];refine b0k (fun hc77 => ?_) (fun hc77 => ?_)
     ·rw [b0r hc77] at hm0;apply b0b;intro K hK;simp only [go_sem];apply hK;simp only [b0x, b1p, b0y];obtain rfl := sI9 hm0;exact b04 vb9 (b0e _)
     ·rw [b0q hc77] at hm0;simp only [b0s, b0f];exact J25  _ _ s2 s3 hm0
   ·rw [b0q hc69] at hm0;simp only [b0s, b0f];exact J25  _ _ s2 s3 hm0
theorem z2l (hf : Has O "newel/newellaw10.FaultsMore" x_l10_FaultsMore) (z2m : z2i O) (u3o : u2n O) (u0s : u1k O) (u3t : u2s O) (k_l10_works : u4h O) (u3j : u2k O) (c3j : c5l O) (z1y : z13 O) (x5r : x5k O) (u3s : u2r O) (c3k : c5n O) (s3y : b9a O) : z2h O := by
 intro a x r hm0;unfold z2a at hm0;refine b1i hf rfl (b0a (fA _) (b0a (.agg _ (b0a (b0e _) (b0a (b0e _) (b0a (b0e _) (b0a (b0c fun a _ => b2j a) (b0a (b0e _) (b0a (b0e _) (b0a (b0e _) (b0a (b0c fun a _ => b1t a) (b0a (b0c fun a _ => b2j a) (b0a (b0e _) b0j))))))))))) b0j)) (b0e _) ?_;refine b1c (fun t h => t 0 = .agg (vA a) /\ t 1 = .agg [I x.Record.From, I x.Record.To, B x.Record.All, .fs 1 (List.map b0t x.Record.Cond), I x.Past.Theory.Input, I x.Past.Theory.Value, I x.Past.Theory.From, .fs 1 (List.map eI x.Past.Inputs), .fs 1 (List.map b0t x.Cond), I x.Tick]) ⟨rfl, rfl⟩ fun t h ⟨s0, s1⟩ => ?_;simp only [x_l10_FaultsMore];apply b0b;intro K hK;simp only [go_sem, s0, s1];apply hK;obtain ⟨y2, h_y2, hm0⟩ := b0g hm0;apply b0b;intro K hK;simp only [go_sem];refine b01 (z2m a _ h_y2) ?_;simp only [go_sem];apply hK;obtain ⟨l4, h_l4, hm0⟩ := b0g hm0;apply b0b;intro K hK;simp only [go_sem];refine b3a (f := c26) (l := ([])) (m := ([x.Record])) ?_ ?_ ?_ ?_ h_l4 ?_
 ·exact c0o
 ·exact (b4t vb9 vb9)
 ·exact (b4r ve9)
 ·exact (fun _ => by simp)
 simp only [go_sem];apply hK;refine b0v ?_;obtain ⟨y10, h_y10, hm0⟩ := b0g hm0;obtain ⟨c12, h_c12, hm0⟩ := b0g hm0;obtain ⟨c14, h_c14, hm0⟩ := b0g hm0;refine b2p (fun t h => ∃ i5 i5_1 : Nat, t 2 = .fp (vA a) 0 /\ t 3 = .fp [I x.Record.From, I x.Record.To, B x.Record.All, .fs 1 (List.map b0t x.Record.Cond), I x.Past.Theory.Input, I x.Past.Theory.Value, I x.Past.Theory.From, .fs 1 (List.map eI x.Past.Inputs), .fs 1 (List.map b0t x.Cond), I x.Tick] 0 /\ t 5 = .rp i5 0 0 /\ t 41 = B (c14 || (!(l59 a x.Past.Theory))) /\ h.ob i5 = some (8, [[.fs 1 (List.map eS y2.Machine.Inputs), .fs 1 (List.map eS y2.Machine.Outputs), .fs 2 (List.map b0o y2.Machine.Counters), .fs 2 (List.map b0p y2.Machine.States), .fs 4 (List.map b0m y2.Machine.Rules), .fs 1 (List.map b0t y2.Assume), I y2.Ticks, .rs i5_1 0 (List.length l4)]]) /\ i5 < h.nx /\ h.ob i5_1 = some (4, List.map c26 l4) /\ i5_1 < h.nx /\ ¬i5 = i5_1) (fun K hK => ?_) ?_
 ·simp only [go_sem];refine b01 (u3o a _ h_y10) ?_;simp only [go_sem];refine b0k (fun hg15 => ?_) (fun hg15 => ?_)
  ·simp only [hg15, eq_self, if_true] at h_c12;obtain rfl := sI9 h_c12;simp only [eq_self, if_true] at h_c14;obtain rfl := sI9 h_c14;simp only [go_sem, hg15];exact hK _ _ ⟨h.nx, (nxs (nxs h.nx)), va9, va9, va9, va9, vb9, vb9, vb9, vb9, vd9⟩
  ·simp only [hg15, if_false, fT9] at h_c12;obtain ⟨y11, h_y11, h_c12⟩ := b0g h_c12;obtain rfl := sI9 h_c12;simp only [go_sem, hg15];refine b8l ?_ (u3o (Accident.mk y2.Machine y2.Assume y2.Ticks l4) _ h_y11) (.v _) ?_
   ·exact .cons (d79 (.cons (.refl _ (b0c fun a _ => b0z a)) (.cons (.refl _ (b0c fun a _ => b0z a)) (.cons (.refl _ (b0c fun a _ => b1q a)) (.cons (.refl _ (b0c fun a _ => b1s a)) (.cons (.refl _ (b0c fun a _ => b1r a)) (.cons (.refl _ (b0c fun a _ => b2j a)) (.cons (.refl _ (b0e _)) (.cons (b29 (f := c26) (l := l4) (id := (nxs (nxs h.nx))) vb9 vf9 c17 u8r) (.nil)))))))))) (.nil)
   simp only [go_sem, hg15];refine b0k (fun hg16 => ?_) (fun hg16 => ?_)
   ·simp only [hg16, eq_self, if_true] at h_c14;obtain rfl := sI9 h_c14;simp only [go_sem, hg15, hg16];exact hK _ _ ⟨h.nx, (nxs (nxs h.nx)), va9, va9, va9, va9, vb9, vb9, vb9, vb9, vd9⟩
   ·simp only [hg16, if_false, fT9] at h_c14;obtain ⟨y13, h_y13, h_c14⟩ := b0g h_c14;obtain rfl := sI9 h_c14;simp only [go_sem, hg15, hg16];refine b01 (u0s a _ h_y13) ?_;simp only [go_sem, hg15, hg16];refine b0k (fun hg17 => ?_) (fun hg17 => ?_)
    ·simp only [go_sem, hg15, hg16, hg17];exact hK _ _ ⟨h.nx, (nxs (nxs h.nx)), va9, va9, va9, (by first | (simp only [go_sem, hg17]; done) | rfl), vb9, vb9, vb9, vb9, vd9⟩
    ·simp only [go_sem, hg15, hg16, hg17];refine b01 (u3t a x.Past.Theory) ?_;simp only [go_sem, hg15, hg16, hg17];exact hK _ _ ⟨h.nx, (nxs (nxs h.nx)), va9, va9, va9, (by first | (simp only [go_sem, hg17]; done) | rfl), vb9, vb9, vb9, vb9, vd9⟩
 ·rintro t h ⟨i5, i5_1, s2, s3, s5, s41, Q1, Qa, Q2, Qb, Qc⟩;refine b0i fun K18 hK18 => ?_;simp only [go_sem, s41];refine b0k (fun hc19 => ?_) (fun hc19 => ?_)
  ·rw [b0r hc19] at hm0;obtain ⟨y21, h_y21, hm0⟩ := b0g hm0;apply b0b;intro K hK;simp only [go_sem];refine b01 (k_l10_works  _ h_y21) ?_;simp only [go_sem];apply hK;simp only [b0x, b1p, b0y];obtain rfl := sI9 hm0;exact b04 vb9 (b0e _)
  ·rw [b0q hc19] at hm0;simp only [b0s, b0f];refine hK18 _ _ ?_;refine b0v ?_;obtain ⟨y23, h_y23, hm0⟩ := b0g hm0;apply b0b;intro K hK;simp only [go_sem, s5, Q1];refine b8l ?_ (u0s (Accident.mk y2.Machine y2.Assume y2.Ticks l4) _ h_y23) (.v _) ?_
   ·exact .cons (d79 (.cons (.refl _ (b0c fun a _ => b0z a)) (.cons (.refl _ (b0c fun a _ => b0z a)) (.cons (.refl _ (b0c fun a _ => b1q a)) (.cons (.refl _ (b0c fun a _ => b1s a)) (.cons (.refl _ (b0c fun a _ => b1r a)) (.cons (.refl _ (b0c fun a _ => b2j a)) (.cons (.refl _ (b0e _)) (.cons (b29 (f := c26) (l := l4) (id := i5_1) (by simp only [go_sem, Q2]) vf9 c17 u8r) (.nil)))))))))) (.nil)
   simp only [go_sem];apply hK;refine b0i fun K24 hK24 => ?_
   have J25 : ∀ (t : Slots) (h : Heap), t 2 = .fp (vA a) 0 -> t 3 = .fp [I x.Record.From, I x.Record.To, B x.Record.All, .fs 1 (List.map b0t x.Record.Cond), I x.Past.Theory.Input, I x.Past.Theory.Value, I x.Past.Theory.From, .fs 1 (List.map eI x.Past.Inputs), .fs 1 (List.map b0t x.Cond), I x.Tick] 0 -> z1z a x = some r -> K24 t h := by
    try clear s2 s3 s5 s41 Q1 Qa Q2 Qb Qc
    intro t h s2 s3 hm0;refine hK24 _ _ ?_;unfold z1z at hm0;refine b0v ?_;obtain ⟨y29, h_y29, hm0⟩ := b0g hm0;obtain ⟨c31, h_c31, hm0⟩ := b0g hm0;refine b2p (fun t h => t 2 = .fp (vA a) 0 /\ t 3 = .fp [I x.Record.From, I x.Record.To, B x.Record.All, .fs 1 (List.map b0t x.Record.Cond), I x.Past.Theory.Input, I x.Past.Theory.Value, I x.Past.Theory.From, .fs 1 (List.map eI x.Past.Inputs), .fs 1 (List.map b0t x.Cond), I x.Tick] 0 /\ t 104 = B c31) (fun K hK => ?_) ?_
    ·simp only [go_sem, s2, s3];refine b8l ?_ (c3j a.Machine ([x.Cond]) _ h_y29) (.v _) ?_
     ·exact .cons (.refl _ (fM _)) (.cons (b29 (f := b4v) (l := ([x.Cond])) (id := h.nx) vb9 vf9 b97 c7o) (.nil))
     simp only [go_sem];refine b0k (fun hg32 => ?_) (fun hg32 => ?_)
     ·simp only [hg32, eq_self, if_true, Bool.true_or] at h_c31;obtain rfl := sI9 h_c31;simp only [go_sem, hg32];exact hK _ _ ⟨s2, s3, va9⟩
     ·simp only [go_sem, s3, hg32];refine b0k (fun hg33 => ?_) (fun hg33 => ?_)
      ·simp only [hg32, hg33, eq_self, if_true, Bool.true_or, Bool.or_true] at h_c31;obtain rfl := sI9 h_c31;simp only [go_sem, hg32, hg33];exact hK _ _ ⟨s2, s3, va9⟩
      ·simp only [go_sem, s2, s3, hg32, hg33];refine b0k (fun hg34 => ?_) (fun hg34 => ?_)
       ·simp only [hg32, hg33, hg34, eq_self, if_true, Bool.or_true, Bool.or_false] at h_c31;obtain rfl := sI9 h_c31;simp only [go_sem, hg32, hg33, hg34];exact hK _ _ ⟨s2, s3, va9⟩
       ·simp only [hg32, hg33, hg34, if_false, Bool.or_false, fT9] at h_c31;obtain ⟨y30, h_y30, h_c31⟩ := b0g h_c31;obtain rfl := sI9 h_c31;simp only [go_sem, s2, s3, hg32, hg33, hg34];refine b01 (z1y a x.Past.Theory x.Past.Inputs _ h_y30) ?_;simp only [go_sem, hg32, hg33, hg34];exact hK _ _ ⟨s2, s3, va9⟩
    ·rintro t h ⟨s2, s3, s104⟩;refine b0i fun K35 hK35 => ?_;simp only [go_sem, s104];refine b0k (fun hc36 => ?_) (fun hc36 => ?_)
     ·rw [b0r hc36] at hm0;obtain ⟨y38, h_y38, hm0⟩ := b0g hm0;apply b0b;intro K hK;simp only [go_sem];refine b01 (k_l10_works  _ h_y38) ?_;simp only [go_sem];apply hK;simp only [b0x, b1p, b0y];obtain rfl := sI9 hm0;exact b04 vb9 (b0e _)
     ·rw [b0q hc36] at hm0;simp only [b0s, b0f];refine hK35 _ _ ?_;obtain ⟨y40, h_y40, hm0⟩ := b0g hm0;apply b0b;intro K hK;simp only [go_sem, s2, s3];refine b8l ?_ (x5r a ([x.Past.Theory]) x.Cond x.Tick _ h_y40) (.tup _ (o8l (.v _) (o8l (.v _) o9n))) ?_
      ·exact .cons (.refl _ (fA _)) (.cons (b29 (f := u26) (l := ([x.Past.Theory])) (id := h.nx) vb9 vf9 x5h x6w) (.cons (.refl _ (b0c fun a _ => b2j a)) (.cons (.refl _ (b0e _)) (.nil))))
      simp only [go_sem];apply hK;apply b0b;intro K hK;simp only [go_sem];apply hK;refine b0v ?_;apply b0b;intro K hK;simp only [go_sem];apply hK;refine b0i fun K41 hK41 => ?_
      have J42 : ∀ (p_12_0 p_12_1 p_12_2 : Int) (i12 : Nat) (t : Slots) (h : Heap), t 2 = .fp (vA a) 0 -> t 3 = .fp [I x.Record.From, I x.Record.To, B x.Record.All, .fs 1 (List.map b0t x.Record.Cond), I x.Past.Theory.Input, I x.Past.Theory.Value, I x.Past.Theory.From, .fs 1 (List.map eI x.Past.Inputs), .fs 1 (List.map b0t x.Cond), I x.Tick] 0 -> t 10 = B y40.1 -> t 11 = I y40.2 -> t 12 = .rp i12 0 0 -> h.ob i12 = some (3, [[I p_12_0, I p_12_1, I p_12_2]]) -> i12 < h.nx -> z2o a x y40 p_12_0 p_12_1 p_12_2 = some r -> K41 t h := by
       intro p_12_0 p_12_1 p_12_2 i12 t h s2 s3 s10 s11 s12 Q0 Q5 hm0;refine hK41 _ _ ?_;unfold z2o at hm0;obtain ⟨c52, h_c52, hm0⟩ := b0g hm0;obtain ⟨c54, h_c54, hm0⟩ := b0g hm0;refine b2p (fun t h => t 4 = B c54) (fun K hK => ?_) ?_
       ·simp only [go_sem, s11];refine b0k (fun hg55 => ?_) (fun hg55 => ?_)
        ·simp only [hg55, eq_self, if_true] at h_c52;obtain ⟨c51, h_c51, h_c52⟩ := b0g h_c52;obtain rfl := sI9 h_c52;simp only [go_sem, s10, hg55];refine b0k (fun hg56 => ?_) (fun hg56 => ?_)
         ·simp only [hg56, eq_self, if_true] at h_c51;obtain rfl := sI9 h_c51;simp only [eq_self, if_true] at h_c54;obtain ⟨y53, h_y53, h_c54⟩ := b0g h_c54;obtain rfl := sI9 h_c54;simp only [go_sem, hg55, hg56];refine b01 (k_l10_works  _ h_y53) ?_;simp only [go_sem, hg55, hg56];exact hK _ _ va9
         ·simp only [hg56, if_false, fT9] at h_c51;obtain ⟨x49, h_x49, h_c51⟩ := b0g h_c51;have h_x490 := b05 h_x49;have h_x491 := b06 h_x49;obtain ⟨y50, h_y50, h_c51⟩ := b0g h_c51;obtain rfl := sI9 h_c51;simp only [go_sem, s2, s3, s12, Q0, b08 h_x49, hg55, hg56];refine b01 (s3y a.Machine (Place.mk p_12_0 (p_12_1, p_12_2)) x49 x.Cond _ h_y50) ?_;simp only [go_sem, hg55, hg56];refine b0k (fun hg57 => ?_) (fun hg57 => ?_)
          ·simp only [hg57, eq_self, if_true] at h_c54;obtain ⟨y53, h_y53, h_c54⟩ := b0g h_c54;obtain rfl := sI9 h_c54;simp only [go_sem, hg55, hg56, hg57];refine b01 (k_l10_works  _ h_y53) ?_;simp only [go_sem, hg55, hg56, hg57];exact hK _ _ va9
          ·simp only [hg57, if_false, fT9] at h_c54;obtain rfl := sI9 h_c54;simp only [go_sem, hg55, hg56, hg57];exact hK _ _ va9
        ·simp only [hg55, if_false, fT9] at h_c52;obtain rfl := sI9 h_c52;simp only [if_false, fT9] at h_c54;obtain rfl := sI9 h_c54;simp only [go_sem, hg55];exact hK _ _ va9
       ·rintro t h s4;simp only [b0x, b0y];obtain rfl := sI9 hm0;exact b04 (by simp only [go_sem, s4]) (b0e _)
      simp only [b0u];obtain ⟨b58, hl58, hm0⟩ := b0g hm0;refine b1j hl58 (fun | (p_12_0, p_12_1, p_12_2, i_13), t, h => ∃ i12 : Nat, t 2 = .fp (vA a) 0 /\ t 3 = .fp [I x.Record.From, I x.Record.To, B x.Record.All, .fs 1 (List.map b0t x.Record.Cond), I x.Past.Theory.Input, I x.Past.Theory.Value, I x.Past.Theory.From, .fs 1 (List.map eI x.Past.Inputs), .fs 1 (List.map b0t x.Cond), I x.Tick] 0 /\ t 10 = B y40.1 /\ t 11 = I y40.2 /\ t 12 = .rp i12 0 0 /\ t 13 = I i_13 /\ h.ob i12 = some (3, [[I p_12_0, I p_12_1, I p_12_2]]) /\ i12 < h.nx) ?_ ?_
      ·exact ⟨(nxs h.nx), s2, s3, va9, va9, va9, va9, vb9, vb9⟩
      ·rintro ⟨p_12_0, p_12_1, p_12_2, i_13⟩ o t h ⟨i12, s2, s3, s10, s11, s12, s13, Q0, Q5⟩ hm1 hb58;simp only [z2x] at hm1;rw [z2s];refine b0v ?_;apply b0b;intro K hK;simp only [go_sem, s3, s13];apply hK;refine b0i fun K59 hK59 => ?_;simp only [go_sem];refine b0k (fun hc60 => ?_) (fun hc60 => ?_)
       ·rw [b0r hc60] at hm1;simp only [b0s, b0f];refine hK59 _ _ ?_;refine b0i fun K61 hK61 => ?_;simp only [b0u];obtain ⟨x65, h_x65, hm1⟩ := b0g hm1;have h_x650 := b05 h_x65;have h_x651 := b06 h_x65;obtain ⟨y66, h_y66, hm1⟩ := b0g hm1;obtain ⟨y67, h_y67, hm1⟩ := b0g hm1;apply b03;intro K hK;simp only [go_sem, s2, s3, s12, s13, Q0, b08 h_x65];refine b01 (u3s x.Past.Theory i_13 x65 _ h_y66) ?_;simp only [go_sem];refine b01 (c3k a.Machine (Place.mk p_12_0 (p_12_1, p_12_2)) y66 _ h_y67) ?_;simp only [go_sem, s12, Q0];apply hK;simp only [b02, b0f];refine hK61 _ _ ?_;apply b03;intro K hK;simp only [go_sem, s13];apply hK;simp only [b0f];obtain rfl := sI9 hm1;refine ⟨_, rfl, ?_⟩;exact ⟨i12, s2, s3, s10, s11, s12, va9, vb9, (by simp only [go_sem, Q5])⟩
       ·rw [b0q hc60] at hm1;simp only [b09, b1b, b1a, b0f];obtain rfl := sI9 hm1;obtain rfl := hb58 _ rfl
        try dsimp only at hm0
        exact J42 p_12_0 p_12_1 p_12_2 i12 _ _ s2 s3 s10 s11 s12 Q0 Q5 hm0
   simp only [go_sem];refine b0k (fun hc69 => ?_) (fun hc69 => ?_)
   ·rw [b0r hc69] at hm0;obtain ⟨y71, h_y71, hm0⟩ := b0g hm0;apply b0b;intro K hK;simp only [go_sem, s2, s3];refine b01 (u3j a x.Past.Theory _ h_y71) ?_;simp only [go_sem];apply hK;obtain ⟨y73, h_y73, hm0⟩ := b0g hm0;apply b0b;intro K hK;simp only [go_sem, s3, s5, Q1];refine b8l ?_ (u3j (Accident.mk y2.Machine y2.Assume y2.Ticks l4) x.Past.Theory _ h_y73) (.tup _ (o8l (.v _) (o8l (.v _) o9n))) ?_
    ·exact .cons (d79 (.cons (.refl _ (b0c fun a _ => b0z a)) (.cons (.refl _ (b0c fun a _ => b0z a)) (.cons (.refl _ (b0c fun a _ => b1q a)) (.cons (.refl _ (b0c fun a _ => b1s a)) (.cons (.refl _ (b0c fun a _ => b1r a)) (.cons (.refl _ (b0c fun a _ => b2j a)) (.cons (.refl _ (b0e _)) (.cons (b29 (f := c26) (l := l4) (id := i5_1) (by simp only [go_sem, Q2]) vf9 c17 u8r) (.nil)))))))))) (.cons (.refl _ (.agg _ (b0a (b0e _) (b0a (b0e _) (b0a (b0e _) b0j))))) (.nil))
    simp only [go_sem];apply hK;refine b2p (fun t h => t 2 = .fp (vA a) 0 /\ t 3 = .fp [I x.Record.From, I x.Record.To, B x.Record.All, .fs 1 (List.map b0t x.Record.Cond), I x.Past.Theory.Input, I x.Past.Theory.Value, I x.Past.Theory.From, .fs 1 (List.map eI x.Past.Inputs), .fs 1 (List.map b0t x.Cond), I x.Tick] 0 /\ t 74 = B (((decide (¬y71.2 = 0)) || (decide (¬y73.2 = 0))) || (y73.1 && (!y71.1)))) (fun K hK => ?_) ?_
    ·simp only [go_sem];refine b0k (fun hg74 => ?_) (fun hg74 => ?_)
     ·simp only [go_sem, hg74];exact hK _ _ ⟨s2, s3, (by first | (simp only [go_sem, hg74]; done) | rfl)⟩
     ·simp only [go_sem, hg74];refine b0k (fun hg75 => ?_) (fun hg75 => ?_)
      ·simp only [go_sem, hg74, hg75];exact hK _ _ ⟨s2, s3, (by first | (simp only [go_sem, hg74, hg75]; done) | rfl)⟩
      ·simp only [go_sem, hg74, hg75];refine b0k (fun hg76 => ?_) (fun hg76 => ?_)
       ·simp only [go_sem, hg74, hg75, hg76];exact hK _ _ ⟨s2, s3, (by first | (simp only [go_sem, hg74, hg75, hg76]; done) | rfl)⟩
       ·simp only [go_sem, hg74, hg75, hg76];exact hK _ _ ⟨s2, s3, (by first | (simp only [go_sem, hg74, hg75, hg76]; done) | rfl)⟩
    ·try clear s2 s3 s5 s41 Q1 Qa Q2 Qb Qc
     rintro t h ⟨s2, s3, s74⟩;simp only [go_sem, s74];refine b0k (fun hc77 => ?_) (fun hc77 => ?_)
     ·rw [b0r hc77] at hm0;apply b0b;intro K hK;simp only [go_sem];apply hK;simp only [b0x, b1p, b0y];obtain rfl := sI9 hm0;exact b04 vb9 (b0e _)
     ·rw [b0q hc77] at hm0;simp only [b0s, b0f];exact J25  _ _ s2 s3 hm0
   ·rw [b0q hc69] at hm0;simp only [b0s, b0f];exact J25  _ _ s2 s3 hm0
theorem z3n (z2k : z2g O) (z2l : z2h O) : z2t O := by
 intro a x r hm0;unfold z1t at hm0;split at hm0
 ·exact z2k a x r hm0
 ·exact z2l a x r hm0
end Go.Nw.AM
