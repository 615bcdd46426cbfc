/- The arguments of laws, typed: printed by gentyp.py. -/
import Derived.Test.YtbmfnjehcnbpbaaDoorWN
import Derived.Test.YtbmfnjehcnbpbaaDoorNwTypes
set_option linter.all false
namespace Go.Nw.WN
variable [Bd]
theorem p33 {a : AV} (h : Mt (.sl [.i .i64]) a) : ∃ l : List Int, a = .fs 1 (l.map eI) /\ OkL b5k l := by
 obtain ⟨l, rfl, h1, h2⟩ := b8q eI b5k h fun r hr => p36 hr;exact ⟨l, rfl, h1, h2⟩
theorem D6f {r : List AV} (h : MtL [.sl [.i .i64]] r) : ∃ x : List Int, r = b2f x /\ OkL b5k x := by
 obtain ⟨a0, r0, rfl, h0, g0⟩ := b3e h;obtain ⟨v0, rfl, k0⟩ := p33 h0;exact ⟨v0, by rw [b6o g0]; rfl, k0⟩
theorem D50 {a : AV} (h : Mt (.sl [.sl [.i .i64]]) a) : ∃ l : List (List Int), a = .fs 1 (l.map b2f) /\ OkL (OkL b5k) l := by
 obtain ⟨l, rfl, h1, h2⟩ := b8q b2f (OkL b5k) h fun r hr => D6f hr;exact ⟨l, rfl, h1, h2⟩
def D1a (x : Plant) : Prop := b5k x.Parts /\ OkL (OkL b5k) x.Alarms
def D4y (x : Plant) : List AV := [I x.Parts, .fs 1 (List.map b2f x.Alarms)]
theorem D6g {r : List AV} (h : MtL [.i .i64, .sl [.sl [.i .i64]]] r) : ∃ x : Plant, r = D4y x /\ D1a x := by
 obtain ⟨a0, r0, rfl, h0, g0⟩ := b3e h;obtain ⟨a1, r1, rfl, h1, g1⟩ := b3e g0;obtain ⟨v0, rfl, k0⟩ := b6n h0;obtain ⟨v1, rfl, k1⟩ := D50 h1;exact ⟨⟨v0, v1⟩, by rw [b6o g1]; rfl, ⟨k0, k1⟩⟩
abbrev D2t : List Sh := [.i .i64, .sl [.sl [.i .i64]]]
theorem D6n {a : AV} (h : MtA (.agg D2t) a) : ∃ x : Plant, a = .agg [I x.Parts, .fs 1 (List.map b2f x.Alarms)] /\ D1a x := by
 obtain ⟨r, rfl, hr⟩ := g1y h;obtain ⟨x, rfl, hx⟩ := D6g hr;exact ⟨x, rfl, hx⟩
theorem D5z {a : AV} (h : Mt (.sl [.b]) a) : ∃ l : List Bool, a = .fs 1 (l.map eB) /\ OkL (fun _ : Bool => True) l := by
 obtain ⟨l, rfl, h1, h2⟩ := b8q eB (fun _ : Bool => True) h fun r hr => D6e hr;exact ⟨l, rfl, h1, h2⟩
abbrev D2s : Sh := .sl [.b]
theorem D6m {a : AV} (h : MtA (.c D2s) a) : ∃ x : List Bool, a = .fs 1 (List.map eB x) /\ (OkL (fun _ : Bool => True)) x := D5z (o9m h)
end Go.Nw.WN
