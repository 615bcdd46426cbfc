/- The arguments of the circuit's laws, typed. -/
import Derived.Test.YtmlhjobmpjpmnaaDoorDM
import Derived.Test.YtmlhjobmpjpmnaaDoorNwTyp
set_option linter.all false
set_option linter.unusedVariables false
set_option linter.unusedSimpArgs false
set_option linter.unusedSectionVars false
namespace Go.Nw.DM
def OkInts (l : List Int) : Prop := l.length ≤ maxLen ∧ ∀ x ∈ l, In64 x
def OkWire (w : Wire) : Prop := In64 w.Kind ∧ OkInts w.Of
def OkC (c : Circuit) : Prop := In64 c.Hazards ∧ OkInts c.Switches ∧ c.Wires.length ≤ maxLen ∧ ∀ w ∈ c.Wires, OkWire w
def OkTrial (t : Trial) : Prop := In64 t.Hazards ∧ In64 t.Wire
def OkTrials (l : List Trial) : Prop := l.length ≤ maxLen ∧ ∀ t ∈ l, OkTrial t
def OkRota (r : Rota) : Prop := (r.Nights.length ≤ maxLen ∧ ∀ l ∈ r.Nights, OkInts l) ∧ In64 r.Gap
abbrev shInts : Sh := .sl [.i .i64]
abbrev shC : List Sh := [.i .i64, shInts, .sl [.i .i64, shInts]]
abbrev shTrials : Sh := .sl [.i .i64, .i .i64]
abbrev shRota : List Sh := [.sl [shInts], .i .i64]
theorem mt_ints {a : AV} (h : Mt shInts a) : ∃ l : List Int, a = .fs 1 (l.map eI) ∧ OkInts l := by
  obtain ⟨l, rfl, h1, h2⟩ := mt_sl eI In64 h fun r hr => row_i64 hr
  exact ⟨l, rfl, h1, h2⟩
theorem row_wire {r : List AV} (hr0 : MtL [.i .i64, shInts] r) : ∃ w, r = eWire w ∧ OkWire w := by
  obtain ⟨a, r', rfl, h1, h2⟩ := mtl_cons hr0
  obtain ⟨b, r'', rfl, h3, h4⟩ := mtl_cons h2
  obtain ⟨n, rfl, hn⟩ := mt_i64 h1
  obtain ⟨l, rfl, hl⟩ := mt_ints h3
  exact ⟨⟨n, l⟩, by rw [mtl_nil h4]; rfl, hn, hl⟩
theorem typ_C {a : AV} (h : MtA (.agg shC) a) : ∃ c : Circuit, a = .agg [I c.Hazards, .fs 1 (List.map eI c.Switches), .fs 2 (List.map eWire c.Wires)] ∧ OkC c := by
  obtain ⟨r, rfl, hr0⟩ := mta_agg h
  obtain ⟨a, r', rfl, h1, h2⟩ := mtl_cons hr0
  obtain ⟨b, r'', rfl, h3, h4⟩ := mtl_cons h2
  obtain ⟨d, r3, rfl, h5, h6⟩ := mtl_cons h4
  obtain ⟨n, rfl, hn⟩ := mt_i64 h1
  obtain ⟨l, rfl, hl⟩ := mt_ints h3
  obtain ⟨ws, rfl, hw, hw'⟩ := mt_sl eWire OkWire h5 fun r hr => row_wire hr
  exact ⟨⟨n, l, ws⟩, by rw [mtl_nil h6]; rfl, hn, hl, hw, hw'⟩
theorem typ_Trials {a : AV} (h : MtA (.c shTrials) a) : ∃ l : List Trial, a = .fs 2 (List.map eTrial l) ∧ OkTrials l := by
  obtain ⟨l, rfl, h1, h2⟩ := mt_sl eTrial OkTrial (mta_c h) fun r hr => by
    obtain ⟨a, r', rfl, h1, h2⟩ := mtl_cons hr
    obtain ⟨b, r'', rfl, h3, h4⟩ := mtl_cons h2
    obtain ⟨n, rfl, hn⟩ := mt_i64 h1
    obtain ⟨m, rfl, hm⟩ := mt_i64 h3
    exact ⟨⟨n, m⟩, by rw [mtl_nil h4]; rfl, hn, hm⟩
  exact ⟨l, rfl, h1, h2⟩
theorem typ_Rota {a : AV} (h : MtA (.agg shRota) a) : ∃ r : Rota, a = .agg [.fs 1 (List.map eL_I r.Nights), I r.Gap] ∧ OkRota r := by
  obtain ⟨r, rfl, hr0⟩ := mta_agg h
  obtain ⟨a, r', rfl, h1, h2⟩ := mtl_cons hr0
  obtain ⟨b, r'', rfl, h3, h4⟩ := mtl_cons h2
  obtain ⟨ns, rfl, hw, hw'⟩ := mt_sl eL_I OkInts h1 fun r hr => by
    obtain ⟨a, r', rfl, h1, h2⟩ := mtl_cons hr
    obtain ⟨l, rfl, hl⟩ := mt_ints h1
    exact ⟨l, by rw [mtl_nil h2]; rfl, hl⟩
  obtain ⟨n, rfl, hn⟩ := mt_i64 h3
  exact ⟨⟨ns, n⟩, by rw [mtl_nil h4]; rfl, ⟨hw, hw'⟩, hn⟩
theorem typ_I {a : AV} (h : MtA (.c (.i .i64)) a) : ∃ n : Int, a = I n ∧ In64 n := mt_i64 (mta_c h)
end Go.Nw.DM
