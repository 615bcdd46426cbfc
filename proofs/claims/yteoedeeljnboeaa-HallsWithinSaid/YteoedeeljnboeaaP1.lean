/- The arguments of laws, typed: printed by gentyp.py. -/
import Derived.Test.YteoedeeljnboeaaHM
import Derived.Test.YteoedeeljnboeaaNwTypes
set_option linter.all false
set_option linter.unusedVariables false
set_option linter.unusedSimpArgs false
set_option linter.unusedSectionVars false
namespace Go.Nw.HM
def OkSpan (x : Span) : Prop := In64 x.Low ∧ In64 x.High
def OkComb (x : Comb) : Prop := In64 x.Rate ∧ In64 x.Limit ∧ In64 x.Next ∧ OkSpan x.Walk
theorem row_Comb {r : List AV} (h : MtL [.i .i64, .i .i64, .i .i64, .i .i64, .i .i64] r) : ∃ x : Comb, r = eComb x ∧ OkComb x := by
  obtain ⟨a0, r0, rfl, h0, g0⟩ := mtl_cons h
  obtain ⟨a1, r1, rfl, h1, g1⟩ := mtl_cons g0
  obtain ⟨a2, r2, rfl, h2, g2⟩ := mtl_cons g1
  obtain ⟨a3, r3, rfl, h3, g3⟩ := mtl_cons g2
  obtain ⟨a4, r4, rfl, h4, g4⟩ := mtl_cons g3
  obtain ⟨v0, rfl, k0⟩ := mt_i64 h0
  obtain ⟨v1, rfl, k1⟩ := mt_i64 h1
  obtain ⟨v2, rfl, k2⟩ := mt_i64 h2
  obtain ⟨v3, rfl, k3⟩ := mt_i64 h3
  obtain ⟨v4, rfl, k4⟩ := mt_i64 h4
  exact ⟨⟨v0, v1, v2, ⟨v3, v4⟩⟩, by rw [mtl_nil g4]; rfl, ⟨k0, k1, k2, ⟨k3, k4⟩⟩⟩
theorem mt_L_Comb {a : AV} (h : Mt (.sl [.i .i64, .i .i64, .i .i64, .i .i64, .i .i64]) a) : ∃ l : List Comb, a = .fs 5 (l.map eComb) ∧ OkL OkComb l := by
  obtain ⟨l, rfl, h1, h2⟩ := mt_sl eComb OkComb h fun r hr => row_Comb hr
  exact ⟨l, rfl, h1, h2⟩
def OkCrowd (x : Crowd) : Prop := In64 x.Comb ∧ OkSpan x.People
theorem row_Crowd {r : List AV} (h : MtL [.i .i64, .i .i64, .i .i64] r) : ∃ x : Crowd, r = eCrowd x ∧ OkCrowd x := by
  obtain ⟨a0, r0, rfl, h0, g0⟩ := mtl_cons h
  obtain ⟨a1, r1, rfl, h1, g1⟩ := mtl_cons g0
  obtain ⟨a2, r2, rfl, h2, g2⟩ := mtl_cons g1
  obtain ⟨v0, rfl, k0⟩ := mt_i64 h0
  obtain ⟨v1, rfl, k1⟩ := mt_i64 h1
  obtain ⟨v2, rfl, k2⟩ := mt_i64 h2
  exact ⟨⟨v0, ⟨v1, v2⟩⟩, by rw [mtl_nil g2]; rfl, ⟨k0, ⟨k1, k2⟩⟩⟩
theorem mt_L_Crowd {a : AV} (h : Mt (.sl [.i .i64, .i .i64, .i .i64]) a) : ∃ l : List Crowd, a = .fs 3 (l.map eCrowd) ∧ OkL OkCrowd l := by
  obtain ⟨l, rfl, h1, h2⟩ := mt_sl eCrowd OkCrowd h fun r hr => row_Crowd hr
  exact ⟨l, rfl, h1, h2⟩
def OkTrain (x : Train) : Prop := OkSpan x.At ∧ OkL OkCrowd x.Crowds
theorem row_Train {r : List AV} (h : MtL [.i .i64, .i .i64, .sl [.i .i64, .i .i64, .i .i64]] r) : ∃ x : Train, r = eTrain x ∧ OkTrain x := by
  obtain ⟨a0, r0, rfl, h0, g0⟩ := mtl_cons h
  obtain ⟨a1, r1, rfl, h1, g1⟩ := mtl_cons g0
  obtain ⟨a2, r2, rfl, h2, g2⟩ := mtl_cons g1
  obtain ⟨v0, rfl, k0⟩ := mt_i64 h0
  obtain ⟨v1, rfl, k1⟩ := mt_i64 h1
  obtain ⟨v2, rfl, k2⟩ := mt_L_Crowd h2
  exact ⟨⟨⟨v0, v1⟩, v2⟩, by rw [mtl_nil g2]; rfl, ⟨⟨k0, k1⟩, k2⟩⟩
theorem mt_L_Train {a : AV} (h : Mt (.sl [.i .i64, .i .i64, .sl [.i .i64, .i .i64, .i .i64]]) a) : ∃ l : List Train, a = .fs 3 (l.map eTrain) ∧ OkL OkTrain l := by
  obtain ⟨l, rfl, h1, h2⟩ := mt_sl eTrain OkTrain h fun r hr => row_Train hr
  exact ⟨l, rfl, h1, h2⟩
def OkShift (x : Shift) : Prop := In64 x.At ∧ In64 x.Comb ∧ In64 x.Rate
theorem row_Shift {r : List AV} (h : MtL [.i .i64, .i .i64, .i .i64] r) : ∃ x : Shift, r = eShift x ∧ OkShift x := by
  obtain ⟨a0, r0, rfl, h0, g0⟩ := mtl_cons h
  obtain ⟨a1, r1, rfl, h1, g1⟩ := mtl_cons g0
  obtain ⟨a2, r2, rfl, h2, g2⟩ := mtl_cons g1
  obtain ⟨v0, rfl, k0⟩ := mt_i64 h0
  obtain ⟨v1, rfl, k1⟩ := mt_i64 h1
  obtain ⟨v2, rfl, k2⟩ := mt_i64 h2
  exact ⟨⟨v0, v1, v2⟩, by rw [mtl_nil g2]; rfl, ⟨k0, k1, k2⟩⟩
theorem mt_L_Shift {a : AV} (h : Mt (.sl [.i .i64, .i .i64, .i .i64]) a) : ∃ l : List Shift, a = .fs 3 (l.map eShift) ∧ OkL OkShift l := by
  obtain ⟨l, rfl, h1, h2⟩ := mt_sl eShift OkShift h fun r hr => row_Shift hr
  exact ⟨l, rfl, h1, h2⟩
def OkHall (x : Hall) : Prop := OkL OkComb x.Combs ∧ OkL OkTrain x.Trains ∧ OkL OkShift x.Shifts ∧ In64 x.Until
def eHall (x : Hall) : List AV := [.fs 5 (List.map eComb x.Combs), .fs 3 (List.map eTrain x.Trains), .fs 3 (List.map eShift x.Shifts), I x.Until]
theorem row_Hall {r : List AV} (h : MtL [.sl [.i .i64, .i .i64, .i .i64, .i .i64, .i .i64], .sl [.i .i64, .i .i64, .sl [.i .i64, .i .i64, .i .i64]], .sl [.i .i64, .i .i64, .i .i64], .i .i64] r) : ∃ x : Hall, r = eHall x ∧ OkHall x := by
  obtain ⟨a0, r0, rfl, h0, g0⟩ := mtl_cons h
  obtain ⟨a1, r1, rfl, h1, g1⟩ := mtl_cons g0
  obtain ⟨a2, r2, rfl, h2, g2⟩ := mtl_cons g1
  obtain ⟨a3, r3, rfl, h3, g3⟩ := mtl_cons g2
  obtain ⟨v0, rfl, k0⟩ := mt_L_Comb h0
  obtain ⟨v1, rfl, k1⟩ := mt_L_Train h1
  obtain ⟨v2, rfl, k2⟩ := mt_L_Shift h2
  obtain ⟨v3, rfl, k3⟩ := mt_i64 h3
  exact ⟨⟨v0, v1, v2, v3⟩, by rw [mtl_nil g3]; rfl, ⟨k0, k1, k2, k3⟩⟩
abbrev shHall : List Sh := [.sl [.i .i64, .i .i64, .i .i64, .i .i64, .i .i64], .sl [.i .i64, .i .i64, .sl [.i .i64, .i .i64, .i .i64]], .sl [.i .i64, .i .i64, .i .i64], .i .i64]
theorem typ_Hall {a : AV} (h : MtA (.agg shHall) a) : ∃ x : Hall, a = .agg [.fs 5 (List.map eComb x.Combs), .fs 3 (List.map eTrain x.Trains), .fs 3 (List.map eShift x.Shifts), I x.Until] ∧ OkHall x := by
  obtain ⟨r, rfl, hr⟩ := mta_agg h
  obtain ⟨x, rfl, hx⟩ := row_Hall hr
  exact ⟨x, rfl, hx⟩
def Okl06_Window (x : l06_Window) : Prop := In64 x.Comb ∧ In64 x.From ∧ In64 x.To
def el06_Window (x : l06_Window) : List AV := [I x.Comb, I x.From, I x.To]
theorem row_l06_Window {r : List AV} (h : MtL [.i .i64, .i .i64, .i .i64] r) : ∃ x : l06_Window, r = el06_Window x ∧ Okl06_Window x := by
  obtain ⟨a0, r0, rfl, h0, g0⟩ := mtl_cons h
  obtain ⟨a1, r1, rfl, h1, g1⟩ := mtl_cons g0
  obtain ⟨a2, r2, rfl, h2, g2⟩ := mtl_cons g1
  obtain ⟨v0, rfl, k0⟩ := mt_i64 h0
  obtain ⟨v1, rfl, k1⟩ := mt_i64 h1
  obtain ⟨v2, rfl, k2⟩ := mt_i64 h2
  exact ⟨⟨v0, v1, v2⟩, by rw [mtl_nil g2]; rfl, ⟨k0, k1, k2⟩⟩
abbrev shl06_Window : List Sh := [.i .i64, .i .i64, .i .i64]
theorem typ_l06_Window {a : AV} (h : MtA (.agg shl06_Window) a) : ∃ x : l06_Window, a = .agg [I x.Comb, I x.From, I x.To] ∧ Okl06_Window x := by
  obtain ⟨r, rfl, hr⟩ := mta_agg h
  obtain ⟨x, rfl, hx⟩ := row_l06_Window hr
  exact ⟨x, rfl, hx⟩
theorem mt_L_I {a : AV} (h : Mt (.sl [.i .i64]) a) : ∃ l : List Int, a = .fs 1 (l.map eI) ∧ OkL In64 l := by
  obtain ⟨l, rfl, h1, h2⟩ := mt_sl eI In64 h fun r hr => row_I hr
  exact ⟨l, rfl, h1, h2⟩
theorem row_L_I {r : List AV} (h : MtL [.sl [.i .i64]] r) : ∃ x : List Int, r = eL_I x ∧ OkL In64 x := by
  obtain ⟨a0, r0, rfl, h0, g0⟩ := mtl_cons h
  obtain ⟨v0, rfl, k0⟩ := mt_L_I h0
  exact ⟨v0, by rw [mtl_nil g0]; rfl, k0⟩
theorem mt_L_L_I {a : AV} (h : Mt (.sl [.sl [.i .i64]]) a) : ∃ l : List (List Int), a = .fs 1 (l.map eL_I) ∧ OkL (OkL In64) l := by
  obtain ⟨l, rfl, h1, h2⟩ := mt_sl eL_I (OkL In64) h fun r hr => row_L_I hr
  exact ⟨l, rfl, h1, h2⟩
def OkDay (x : Day) : Prop := OkL In64 x.At ∧ OkL (OkL In64) x.People ∧ OkL (OkL In64) x.Walks
def eDay (x : Day) : List AV := [.fs 1 (List.map eI x.At), .fs 1 (List.map eL_I x.People), .fs 1 (List.map eL_I x.Walks)]
theorem row_Day {r : List AV} (h : MtL [.sl [.i .i64], .sl [.sl [.i .i64]], .sl [.sl [.i .i64]]] r) : ∃ x : Day, r = eDay x ∧ OkDay x := by
  obtain ⟨a0, r0, rfl, h0, g0⟩ := mtl_cons h
  obtain ⟨a1, r1, rfl, h1, g1⟩ := mtl_cons g0
  obtain ⟨a2, r2, rfl, h2, g2⟩ := mtl_cons g1
  obtain ⟨v0, rfl, k0⟩ := mt_L_I h0
  obtain ⟨v1, rfl, k1⟩ := mt_L_L_I h1
  obtain ⟨v2, rfl, k2⟩ := mt_L_L_I h2
  exact ⟨⟨v0, v1, v2⟩, by rw [mtl_nil g2]; rfl, ⟨k0, k1, k2⟩⟩
abbrev shDay : List Sh := [.sl [.i .i64], .sl [.sl [.i .i64]], .sl [.sl [.i .i64]]]
theorem typ_Day {a : AV} (h : MtA (.agg shDay) a) : ∃ x : Day, a = .agg [.fs 1 (List.map eI x.At), .fs 1 (List.map eL_I x.People), .fs 1 (List.map eL_I x.Walks)] ∧ OkDay x := by
  obtain ⟨r, rfl, hr⟩ := mta_agg h
  obtain ⟨x, rfl, hx⟩ := row_Day hr
  exact ⟨x, rfl, hx⟩
end Go.Nw.HM
