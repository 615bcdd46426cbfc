/- The contracts of the functions that the law reaches, of the given program. -/
import Derived.Test.YtmlhjobmpjpmnaaKCM1
import Derived.Test.YtmlhjobmpjpmnaaKCM2
import Derived.Test.YtmlhjobmpjpmnaaNwHas
import Derived.Test.YtmlhjobmpjpmnaaProg
set_option linter.all false
set_option linter.unusedVariables false
set_option linter.unusedSimpArgs false
set_option linter.unusedSectionVars false
namespace Go.Nw.CM
open Go.Proofs Go.Nw.Circ
set_option maxRecDepth 100000
theorem h_l03_Far : Has (orac Try.prog) "newel/newellaw03.Far" x_l03_Far := has_at 14 [1, 21, 15, 9, 4] [] Try.func14 (by kernel_rfl) (by kernel_rfl)
theorem c_l03_Far : C_l03_Far (orac Try.prog) := k_l03_Far h_l03_Far
theorem h_r03_within : Has (orac Try.prog) "newel/newelref03.within" x_r03_within := has_at 59 [] [] Try.func59 (by kernel_rfl) (by kernel_rfl)
theorem c_r03_within : C_r03_within (orac Try.prog) := k_r03_within h_r03_within
theorem h_r03_Check : Has (orac Try.prog) "newel/newelref03.Check" x_r03_Check := has_at 22 [1, 106, 76, 58, 52, 47, 40, 35, 29, 22, 15, 10] [] Try.func22 (by kernel_rfl) (by kernel_rfl)
theorem c_r03_Check : C_r03_Check (orac Try.prog) := k_r03_Check h_r03_Check c_r03_within
theorem h_r03_Hazards : Has (orac Try.prog) "newel/newelref03.Hazards" x_r03_Hazards := has_at 24 [2, 6] [] Try.func24 (by kernel_rfl) (by kernel_rfl)
theorem c_r03_Hazards : C_r03_Hazards (orac Try.prog) := k_r03_Hazards h_r03_Hazards c_r03_within
theorem h_r03_CheckTrials : Has (orac Try.prog) "newel/newelref03.CheckTrials" x_r03_CheckTrials := has_at 32 [2, 32] [] Try.func32 (by kernel_rfl) (by kernel_rfl)
theorem c_r03_CheckTrials : C_r03_CheckTrials (orac Try.prog) := k_r03_CheckTrials h_r03_CheckTrials c_r03_Check c_r03_Hazards c_r03_within
theorem h_l03_Example : Has (orac Try.prog) "newel/newellaw03.Example" x_l03_Example := has_at 45 [] [] Try.func45 (by kernel_rfl) (by kernel_rfl)
theorem c_l03_Example : C_l03_Example (orac Try.prog) := k_l03_Example h_l03_Example
theorem h_slices_Index___bool_bool_ : Has (orac Try.prog) "slices.Index[[]bool,bool]" x_slices_Index___bool_bool_ := has_at 74 [] [] Try.func74 (by kernel_rfl) (by kernel_rfl)
theorem c_slices_Index___bool_bool_ : C_slices_Index___bool_bool_ (orac Try.prog) := k_slices_Index___bool_bool_ h_slices_Index___bool_bool_
theorem h_slices_Contains___bool_bool_ : Has (orac Try.prog) "slices.Contains[[]bool,bool]" x_slices_Contains___bool_bool_ := has_at 54 [] [] Try.func54 (by kernel_rfl) (by kernel_rfl)
theorem c_slices_Contains___bool_bool_ : C_slices_Contains___bool_bool_ (orac Try.prog) := k_slices_Contains___bool_bool_ h_slices_Contains___bool_bool_ c_slices_Index___bool_bool_
theorem h_slices_IndexFunc___int_int_ : Has (orac Try.prog) "slices.IndexFunc[[]int,int]" x_slices_IndexFunc___int_int_ := has_at 75 [] [] Try.func75 (by kernel_rfl) (by kernel_rfl)
theorem c_slices_IndexFunc___int_int_ : C_slices_IndexFunc___int_int_ (orac Try.prog) := k_slices_IndexFunc___int_int_ h_slices_IndexFunc___int_int_
theorem h_slices_ContainsFunc___int_int_ : Has (orac Try.prog) "slices.ContainsFunc[[]int,int]" x_slices_ContainsFunc___int_int_ := has_at 55 [] [] Try.func55 (by kernel_rfl) (by kernel_rfl)
theorem c_slices_ContainsFunc___int_int_ : C_slices_ContainsFunc___int_int_ (orac Try.prog) := k_slices_ContainsFunc___int_int_ h_slices_ContainsFunc___int_int_ c_slices_IndexFunc___int_int_
theorem h_circuit_isSet : Has (orac Try.prog) "newel/circuit.isSet" x_circuit_isSet := has_at 51 [] [] Try.func51 (by kernel_rfl) (by kernel_rfl)
theorem c_circuit_isSet : C_circuit_isSet (orac Try.prog) := k_circuit_isSet h_circuit_isSet
theorem h_circuit_CheckD1 : Has (orac Try.prog) "newel/circuit.Check$1" x_circuit_CheckD1 := has_at 56 [] [] Try.func56 (by kernel_rfl) (by kernel_rfl)
theorem c_circuit_CheckD1 : C_circuit_CheckD1 (orac Try.prog) := k_circuit_CheckD1 h_circuit_CheckD1 c_circuit_isSet
theorem h_circuit_ascending : Has (orac Try.prog) "newel/circuit.ascending" x_circuit_ascending := has_at 57 [] [] Try.func57 (by kernel_rfl) (by kernel_rfl)
theorem c_circuit_ascending : C_circuit_ascending (orac Try.prog) := k_circuit_ascending h_circuit_ascending
theorem h_circuit_CheckD2 : Has (orac Try.prog) "newel/circuit.Check$2" x_circuit_CheckD2 := has_at 58 [] [] Try.func58 (by kernel_rfl) (by kernel_rfl)
theorem c_circuit_CheckD2 : C_circuit_CheckD2 (orac Try.prog) := k_circuit_CheckD2 h_circuit_CheckD2
theorem h_circuit_Check : Has (orac Try.prog) "newel/circuit.Check" x_circuit_Check := has_at 21 [1, 93, 69, 50, 46, 41, 32, 27, 22, 17, 13, 9] [(46, 4)] Try.func21 (by kernel_rfl) (by kernel_rfl)
theorem c_circuit_Check : C_circuit_Check (orac Try.prog) := k_circuit_Check h_circuit_Check c_slices_Contains___bool_bool_ c_slices_ContainsFunc___int_int_ c_circuit_CheckD1 c_circuit_ascending c_circuit_CheckD2
theorem h__circuit_state__conducts : Has (orac Try.prog) "(newel/circuit.state).conducts" x__circuit_state__conducts := has_at 72 [2, 25, 20, 19, 12, 5] [] Try.func72 (by kernel_rfl) (by kernel_rfl)
theorem c__circuit_state__conducts : C__circuit_state__conducts (orac Try.prog) := k__circuit_state__conducts h__circuit_state__conducts
theorem h__circuit_state__wireD1 : Has (orac Try.prog) "(newel/circuit.state).wire$1" x__circuit_state__wireD1 := has_at 73 [] [] Try.func73 (by kernel_rfl) (by kernel_rfl)
theorem c__circuit_state__wireD1 : C__circuit_state__wireD1 (orac Try.prog) := k__circuit_state__wireD1 h__circuit_state__wireD1
theorem h__circuit_state__wire_body : Has (orac Try.prog) "(newel/circuit.state).wire" x__circuit_state__wire := has_at 52 [2, 7, 6] [] Try.func52 (by kernel_rfl) (by kernel_rfl)
theorem c__circuit_state__wire_body : C__circuit_state__wire_body (orac Try.prog) := k__circuit_state__wire_body h__circuit_state__wire_body c__circuit_state__conducts c_slices_ContainsFunc___int_int_ c__circuit_state__wireD1
theorem c__circuit_state__wire : C__circuit_state__wire (orac Try.prog) := k__circuit_state__wire c__circuit_state__wire_body
theorem h_circuit_weak : Has (orac Try.prog) "newel/circuit.weak" x_circuit_weak := has_at 60 [2, 6] [] Try.func60 (by kernel_rfl) (by kernel_rfl)
theorem c_circuit_weak : C_circuit_weak (orac Try.prog) := k_circuit_weak h_circuit_weak c__circuit_state__wire
theorem h_circuit_Critical : Has (orac Try.prog) "newel/circuit.Critical" x_circuit_Critical := has_at 25 [1, 12] [] Try.func25 (by kernel_rfl) (by kernel_rfl)
theorem c_circuit_Critical : C_circuit_Critical (orac Try.prog) := k_circuit_Critical h_circuit_Critical c_circuit_Check c_circuit_weak
theorem h_slices_Index___int_int_ : Has (orac Try.prog) "slices.Index[[]int,int]" x_slices_Index___int_int_ := has_at 76 [] [] Try.func76 (by kernel_rfl) (by kernel_rfl)
theorem c_slices_Index___int_int_ : C_slices_Index___int_int_ (orac Try.prog) := k_slices_Index___int_int_ h_slices_Index___int_int_
theorem h_slices_Contains___int_int_ : Has (orac Try.prog) "slices.Contains[[]int,int]" x_slices_Contains___int_int_ := has_at 61 [] [] Try.func61 (by kernel_rfl) (by kernel_rfl)
theorem c_slices_Contains___int_int_ : C_slices_Contains___int_int_ (orac Try.prog) := k_slices_Contains___int_int_ h_slices_Contains___int_int_ c_slices_Index___int_int_
theorem h_circuit_Pairs : Has (orac Try.prog) "newel/circuit.Pairs" x_circuit_Pairs := has_at 27 [1, 26, 17] [] Try.func27 (by kernel_rfl) (by kernel_rfl)
theorem c_circuit_Pairs : C_circuit_Pairs (orac Try.prog) := k_circuit_Pairs h_circuit_Pairs c_circuit_Critical c_slices_Contains___int_int_ c_circuit_weak
theorem h_circuit_check : Has (orac Try.prog) "newel/circuit.check" x_circuit_check := has_at 62 [2, 36, 24] [] Try.func62 (by kernel_rfl) (by kernel_rfl)
theorem c_circuit_check : C_circuit_check (orac Try.prog) := k_circuit_check h_circuit_check c_circuit_Check c_circuit_isSet
theorem h_circuit_checkRota : Has (orac Try.prog) "newel/circuit.checkRota" x_circuit_checkRota := has_at 46 [5, 36, 32, 27, 21, 16, 3] [] Try.func46 (by kernel_rfl) (by kernel_rfl)
theorem c_circuit_checkRota : C_circuit_checkRota (orac Try.prog) := k_circuit_checkRota h_circuit_checkRota c_circuit_check c_circuit_ascending
theorem h_circuit_shows : Has (orac Try.prog) "newel/circuit.shows" x_circuit_shows := has_at 66 [4, 24, 19, 15, 10, 3] [] Try.func66 (by kernel_rfl) (by kernel_rfl)
theorem c_circuit_shows : C_circuit_shows (orac Try.prog) := k_circuit_shows h_circuit_shows c__circuit_state__wire
theorem h_circuit_shown : Has (orac Try.prog) "newel/circuit.shown" x_circuit_shown := has_at 70 [3, 2, 6] [] Try.func70 (by kernel_rfl) (by kernel_rfl)
theorem c_circuit_shown : C_circuit_shown (orac Try.prog) := k_circuit_shown h_circuit_shown c_circuit_shows
theorem h_circuit_all : Has (orac Try.prog) "newel/circuit.all" x_circuit_all := has_at 47 [2] [] Try.func47 (by kernel_rfl) (by kernel_rfl)
theorem c_circuit_all : C_circuit_all (orac Try.prog) := k_circuit_all h_circuit_all c_circuit_shown
theorem h_circuit_gap : Has (orac Try.prog) "newel/circuit.gap" x_circuit_gap := has_at 48 [] [] Try.func48 (by kernel_rfl) (by kernel_rfl)
theorem c_circuit_gap : C_circuit_gap (orac Try.prog) := k_circuit_gap h_circuit_gap
theorem h_circuit_CheckRota : Has (orac Try.prog) "newel/circuit.CheckRota" x_circuit_CheckRota := has_at 17 [5, 64, 34, 30, 3, 61] [] Try.func17 (by kernel_rfl) (by kernel_rfl)
theorem c_circuit_CheckRota : C_circuit_CheckRota (orac Try.prog) := k_circuit_CheckRota h_circuit_CheckRota c_circuit_checkRota c_circuit_all c_circuit_gap
theorem h_l03_works : Has (orac Try.prog) "newel/newellaw03.works" x_l03_works := has_at 16 [] [] Try.func16 (by kernel_rfl) (by kernel_rfl)
theorem c_l03_works : C_l03_works (orac Try.prog) := k_l03_works h_l03_works c_l03_Example c_circuit_Pairs c_circuit_CheckRota
theorem h_slices_Clone___int_int_ : Has (orac Try.prog) "slices.Clone[[]int,int]" x_slices_Clone___int_int_ := has_at 63 [] [] Try.func63 (by kernel_rfl) (by kernel_rfl)
theorem c_slices_Clone___int_int_ : C_slices_Clone___int_int_ (orac Try.prog) := k_slices_Clone___int_int_ h_slices_Clone___int_int_
theorem h_circuit_Rota : Has (orac Try.prog) "newel/circuit.Rota" x_circuit_Rota := has_at 29 [4, 117] [] Try.func29 (by kernel_rfl) (by kernel_rfl)
theorem c_circuit_Rota : C_circuit_Rota (orac Try.prog) := k_circuit_Rota h_circuit_Rota c_circuit_check c_circuit_all c_circuit_gap c_slices_Clone___int_int_
theorem h_r03_AsRota : Has (orac Try.prog) "newel/newelref03.AsRota" x_r03_AsRota := has_at 33 [] [(16, 7)] Try.func33 (by kernel_rfl) (by kernel_rfl)
theorem c_r03_AsRota : C_r03_AsRota (orac Try.prog) := k_r03_AsRota h_r03_AsRota
theorem h_l03_CircuitRota : Has (orac Try.prog) "newel/newellaw03.CircuitRota" x_l03_CircuitRota := has_at 9 [4, 171, 170, 167, 153, 107, 106, 103, 88, 61, 60, 56, 49, 48, 43, 42, 26, 3] [] Try.func9 (by kernel_rfl) (by kernel_rfl)
theorem c_l03_CircuitRota : C_l03_CircuitRota (orac Try.prog) := k_l03_CircuitRota h_l03_CircuitRota c_l03_Far c_r03_CheckTrials c_l03_works c_circuit_Rota c_r03_AsRota c_circuit_CheckRota
end Go.Nw.CM
