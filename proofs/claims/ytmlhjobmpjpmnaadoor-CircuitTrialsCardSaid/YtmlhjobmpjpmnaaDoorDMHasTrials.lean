/- The contracts of the functions that the law reaches, of the given program. -/
import Derived.Test.YtmlhjobmpjpmnaaDoorP1
import Derived.Test.YtmlhjobmpjpmnaaDoorKDM1
import Derived.Test.YtmlhjobmpjpmnaaDoorKDM2
import Derived.Test.YtmlhjobmpjpmnaaDoorNwHas
import Derived.Test.YtmlhjobmpjpmnaaDoorProg
set_option linter.all false
set_option linter.unusedVariables false
set_option linter.unusedSimpArgs false
set_option linter.unusedSectionVars false
namespace Go.Nw.DM
open Go.Proofs Go.Nw.Door
set_option maxRecDepth 100000
theorem h_l03_Far : Has (orac Tryd.prog) "newel/newellaw03.Far" x_l03_Far := has_at 5 [1, 21, 15, 9, 4] [] Tryd.func5 (by kernel_rfl) (by kernel_rfl)
theorem c_l03_Far : C_l03_Far (orac Tryd.prog) := k_l03_Far h_l03_Far
theorem h_l03_Example : Has (orac Tryd.prog) "newel/newellaw03.Example" x_l03_Example := has_at 16 [] [] Tryd.func16 (by kernel_rfl) (by kernel_rfl)
theorem c_l03_Example : C_l03_Example (orac Tryd.prog) := k_l03_Example h_l03_Example
theorem h_slices_Index___bool_bool_ : Has (orac Tryd.prog) "slices.Index[[]bool,bool]" x_slices_Index___bool_bool_ := has_at 57 [] [] Tryd.func57 (by kernel_rfl) (by kernel_rfl)
theorem c_slices_Index___bool_bool_ : C_slices_Index___bool_bool_ (orac Tryd.prog) := k_slices_Index___bool_bool_ h_slices_Index___bool_bool_
theorem h_slices_Contains___bool_bool_ : Has (orac Tryd.prog) "slices.Contains[[]bool,bool]" x_slices_Contains___bool_bool_ := has_at 47 [] [] Tryd.func47 (by kernel_rfl) (by kernel_rfl)
theorem c_slices_Contains___bool_bool_ : C_slices_Contains___bool_bool_ (orac Tryd.prog) := k_slices_Contains___bool_bool_ h_slices_Contains___bool_bool_ c_slices_Index___bool_bool_
theorem h_slices_IndexFunc___int_int_ : Has (orac Tryd.prog) "slices.IndexFunc[[]int,int]" x_slices_IndexFunc___int_int_ := has_at 58 [] [] Tryd.func58 (by kernel_rfl) (by kernel_rfl)
theorem c_slices_IndexFunc___int_int_ : C_slices_IndexFunc___int_int_ (orac Tryd.prog) := k_slices_IndexFunc___int_int_ h_slices_IndexFunc___int_int_
theorem h_slices_ContainsFunc___int_int_ : Has (orac Tryd.prog) "slices.ContainsFunc[[]int,int]" x_slices_ContainsFunc___int_int_ := has_at 48 [] [] Tryd.func48 (by kernel_rfl) (by kernel_rfl)
theorem c_slices_ContainsFunc___int_int_ : C_slices_ContainsFunc___int_int_ (orac Tryd.prog) := k_slices_ContainsFunc___int_int_ h_slices_ContainsFunc___int_int_ c_slices_IndexFunc___int_int_
theorem h_circuit_isSet : Has (orac Tryd.prog) "newel/circuit.isSet" x_circuit_isSet := has_at 39 [] [] Tryd.func39 (by kernel_rfl) (by kernel_rfl)
theorem c_circuit_isSet : C_circuit_isSet (orac Tryd.prog) := k_circuit_isSet h_circuit_isSet
theorem h_circuit_CheckD1 : Has (orac Tryd.prog) "newel/circuit.Check$1" x_circuit_CheckD1 := has_at 49 [] [] Tryd.func49 (by kernel_rfl) (by kernel_rfl)
theorem c_circuit_CheckD1 : C_circuit_CheckD1 (orac Tryd.prog) := k_circuit_CheckD1 h_circuit_CheckD1 c_circuit_isSet
theorem h_circuit_ascending : Has (orac Tryd.prog) "newel/circuit.ascending" x_circuit_ascending := has_at 46 [] [] Tryd.func46 (by kernel_rfl) (by kernel_rfl)
theorem c_circuit_ascending : C_circuit_ascending (orac Tryd.prog) := k_circuit_ascending h_circuit_ascending
theorem h_circuit_CheckD2 : Has (orac Tryd.prog) "newel/circuit.Check$2" x_circuit_CheckD2 := has_at 50 [] [] Tryd.func50 (by kernel_rfl) (by kernel_rfl)
theorem c_circuit_CheckD2 : C_circuit_CheckD2 (orac Tryd.prog) := k_circuit_CheckD2 h_circuit_CheckD2
theorem h_circuit_Check : Has (orac Tryd.prog) "newel/circuit.Check" x_circuit_Check := has_at 38 [1, 93, 69, 50, 46, 41, 32, 27, 22, 17, 13, 9] [(46, 4)] Tryd.func38 (by kernel_rfl) (by kernel_rfl)
theorem c_circuit_Check : C_circuit_Check (orac Tryd.prog) := k_circuit_Check h_circuit_Check c_slices_Contains___bool_bool_ c_slices_ContainsFunc___int_int_ c_circuit_CheckD1 c_circuit_ascending c_circuit_CheckD2
theorem h__circuit_state__conducts : Has (orac Tryd.prog) "(newel/circuit.state).conducts" x__circuit_state__conducts := has_at 55 [2, 25, 20, 19, 12, 5] [] Tryd.func55 (by kernel_rfl) (by kernel_rfl)
theorem c__circuit_state__conducts : C__circuit_state__conducts (orac Tryd.prog) := k__circuit_state__conducts h__circuit_state__conducts
theorem h__circuit_state__wireD1 : Has (orac Tryd.prog) "(newel/circuit.state).wire$1" x__circuit_state__wireD1 := has_at 56 [] [] Tryd.func56 (by kernel_rfl) (by kernel_rfl)
theorem c__circuit_state__wireD1 : C__circuit_state__wireD1 (orac Tryd.prog) := k__circuit_state__wireD1 h__circuit_state__wireD1
theorem h__circuit_state__wire_body : Has (orac Tryd.prog) "(newel/circuit.state).wire" x__circuit_state__wire := has_at 45 [2, 7, 6] [] Tryd.func45 (by kernel_rfl) (by kernel_rfl)
theorem c__circuit_state__wire_body : C__circuit_state__wire_body (orac Tryd.prog) := k__circuit_state__wire_body h__circuit_state__wire_body c__circuit_state__conducts c_slices_ContainsFunc___int_int_ c__circuit_state__wireD1
theorem c__circuit_state__wire : C__circuit_state__wire (orac Tryd.prog) := k__circuit_state__wire c__circuit_state__wire_body
theorem h_circuit_weak : Has (orac Tryd.prog) "newel/circuit.weak" x_circuit_weak := has_at 35 [2, 6] [] Tryd.func35 (by kernel_rfl) (by kernel_rfl)
theorem c_circuit_weak : C_circuit_weak (orac Tryd.prog) := k_circuit_weak h_circuit_weak c__circuit_state__wire
theorem h_circuit_Critical : Has (orac Tryd.prog) "newel/circuit.Critical" x_circuit_Critical := has_at 33 [1, 12] [] Tryd.func33 (by kernel_rfl) (by kernel_rfl)
theorem c_circuit_Critical : C_circuit_Critical (orac Tryd.prog) := k_circuit_Critical h_circuit_Critical c_circuit_Check c_circuit_weak
theorem h_slices_Index___int_int_ : Has (orac Tryd.prog) "slices.Index[[]int,int]" x_slices_Index___int_int_ := has_at 44 [] [] Tryd.func44 (by kernel_rfl) (by kernel_rfl)
theorem c_slices_Index___int_int_ : C_slices_Index___int_int_ (orac Tryd.prog) := k_slices_Index___int_int_ h_slices_Index___int_int_
theorem h_slices_Contains___int_int_ : Has (orac Tryd.prog) "slices.Contains[[]int,int]" x_slices_Contains___int_int_ := has_at 34 [] [] Tryd.func34 (by kernel_rfl) (by kernel_rfl)
theorem c_slices_Contains___int_int_ : C_slices_Contains___int_int_ (orac Tryd.prog) := k_slices_Contains___int_int_ h_slices_Contains___int_int_ c_slices_Index___int_int_
theorem h_circuit_Pairs : Has (orac Tryd.prog) "newel/circuit.Pairs" x_circuit_Pairs := has_at 17 [1, 26, 17] [] Tryd.func17 (by kernel_rfl) (by kernel_rfl)
theorem c_circuit_Pairs : C_circuit_Pairs (orac Tryd.prog) := k_circuit_Pairs h_circuit_Pairs c_circuit_Critical c_slices_Contains___int_int_ c_circuit_weak
theorem h_circuit_check : Has (orac Tryd.prog) "newel/circuit.check" x_circuit_check := has_at 19 [2, 36, 24] [] Tryd.func19 (by kernel_rfl) (by kernel_rfl)
theorem c_circuit_check : C_circuit_check (orac Tryd.prog) := k_circuit_check h_circuit_check c_circuit_Check c_circuit_isSet
theorem h_circuit_checkRota : Has (orac Tryd.prog) "newel/circuit.checkRota" x_circuit_checkRota := has_at 36 [5, 36, 32, 27, 21, 16, 3] [] Tryd.func36 (by kernel_rfl) (by kernel_rfl)
theorem c_circuit_checkRota : C_circuit_checkRota (orac Tryd.prog) := k_circuit_checkRota h_circuit_checkRota c_circuit_check c_circuit_ascending
theorem h_circuit_shows : Has (orac Tryd.prog) "newel/circuit.shows" x_circuit_shows := has_at 41 [4, 24, 19, 15, 10, 3] [] Tryd.func41 (by kernel_rfl) (by kernel_rfl)
theorem c_circuit_shows : C_circuit_shows (orac Tryd.prog) := k_circuit_shows h_circuit_shows c__circuit_state__wire
theorem h_circuit_shown : Has (orac Tryd.prog) "newel/circuit.shown" x_circuit_shown := has_at 21 [3, 2, 6] [] Tryd.func21 (by kernel_rfl) (by kernel_rfl)
theorem c_circuit_shown : C_circuit_shown (orac Tryd.prog) := k_circuit_shown h_circuit_shown c_circuit_shows
theorem h_circuit_all : Has (orac Tryd.prog) "newel/circuit.all" x_circuit_all := has_at 25 [2] [] Tryd.func25 (by kernel_rfl) (by kernel_rfl)
theorem c_circuit_all : C_circuit_all (orac Tryd.prog) := k_circuit_all h_circuit_all c_circuit_shown
theorem h_circuit_gap : Has (orac Tryd.prog) "newel/circuit.gap" x_circuit_gap := has_at 37 [] [] Tryd.func37 (by kernel_rfl) (by kernel_rfl)
theorem c_circuit_gap : C_circuit_gap (orac Tryd.prog) := k_circuit_gap h_circuit_gap
theorem h_circuit_CheckRota : Has (orac Tryd.prog) "newel/circuit.CheckRota" x_circuit_CheckRota := has_at 18 [5, 64, 34, 30, 3, 61] [] Tryd.func18 (by kernel_rfl) (by kernel_rfl)
theorem c_circuit_CheckRota : C_circuit_CheckRota (orac Tryd.prog) := k_circuit_CheckRota h_circuit_CheckRota c_circuit_checkRota c_circuit_all c_circuit_gap
theorem h_l03_works : Has (orac Tryd.prog) "newel/newellaw03.works" x_l03_works := has_at 6 [] [] Tryd.func6 (by kernel_rfl) (by kernel_rfl)
theorem c_l03_works : C_l03_works (orac Tryd.prog) := k_l03_works h_l03_works c_l03_Example c_circuit_Pairs c_circuit_CheckRota
theorem h_math_bits_TrailingZeros64 : Has (orac Tryd.prog) "math/bits.TrailingZeros64" x_math_bits_TrailingZeros64 := has_at 52 [] [] Tryd.func52 (by kernel_rfl) (by kernel_rfl)
theorem c_math_bits_TrailingZeros64 : C_math_bits_TrailingZeros64 (orac Tryd.prog) := k_math_bits_TrailingZeros64 h_math_bits_TrailingZeros64
theorem h_math_bits_TrailingZeros : Has (orac Tryd.prog) "math/bits.TrailingZeros" x_math_bits_TrailingZeros := has_at 40 [] [] Tryd.func40 (by kernel_rfl) (by kernel_rfl)
theorem c_math_bits_TrailingZeros : C_math_bits_TrailingZeros (orac Tryd.prog) := k_math_bits_TrailingZeros h_math_bits_TrailingZeros c_math_bits_TrailingZeros64
theorem h_circuit_elements : Has (orac Tryd.prog) "newel/circuit.elements" x_circuit_elements := has_at 20 [] [] Tryd.func20 (by kernel_rfl) (by kernel_rfl)
theorem c_circuit_elements : C_circuit_elements (orac Tryd.prog) := k_circuit_elements h_circuit_elements c_math_bits_TrailingZeros
theorem h_circuit_Shows : Has (orac Tryd.prog) "newel/circuit.Shows" x_circuit_Shows := has_at 7 [3] [] Tryd.func7 (by kernel_rfl) (by kernel_rfl)
theorem c_circuit_Shows : C_circuit_Shows (orac Tryd.prog) := k_circuit_Shows h_circuit_Shows c_circuit_check c_circuit_shown c_circuit_elements
theorem h_r03_within : Has (orac Tryd.prog) "newel/newelref03.within" x_r03_within := has_at 22 [] [] Tryd.func22 (by kernel_rfl) (by kernel_rfl)
theorem c_r03_within : C_r03_within (orac Tryd.prog) := k_r03_within h_r03_within
theorem h_r03_Check : Has (orac Tryd.prog) "newel/newelref03.Check" x_r03_Check := has_at 31 [1, 106, 76, 58, 52, 47, 40, 35, 29, 22, 15, 10] [] Tryd.func31 (by kernel_rfl) (by kernel_rfl)
theorem c_r03_Check : C_r03_Check (orac Tryd.prog) := k_r03_Check h_r03_Check c_r03_within
theorem h_r03_Hazards : Has (orac Tryd.prog) "newel/newelref03.Hazards" x_r03_Hazards := has_at 32 [2, 6] [] Tryd.func32 (by kernel_rfl) (by kernel_rfl)
theorem c_r03_Hazards : C_r03_Hazards (orac Tryd.prog) := k_r03_Hazards h_r03_Hazards c_r03_within
theorem h_r03_CheckTrials : Has (orac Tryd.prog) "newel/newelref03.CheckTrials" x_r03_CheckTrials := has_at 14 [2, 32] [] Tryd.func14 (by kernel_rfl) (by kernel_rfl)
theorem c_r03_CheckTrials : C_r03_CheckTrials (orac Tryd.prog) := k_r03_CheckTrials h_r03_CheckTrials c_r03_Check c_r03_Hazards c_r03_within
theorem h_r03_conducts_body : Has (orac Tryd.prog) "newel/newelref03.conducts" x_r03_conducts := has_at 53 [5, 40, 14] [] Tryd.func53 (by kernel_rfl) (by kernel_rfl)
theorem c_r03_conducts_body : C_r03_conducts_body (orac Tryd.prog) := k_r03_conducts_body h_r03_conducts_body
theorem c_r03_conducts : C_r03_conducts (orac Tryd.prog) := k_r03_conducts c_r03_conducts_body
theorem h_r03_Tells : Has (orac Tryd.prog) "newel/newelref03.Tells" x_r03_Tells := has_at 42 [4, 18, 16, 10, 8, 3] [] Tryd.func42 (by kernel_rfl) (by kernel_rfl)
theorem c_r03_Tells : C_r03_Tells (orac Tryd.prog) := k_r03_Tells h_r03_Tells c_r03_conducts
theorem h_r03_shown : Has (orac Tryd.prog) "newel/newelref03.shown" x_r03_shown := has_at 24 [3, 2, 8] [] Tryd.func24 (by kernel_rfl) (by kernel_rfl)
theorem c_r03_shown : C_r03_shown (orac Tryd.prog) := k_r03_shown h_r03_shown c_r03_Tells
theorem h_r03_members : Has (orac Tryd.prog) "newel/newelref03.members" x_r03_members := has_at 23 [] [] Tryd.func23 (by kernel_rfl) (by kernel_rfl)
theorem c_r03_members : C_r03_members (orac Tryd.prog) := k_r03_members h_r03_members
theorem h_r03_Shows : Has (orac Tryd.prog) "newel/newelref03.Shows" x_r03_Shows := has_at 8 [3, 27] [] Tryd.func8 (by kernel_rfl) (by kernel_rfl)
theorem c_r03_Shows : C_r03_Shows (orac Tryd.prog) := k_r03_Shows h_r03_Shows c_r03_CheckTrials c_r03_within c_r03_shown c_r03_members
theorem h_l03_sameInts : Has (orac Tryd.prog) "newel/newellaw03.sameInts" x_l03_sameInts := has_at 9 [] [] Tryd.func9 (by kernel_rfl) (by kernel_rfl)
theorem c_l03_sameInts : C_l03_sameInts (orac Tryd.prog) := k_l03_sameInts h_l03_sameInts
theorem h_circuit_Blind : Has (orac Tryd.prog) "newel/circuit.Blind" x_circuit_Blind := has_at 10 [2, 21] [] Tryd.func10 (by kernel_rfl) (by kernel_rfl)
theorem c_circuit_Blind : C_circuit_Blind (orac Tryd.prog) := k_circuit_Blind h_circuit_Blind c_circuit_check c_circuit_all c_circuit_elements
theorem h_r03_all : Has (orac Tryd.prog) "newel/newelref03.all" x_r03_all := has_at 26 [3] [] Tryd.func26 (by kernel_rfl) (by kernel_rfl)
theorem c_r03_all : C_r03_all (orac Tryd.prog) := k_r03_all h_r03_all c_r03_shown
theorem h_r03_Blind : Has (orac Tryd.prog) "newel/newelref03.Blind" x_r03_Blind := has_at 11 [2, 30, 22] [] Tryd.func11 (by kernel_rfl) (by kernel_rfl)
theorem c_r03_Blind : C_r03_Blind (orac Tryd.prog) := k_r03_Blind h_r03_Blind c_r03_CheckTrials c_r03_all c_r03_members
theorem h_cmp_isNaN_int_ : Has (orac Tryd.prog) "cmp.isNaN[int]" x_cmp_isNaN_int_ := has_at 54 [] [] Tryd.func54 (by kernel_rfl) (by kernel_rfl)
theorem c_cmp_isNaN_int_ : C_cmp_isNaN_int_ (orac Tryd.prog) := k_cmp_isNaN_int_ h_cmp_isNaN_int_
theorem h_cmp_Compare_int_ : Has (orac Tryd.prog) "cmp.Compare[int]" x_cmp_Compare_int_ := has_at 43 [] [] Tryd.func43 (by kernel_rfl) (by kernel_rfl)
theorem c_cmp_Compare_int_ : C_cmp_Compare_int_ (orac Tryd.prog) := k_cmp_Compare_int_ h_cmp_Compare_int_ c_cmp_isNaN_int_
theorem h_slices_Compare___int_int_ : Has (orac Tryd.prog) "slices.Compare[[]int,int]" x_slices_Compare___int_int_ := has_at 27 [] [] Tryd.func27 (by kernel_rfl) (by kernel_rfl)
theorem c_slices_Compare___int_int_ : C_slices_Compare___int_int_ (orac Tryd.prog) := k_slices_Compare___int_int_ h_slices_Compare___int_int_ c_cmp_Compare_int_
theorem h_circuit_Fewest : Has (orac Tryd.prog) "newel/circuit.Fewest" x_circuit_Fewest := has_at 12 [2] [] Tryd.func12 (by kernel_rfl) (by kernel_rfl)
theorem c_circuit_Fewest : C_circuit_Fewest (orac Tryd.prog) := k_circuit_Fewest h_circuit_Fewest c_circuit_check c_circuit_all c_circuit_elements c_slices_Compare___int_int_
theorem h_r03_every : Has (orac Tryd.prog) "newel/newelref03.every" x_r03_every := has_at 28 [2] [] Tryd.func28 (by kernel_rfl) (by kernel_rfl)
theorem c_r03_every : C_r03_every (orac Tryd.prog) := k_r03_every h_r03_every c_r03_shown
theorem h_r03_Ones : Has (orac Tryd.prog) "newel/newelref03.Ones" x_r03_Ones := has_at 29 [] [] Tryd.func29 (by kernel_rfl) (by kernel_rfl)
theorem c_r03_Ones : C_r03_Ones (orac Tryd.prog) := k_r03_Ones h_r03_Ones
theorem h_r03_less : Has (orac Tryd.prog) "newel/newelref03.less" x_r03_less := has_at 30 [] [] Tryd.func30 (by kernel_rfl) (by kernel_rfl)
theorem c_r03_less : C_r03_less (orac Tryd.prog) := k_r03_less h_r03_less
theorem h_r03_Fewest : Has (orac Tryd.prog) "newel/newelref03.Fewest" x_r03_Fewest := has_at 13 [2] [] Tryd.func13 (by kernel_rfl) (by kernel_rfl)
theorem c_r03_Fewest : C_r03_Fewest (orac Tryd.prog) := k_r03_Fewest h_r03_Fewest c_r03_CheckTrials c_r03_all c_r03_every c_r03_Ones c_r03_members c_r03_less
theorem h_l03_CircuitTrials : Has (orac Tryd.prog) "newel/newellaw03.CircuitTrials" x_l03_CircuitTrials := has_at 3 [3] [] Tryd.func3 (by kernel_rfl) (by kernel_rfl)
theorem c_l03_CircuitTrials : C_l03_CircuitTrials (orac Tryd.prog) := k_l03_CircuitTrials h_l03_CircuitTrials c_l03_Far c_l03_works c_circuit_Shows c_r03_Shows c_l03_sameInts c_circuit_Blind c_r03_Blind c_circuit_Fewest c_r03_Fewest
end Go.Nw.DM
