/- The contracts of the functions that the law reaches, of the given program. -/
import Derived.Test.YteoedeeljnboeaaKHM1
import Derived.Test.YteoedeeljnboeaaKHM2
import Derived.Test.YteoedeeljnboeaaKHM3
import Derived.Test.YteoedeeljnboeaaNwHas
import Derived.Test.YteoedeeljnboeaaProg
set_option linter.all false
set_option linter.unusedVariables false
set_option linter.unusedSimpArgs false
set_option linter.unusedSectionVars false
namespace Go.Nw.HM
open Go.Proofs Go.Nw.Halls
set_option maxRecDepth 100000
instance cfg : Cfg := ⟨fun _ => none, fun _ => false⟩
theorem h_l06_Far : Has (orac Try.prog) "newel/newellaw06.Far" x_l06_Far := has_at 13 [1, 37, 31, 25, 21, 15, 9, 4] [] Try.func13 (by kernel_rfl) (by kernel_rfl)
theorem c_l06_Far : C_l06_Far (orac Try.prog) := k_l06_Far h_l06_Far
theorem h_r06_within : Has (orac Try.prog) "newel/newelref06.within" x_r06_within := has_at 45 [] [] Try.func45 (by kernel_rfl) (by kernel_rfl)
theorem c_r06_within : C_r06_within (orac Try.prog) := k_r06_within h_r06_within
theorem h_r06_spanned : Has (orac Try.prog) "newel/newelref06.spanned" x_r06_spanned := has_at 46 [3, 19, 14, 12, 7] [] Try.func46 (by kernel_rfl) (by kernel_rfl)
theorem c_r06_spanned : C_r06_spanned (orac Try.prog) := k_r06_spanned h_r06_spanned
theorem h_r06_Check : Has (orac Try.prog) "newel/newelref06.Check" x_r06_Check := has_at 14 [1, 178, 153, 146, 140, 93, 86, 80, 43, 35, 30, 24, 17, 12] [] Try.func14 (by kernel_rfl) (by kernel_rfl)
theorem c_r06_Check : C_r06_Check (orac Try.prog) := k_r06_Check h_r06_Check c_r06_within c_r06_spanned
theorem h_r06_Fits : Has (orac Try.prog) "newel/newelref06.Fits" x_r06_Fits := has_at 43 [3, 128, 119, 110, 79, 61, 47, 27, 18, 10, 2, 143, 136, 104, 42, 36, 30, 21, 13] [] Try.func43 (by kernel_rfl) (by kernel_rfl)
theorem c_r06_Fits : C_r06_Fits (orac Try.prog) := k_r06_Fits h_r06_Fits c_r06_within
theorem h_l06_Example : Has (orac Try.prog) "newel/newellaw06.Example" x_l06_Example := has_at 47 [] [] Try.func47 (by kernel_rfl) (by kernel_rfl)
theorem c_l06_Example : C_l06_Example (orac Try.prog) := k_l06_Example h_l06_Example
theorem h_halls_in : Has (orac Try.prog) "newel/halls.in" x_halls_in := has_at 66 [3, 11, 5] [] Try.func66 (by kernel_rfl) (by kernel_rfl)
theorem c_halls_in : C_halls_in (orac Try.prog) := k_halls_in h_halls_in
theorem h_halls_span : Has (orac Try.prog) "newel/halls.span" x_halls_span := has_at 76 [3, 19, 14, 12, 8] [] Try.func76 (by kernel_rfl) (by kernel_rfl)
theorem c_halls_span : C_halls_span (orac Try.prog) := k_halls_span h_halls_span
theorem h_halls_isComb : Has (orac Try.prog) "newel/halls.isComb" x_halls_isComb := has_at 62 [2, 33, 6] [] Try.func62 (by kernel_rfl) (by kernel_rfl)
theorem c_halls_isComb : C_halls_isComb (orac Try.prog) := k_halls_isComb h_halls_isComb c_halls_in c_halls_span
theorem h_slices_IndexFunc___api_Train_api_Train_ : Has (orac Try.prog) "slices.IndexFunc[[]newel/api.Train,newel/api.Train]" x_slices_IndexFunc___api_Train_api_Train_ := has_at 77 [] [] Try.func77 (by kernel_rfl) (by kernel_rfl)
theorem c_slices_IndexFunc___api_Train_api_Train_ : C_slices_IndexFunc___api_Train_api_Train_ (orac Try.prog) := k_slices_IndexFunc___api_Train_api_Train_ h_slices_IndexFunc___api_Train_api_Train_
theorem h_slices_ContainsFunc___api_Train_api_Train_ : Has (orac Try.prog) "slices.ContainsFunc[[]newel/api.Train,newel/api.Train]" x_slices_ContainsFunc___api_Train_api_Train_ := has_at 63 [] [] Try.func63 (by kernel_rfl) (by kernel_rfl)
theorem c_slices_ContainsFunc___api_Train_api_Train_ : C_slices_ContainsFunc___api_Train_api_Train_ (orac Try.prog) := k_slices_ContainsFunc___api_Train_api_Train_ h_slices_ContainsFunc___api_Train_api_Train_ c_slices_IndexFunc___api_Train_api_Train_
theorem h_halls_isTrain : Has (orac Try.prog) "newel/halls.isTrain" x_halls_isTrain := has_at 65 [3, 43, 36, 8, 2, 38, 22] [] Try.func65 (by kernel_rfl) (by kernel_rfl)
theorem c_halls_isTrain : C_halls_isTrain (orac Try.prog) := k_halls_isTrain h_halls_isTrain c_halls_span
theorem h_halls_CheckD1 : Has (orac Try.prog) "newel/halls.Check$1" x_halls_CheckD1 := has_at 64 [2] [] Try.func64 (by kernel_rfl) (by kernel_rfl)
theorem c_halls_CheckD1 : C_halls_CheckD1 (orac Try.prog) := k_halls_CheckD1 h_halls_CheckD1 c_halls_isTrain
theorem h_halls_Check : Has (orac Try.prog) "newel/halls.Check" x_halls_Check := has_at 41 [1, 95, 77, 67, 53, 49, 38, 33, 27, 21, 15, 10, 6] [] Try.func41 (by kernel_rfl) (by kernel_rfl)
theorem c_halls_Check : C_halls_Check (orac Try.prog) := k_halls_Check h_halls_Check c_halls_isComb c_slices_ContainsFunc___api_Train_api_Train_ c_halls_CheckD1 c_halls_in
theorem h_slices_IndexFunc___int_int_ : Has (orac Try.prog) "slices.IndexFunc[[]int,int]" x_slices_IndexFunc___int_int_ := has_at 69 [] [] Try.func69 (by kernel_rfl) (by kernel_rfl)
theorem c_slices_IndexFunc___int_int_ : C_slices_IndexFunc___int_int_ (orac Try.prog) := k_slices_IndexFunc___int_int_ h_slices_IndexFunc___int_int_
theorem h_slices_ContainsFunc___int_int_ : Has (orac Try.prog) "slices.ContainsFunc[[]int,int]" x_slices_ContainsFunc___int_int_ := has_at 67 [] [] Try.func67 (by kernel_rfl) (by kernel_rfl)
theorem c_slices_ContainsFunc___int_int_ : C_slices_ContainsFunc___int_int_ (orac Try.prog) := k_slices_ContainsFunc___int_int_ h_slices_ContainsFunc___int_int_ c_slices_IndexFunc___int_int_
theorem h_halls_checkD1 : Has (orac Try.prog) "newel/halls.check$1" x_halls_checkD1 := has_at 68 [] [] Try.func68 (by kernel_rfl) (by kernel_rfl)
theorem c_halls_checkD1 : C_halls_checkD1 (orac Try.prog) := k_halls_checkD1 h_halls_checkD1
theorem h_halls_check : Has (orac Try.prog) "newel/halls.check" x_halls_check := has_at 48 [3, 17] [] Try.func48 (by kernel_rfl) (by kernel_rfl)
theorem c_halls_check : C_halls_check (orac Try.prog) := k_halls_check h_halls_check c_halls_Check c_slices_ContainsFunc___int_int_ c_halls_checkD1
theorem h_halls_rates : Has (orac Try.prog) "newel/halls.rates" x_halls_rates := has_at 59 [2, 48, 40, 29, 24, 12, 9] [] Try.func59 (by kernel_rfl) (by kernel_rfl)
theorem c_halls_rates : C_halls_rates (orac Try.prog) := k_halls_rates h_halls_rates
theorem h_halls_open_w : Has (orac Try.prog) "newel/halls.open" x_halls_open := has_at 49 [1, 4] [(9, 0)] Try.func49 (by kernel_rfl) (by kernel_rfl)
theorem c_halls_open_w : C_halls_open_w (orac Try.prog) := k_halls_open_w h_halls_open_w c_halls_rates
theorem h_halls_brought : Has (orac Try.prog) "newel/halls.brought" x_halls_brought := has_at 71 [4, 13] [] Try.func71 (by kernel_rfl) (by kernel_rfl)
theorem c_halls_brought : C_halls_brought (orac Try.prog) := k_halls_brought h_halls_brought
theorem h___halls_bound__passes : Has (orac Try.prog) "(*newel/halls.bound).passes" x___halls_bound__passes := has_at 72 [] [] Try.func72 (by kernel_rfl) (by kernel_rfl)
theorem c___halls_bound__passes : C___halls_bound__passes (orac Try.prog) := k___halls_bound__passes h___halls_bound__passes
theorem h_halls_bounds_w : Has (orac Try.prog) "newel/halls.bounds" x_halls_bounds := has_at 51 [2, 120, 49, 36, 31, 26, 16] [(74, 5), (40, 9), (70, 7)] Try.func51 (by kernel_rfl) (by kernel_rfl)
theorem c_halls_bounds_w : C_halls_bounds_w (orac Try.prog) := k_halls_bounds_w h_halls_bounds_w c_halls_brought c___halls_bound__passes
theorem h_halls_overD1 : Has (orac Try.prog) "newel/halls.over$1" x_halls_overD1 := has_at 70 [] [] Try.func70 (by kernel_rfl) (by kernel_rfl)
theorem c_halls_overD1 : C_halls_overD1 (orac Try.prog) := k_halls_overD1 h_halls_overD1
theorem h_halls_over : Has (orac Try.prog) "newel/halls.over" x_halls_over := has_at 50 [2] [] Try.func50 (by kernel_rfl) (by kernel_rfl)
theorem c_halls_over : C_halls_over (orac Try.prog) := k_halls_over h_halls_over c_slices_IndexFunc___int_int_ c_halls_overD1
theorem h_halls_Guard : Has (orac Try.prog) "newel/halls.Guard" x_halls_Guard := has_at 16 [3, 34] [(1000004, 2000049), (1000007, 2000051)] Try.func16 (by kernel_rfl) (by kernel_rfl)
theorem c_halls_Guard : C_halls_Guard (orac Try.prog) := k_halls_Guard h_halls_Guard c_halls_check c_halls_open_w c_halls_bounds_w c_halls_over
theorem h_halls_open : Has (orac Try.prog) "newel/halls.open" x_halls_open := has_at 49 [1, 4] [(9, 0)] Try.func49 (by kernel_rfl) (by kernel_rfl)
theorem c_halls_open : C_halls_open (orac Try.prog) := k_halls_open h_halls_open c_halls_rates
theorem h_halls_bounds : Has (orac Try.prog) "newel/halls.bounds" x_halls_bounds := has_at 51 [2, 120, 49, 36, 31, 26, 16] [(74, 5), (40, 9), (70, 7)] Try.func51 (by kernel_rfl) (by kernel_rfl)
theorem c_halls_bounds : C_halls_bounds (orac Try.prog) := k_halls_bounds h_halls_bounds c_halls_brought c___halls_bound__passes
theorem h_halls_Over : Has (orac Try.prog) "newel/halls.Over" x_halls_Over := has_at 18 [1] [] Try.func18 (by kernel_rfl) (by kernel_rfl)
theorem c_halls_Over : C_halls_Over (orac Try.prog) := k_halls_Over h_halls_Over c_halls_Check c_halls_open c_halls_bounds c_halls_over
theorem h_l06_works : Has (orac Try.prog) "newel/newellaw06.works" x_l06_works := has_at 15 [] [] Try.func15 (by kernel_rfl) (by kernel_rfl)
theorem c_l06_works : C_l06_works (orac Try.prog) := k_l06_works h_l06_works c_l06_Example c_halls_Guard c_halls_Over
theorem h_halls_isDayD1 : Has (orac Try.prog) "newel/halls.isDay$1" x_halls_isDayD1 := has_at 75 [] [] Try.func75 (by kernel_rfl) (by kernel_rfl)
theorem c_halls_isDayD1 : C_halls_isDayD1 (orac Try.prog) := k_halls_isDayD1 h_halls_isDayD1 c_halls_in
theorem h_halls_isDay : Has (orac Try.prog) "newel/halls.isDay" x_halls_isDay := has_at 60 [3, 114, 105, 97, 74, 55, 45, 29, 20, 12, 2, 88, 37, 32, 23, 15] [] Try.func60 (by kernel_rfl) (by kernel_rfl)
theorem c_halls_isDay : C_halls_isDay (orac Try.prog) := k_halls_isDay h_halls_isDay c_halls_in c_slices_ContainsFunc___int_int_ c_halls_isDayD1
theorem h_halls_Play : Has (orac Try.prog) "newel/halls.Play" x_halls_Play := has_at 39 [3, 146, 140, 70, 59, 2, 167, 155, 124, 86, 82, 42, 35, 30] [] Try.func39 (by kernel_rfl) (by kernel_rfl)
theorem c_halls_Play : C_halls_Play (orac Try.prog) := k_halls_Play h_halls_Play c_halls_Check c_halls_isDay c_halls_rates
theorem h_halls_Most : Has (orac Try.prog) "newel/halls.Most" x_halls_Most := has_at 20 [2] [] Try.func20 (by kernel_rfl) (by kernel_rfl)
theorem c_halls_Most : C_halls_Most (orac Try.prog) := k_halls_Most h_halls_Most c_halls_check c_halls_open c_halls_bounds
theorem h_halls_Rates : Has (orac Try.prog) "newel/halls.Rates" x_halls_Rates := has_at 37 [2] [] Try.func37 (by kernel_rfl) (by kernel_rfl)
theorem c_halls_Rates : C_halls_Rates (orac Try.prog) := k_halls_Rates h_halls_Rates c_halls_check c_halls_rates
theorem h_halls_Come : Has (orac Try.prog) "newel/halls.Come" x_halls_Come := has_at 26 [4] [] Try.func26 (by kernel_rfl) (by kernel_rfl)
theorem c_halls_Come : C_halls_Come (orac Try.prog) := k_halls_Come h_halls_Come c_halls_check c_halls_open c_halls_bounds
theorem h_l06_HallsWithin : Has (orac Try.prog) "newel/newellaw06.HallsWithin" x_l06_HallsWithin := has_at 11 [5, 180, 178, 176, 164, 153, 144, 139, 131, 116, 60, 53, 37, 32, 4, 3, 107, 97, 92, 85, 78, 39] [] Try.func11 (by kernel_rfl) (by kernel_rfl)
theorem c_l06_HallsWithin : C_l06_HallsWithin (orac Try.prog) := k_l06_HallsWithin h_l06_HallsWithin c_l06_Far c_r06_Check c_r06_Fits c_l06_works c_halls_Play c_halls_Most c_halls_Rates c_halls_Come
end Go.Nw.HM
