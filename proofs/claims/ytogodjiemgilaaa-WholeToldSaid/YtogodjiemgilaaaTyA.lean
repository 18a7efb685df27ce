/- Closed facts on the types of integers and fractions, and zeros. -/
import Derived.Test.YtogodjiemgilaaaSpecA
namespace Go.Proofs.Ytogodjiemgilaaa
open Go.RowKit
theorem follow : Try.prog.follows .mixedOrders = true := by kernel_rfl
theorem nums_nil (k : IntKind) (w : World) : (VP.nums k []).p (.slice none 0 0) w := ⟨none, 0, rfl, Nat.le_refl _, by simp [maxLen], Rd.nil _ _⟩
theorem z_int (w : World) : All2 [Bz 0, Dz 0] [.bool false, .slice none 0 0] w := ⟨rfl, nums_nil _ _, trivial⟩
theorem z_num (w : World) : All2 [Bz 0, Tz 0] [.bool false, .slice none 0 0] w := ⟨rfl, nums_nil _ _, trivial⟩
theorem z_frac (w : World) : All2 [Bz 0, Dz 0, Bz 0, Dz 0] [.bool false, .slice none 0 0, .bool false, .slice none 0 0] w := ⟨rfl, nums_nil _ _, rfl, nums_nil _ _, trivial⟩
theorem z_rfrac (w : World) : All2 [Bz 0, Tz 0, Bz 0, Tz 0] [.bool false, .slice none 0 0, .bool false, .slice none 0 0] w := ⟨rfl, nums_nil _ _, rfl, nums_nil _ _, trivial⟩
theorem ty_agg_api_Int : aggTy Try.prog 69 2 = true := by kernel_rfl
theorem ty_zero_api_Int : zeroOf Try.prog 69 [.bool false, .slice none 0 0] := by unfold zeroOf; kernel_rfl
theorem ty_pl_api_Int : placesOf Try.prog 69 #[(0, 1), (1, 1)] := ⟨_, Try.underlying69, fun w => by kernel_rfl⟩
theorem ty_f0_api_Int : fieldAt Try.prog 69 0 0 = true := by kernel_rfl
theorem ty_f1_api_Int : fieldAt Try.prog 69 1 1 = true := by kernel_rfl
theorem ty_agg_collatorref01_Num : aggTy Try.prog 72 2 = true := by kernel_rfl
theorem ty_zero_collatorref01_Num : zeroOf Try.prog 72 [.bool false, .slice none 0 0] := by unfold zeroOf; kernel_rfl
theorem ty_pl_collatorref01_Num : placesOf Try.prog 72 #[(0, 1), (1, 1)] := ⟨_, Try.underlying72, fun w => by kernel_rfl⟩
theorem ty_f0_collatorref01_Num : fieldAt Try.prog 72 0 0 = true := by kernel_rfl
theorem ty_f1_collatorref01_Num : fieldAt Try.prog 72 1 1 = true := by kernel_rfl
theorem ty_agg_api_Frac : aggTy Try.prog 100 4 = true := by kernel_rfl
theorem ty_zero_api_Frac : zeroOf Try.prog 100 [.bool false, .slice none 0 0, .bool false, .slice none 0 0] := by unfold zeroOf; kernel_rfl
theorem ty_pl_api_Frac : placesOf Try.prog 100 #[(0, 2), (2, 2)] := ⟨_, Try.underlying100, fun w => by kernel_rfl⟩
theorem ty_f0_api_Frac : fieldAt Try.prog 100 0 0 = true := by kernel_rfl
theorem ty_f1_api_Frac : fieldAt Try.prog 100 1 2 = true := by kernel_rfl
theorem ty_agg_collatorref02_Frac : aggTy Try.prog 130 4 = true := by kernel_rfl
theorem ty_zero_collatorref02_Frac : zeroOf Try.prog 130 [.bool false, .slice none 0 0, .bool false, .slice none 0 0] := by unfold zeroOf; kernel_rfl
theorem ty_pl_collatorref02_Frac : placesOf Try.prog 130 #[(0, 2), (2, 2)] := ⟨_, Try.underlying130, fun w => by kernel_rfl⟩
theorem ty_f0_collatorref02_Frac : fieldAt Try.prog 130 0 0 = true := by kernel_rfl
theorem ty_f1_collatorref02_Frac : fieldAt Try.prog 130 1 2 = true := by kernel_rfl
theorem ty_one_bool : oneTy Try.prog 4 = true := by kernel_rfl
theorem ty_one___uint32 : oneTy Try.prog 67 = true := by kernel_rfl
theorem ty_one___int : oneTy Try.prog 35 = true := by kernel_rfl
theorem hb_collator_whole_Of : hasBody Try.prog 66 = true := by kernel_rfl
theorem hb_collator_whole_Add : hasBody Try.prog 52 = true := by kernel_rfl
theorem hb_collator_whole_Mul : hasBody Try.prog 55 = true := by kernel_rfl
theorem hb_collator_whole_Gcd : hasBody Try.prog 59 = true := by kernel_rfl
theorem hb_collator_whole_Cmp : hasBody Try.prog 61 = true := by kernel_rfl
theorem hb_collator_whole_Div : hasBody Try.prog 49 = true := by kernel_rfl
theorem hb_collator_whole_Neg : hasBody Try.prog 57 = true := by kernel_rfl
theorem hb_collator_whole_Text : hasBody Try.prog 63 = true := by kernel_rfl
theorem hb_collator_whole_Right : hasBody Try.prog 69 = true := by kernel_rfl
theorem hb_collator_whole_Small : hasBody Try.prog 65 = true := by kernel_rfl
theorem hb_collator_whole_Parse : hasBody Try.prog 67 = true := by kernel_rfl
theorem hb_collator_collatorref01_Of : hasBody Try.prog 48 = true := by kernel_rfl
theorem hb_collator_collatorref01_Form : hasBody Try.prog 53 = true := by kernel_rfl
theorem hb_collator_collatorref01_Add : hasBody Try.prog 54 = true := by kernel_rfl
theorem hb_collator_collatorref01_Mul : hasBody Try.prog 56 = true := by kernel_rfl
theorem hb_collator_collatorref01_Neg : hasBody Try.prog 58 = true := by kernel_rfl
theorem hb_collator_collatorref01_Cmp : hasBody Try.prog 62 = true := by kernel_rfl
theorem hb_collator_collatorref01_Int : hasBody Try.prog 71 = true := by kernel_rfl
theorem hb_collator_collatorref01_Text : hasBody Try.prog 64 = true := by kernel_rfl
theorem hb_collator_collatorref01_make1 : hasBody Try.prog 117 = true := by kernel_rfl
theorem hb_collator_collatorref01_Same : hasBody Try.prog 51 = true := by kernel_rfl
theorem hb_collator_collatorref01_Div : hasBody Try.prog 50 = true := by kernel_rfl
theorem hb_collator_collatorref01_Gcd : hasBody Try.prog 60 = true := by kernel_rfl
theorem hb_collator_collatorref01_Right : hasBody Try.prog 70 = true := by kernel_rfl
theorem hb_collator_collatorref01_Parse : hasBody Try.prog 68 = true := by kernel_rfl
theorem hb_collator_collatorlaw01_speaks : hasBody Try.prog 46 = true := by kernel_rfl
theorem hb_collator_collatorlaw01_Odd : hasBody Try.prog 47 = true := by kernel_rfl
theorem hb_collator_frac_under : hasBody Try.prog 134 = true := by kernel_rfl
theorem hb_collator_frac_zero : hasBody Try.prog 149 = true := by kernel_rfl
theorem hb_collator_frac_cross : hasBody Try.prog 133 = true := by kernel_rfl
theorem hb_collator_frac_Make : hasBody Try.prog 90 = true := by kernel_rfl
theorem hb_collator_frac_Of : hasBody Try.prog 77 = true := by kernel_rfl
theorem hb_collator_frac_Add : hasBody Try.prog 96 = true := by kernel_rfl
theorem hb_collator_frac_Mul : hasBody Try.prog 75 = true := by kernel_rfl
theorem hb_collator_frac_Div : hasBody Try.prog 78 = true := by kernel_rfl
theorem hb_collator_frac_Neg : hasBody Try.prog 76 = true := by kernel_rfl
theorem hb_collator_frac_Cmp : hasBody Try.prog 74 = true := by kernel_rfl
theorem hb_collator_frac_Floor : hasBody Try.prog 94 = true := by kernel_rfl
theorem hb_collator_frac_Text : hasBody Try.prog 102 = true := by kernel_rfl
theorem hb_collator_frac_Right : hasBody Try.prog 87 = true := by kernel_rfl
theorem hb_collator_collatorref02_Of : hasBody Try.prog 93 = true := by kernel_rfl
theorem hb_collator_collatorref02_Int : hasBody Try.prog 150 = true := by kernel_rfl
theorem hb_collator_collatorref02_Make : hasBody Try.prog 92 = true := by kernel_rfl
theorem hb_collator_collatorref02_Form : hasBody Try.prog 91 = true := by kernel_rfl
theorem hb_collator_collatorref02_Add : hasBody Try.prog 97 = true := by kernel_rfl
theorem hb_collator_collatorref02_Neg : hasBody Try.prog 100 = true := by kernel_rfl
theorem hb_collator_collatorref02_Mul : hasBody Try.prog 98 = true := by kernel_rfl
theorem hb_collator_collatorref02_Div : hasBody Try.prog 99 = true := by kernel_rfl
theorem hb_collator_collatorref02_Cmp : hasBody Try.prog 101 = true := by kernel_rfl
theorem hb_collator_collatorref02_Floor : hasBody Try.prog 95 = true := by kernel_rfl
theorem hb_collator_collatorref02_Right : hasBody Try.prog 88 = true := by kernel_rfl
theorem hb_collator_collatorref02_Same : hasBody Try.prog 89 = true := by kernel_rfl
theorem hb_collator_collatorref02_Text : hasBody Try.prog 103 = true := by kernel_rfl
theorem hb_collator_collatorlaw02_speaks : hasBody Try.prog 72 = true := by kernel_rfl
theorem hb_collator_collatorlaw02_Odd : hasBody Try.prog 73 = true := by kernel_rfl
end Go.Proofs.Ytogodjiemgilaaa
