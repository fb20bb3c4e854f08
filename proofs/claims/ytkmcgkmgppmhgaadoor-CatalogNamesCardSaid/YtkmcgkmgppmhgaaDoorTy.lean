/- Closed facts on the types of this seat's translation, written by a program of mine (tyfacts.py). -/
import Derived.Test.YtkmcgkmgppmhgaaDoorChecked
import Derived.Test.YtkmcgkmgppmhgaaDoorOwn3
namespace Go.Proofs.YtkmcgkmgppmhgaaDoor
open Go.SL
theorem z1 : zeroTy Tryd.prog 1 = some ([.nilFunc]) := by kernel_rfl
theorem z2 : zeroTy Tryd.prog 2 = some ([.int .i64 0]) := by kernel_rfl
theorem z3 : zeroTy Tryd.prog 3 = some ([.int .i64 0]) := by kernel_rfl
theorem z4 : zeroTy Tryd.prog 4 = some ([.bool false]) := by kernel_rfl
theorem z5 : zeroTy Tryd.prog 5 = some ([.int .u8 0]) := by kernel_rfl
theorem z6 : zeroTy Tryd.prog 6 = some ([.int .u8 0]) := by kernel_rfl
theorem z7 : zeroTy Tryd.prog 7 = some ([.int .i64 0, .int .i64 0, .bool false, .int .u8 0]) := by kernel_rfl
theorem fo7_0 : fieldOff Tryd.prog 7 0 = some 0 := by kernel_rfl
theorem fo7_1 : fieldOff Tryd.prog 7 1 = some 1 := by kernel_rfl
theorem fo7_2 : fieldOff Tryd.prog 7 2 = some 2 := by kernel_rfl
theorem fo7_3 : fieldOff Tryd.prog 7 3 = some 3 := by kernel_rfl
theorem z8 : zeroTy Tryd.prog 8 = some ([.int .i64 0, .int .i64 0, .bool false, .int .u8 0]) := by kernel_rfl
theorem fo8_0 : fieldOff Tryd.prog 8 0 = some 0 := by kernel_rfl
theorem fo8_1 : fieldOff Tryd.prog 8 1 = some 1 := by kernel_rfl
theorem fo8_2 : fieldOff Tryd.prog 8 2 = some 2 := by kernel_rfl
theorem fo8_3 : fieldOff Tryd.prog 8 3 = some 3 := by kernel_rfl
theorem z9 : zeroTy Tryd.prog 9 = some ([.string ⟨#[]⟩]) := by kernel_rfl
theorem z10 : zeroTy Tryd.prog 10 = some ([.string ⟨#[]⟩]) := by kernel_rfl
theorem z11 : zeroTy Tryd.prog 11 = some ([.string ⟨#[]⟩]) := by kernel_rfl
theorem z12 : zeroTy Tryd.prog 12 = some ([.int .u64 0]) := by kernel_rfl
theorem z13 : zeroTy Tryd.prog 13 = some ([.string ⟨#[]⟩, .int .u64 0]) := by kernel_rfl
theorem fo13_0 : fieldOff Tryd.prog 13 0 = some 0 := by kernel_rfl
theorem fo13_1 : fieldOff Tryd.prog 13 1 = some 1 := by kernel_rfl
theorem z14 : zeroTy Tryd.prog 14 = some ([.string ⟨#[]⟩, .int .u64 0]) := by kernel_rfl
theorem fo14_0 : fieldOff Tryd.prog 14 0 = some 0 := by kernel_rfl
theorem fo14_1 : fieldOff Tryd.prog 14 1 = some 1 := by kernel_rfl
theorem z15 : zeroTy Tryd.prog 15 = some ([.pointer none]) := by kernel_rfl
theorem z16 : zeroTy Tryd.prog 16 = some ([.pointer none]) := by kernel_rfl
theorem z17 : zeroTy Tryd.prog 17 = some ([.pointer none]) := by kernel_rfl
theorem z18 : zeroTy Tryd.prog 18 = some ([.pointer none]) := by kernel_rfl
theorem fo18_0 : fieldOff Tryd.prog 18 0 = some 0 := by kernel_rfl
theorem z19 : zeroTy Tryd.prog 19 = some ([.pointer none]) := by kernel_rfl
theorem fo19_0 : fieldOff Tryd.prog 19 0 = some 0 := by kernel_rfl
theorem z20 : zeroTy Tryd.prog 20 = some ([.nilIface]) := by kernel_rfl
theorem z21 : zeroTy Tryd.prog 21 = some ([.int .i32 0]) := by kernel_rfl
theorem z22 : zeroTy Tryd.prog 22 = some ([.int .u64 0]) := by kernel_rfl
theorem z23 : zeroTy Tryd.prog 23 = some ([.nilFunc]) := by kernel_rfl
theorem z24 : zeroTy Tryd.prog 24 = some ([.nilFunc]) := by kernel_rfl
theorem z25 : zeroTy Tryd.prog 25 = some ([.nilFunc]) := by kernel_rfl
theorem E26 : ElemTy Tryd.prog 26 5 1 1 := ⟨by kernel_rfl, by kernel_rfl, by decide⟩
theorem z26 : zeroTy Tryd.prog 26 = some ([.slice none 0 0]) := by kernel_rfl
theorem z27 : zeroTy Tryd.prog 27 = some ([.int .u64 0]) := by kernel_rfl
theorem z28 : zeroTy Tryd.prog 28 = some ([.nilFunc]) := by kernel_rfl
theorem z29 : zeroTy Tryd.prog 29 = some (List.replicate 24 (.int .u8 0)) := by kernel_rfl
theorem ar29 : arrTy Tryd.prog 29 = some (24, 1) := by kernel_rfl
theorem z30 : zeroTy Tryd.prog 30 = some ([.nilFunc]) := by kernel_rfl
theorem z31 : zeroTy Tryd.prog 31 = some ([.nilFunc]) := by kernel_rfl
theorem z33 : zeroTy Tryd.prog 33 = some ([.nilFunc]) := by kernel_rfl
theorem z34 : zeroTy Tryd.prog 34 = some ([.nilFunc]) := by kernel_rfl
theorem z35 : zeroTy Tryd.prog 35 = some ([.nilFunc]) := by kernel_rfl
theorem z36 : zeroTy Tryd.prog 36 = some (List.replicate 20 (.int .u64 0)) := by kernel_rfl
theorem ar36 : arrTy Tryd.prog 36 = some (20, 1) := by kernel_rfl
theorem z37 : zeroTy Tryd.prog 37 = some ([.int .u32 0]) := by kernel_rfl
theorem z38 : zeroTy Tryd.prog 38 = some (List.replicate 65 (.int .u8 0)) := by kernel_rfl
theorem ar38 : arrTy Tryd.prog 38 = some (65, 1) := by kernel_rfl
theorem z39 : zeroTy Tryd.prog 39 = some ([.nilFunc]) := by kernel_rfl
theorem z40 : zeroTy Tryd.prog 40 = some ([.nilFunc]) := by kernel_rfl
theorem z41 : zeroTy Tryd.prog 41 = some ([.nilFunc]) := by kernel_rfl
theorem z42 : zeroTy Tryd.prog 42 = some (List.replicate 32 (.int .u8 0)) := by kernel_rfl
theorem ar42 : arrTy Tryd.prog 42 = some (32, 1) := by kernel_rfl
theorem z43 : zeroTy Tryd.prog 43 = some (List.replicate 64 (.int .u8 0)) := by kernel_rfl
theorem ar43 : arrTy Tryd.prog 43 = some (64, 1) := by kernel_rfl
theorem z44 : zeroTy Tryd.prog 44 = some ([.nilFunc]) := by kernel_rfl
theorem z45 : zeroTy Tryd.prog 45 = some ([.pointer none, .pointer none, .pointer none, .string ⟨#[]⟩]) := by kernel_rfl
theorem fo45_0 : fieldOff Tryd.prog 45 0 = some 0 := by kernel_rfl
theorem fo45_1 : fieldOff Tryd.prog 45 1 = some 1 := by kernel_rfl
theorem fo45_2 : fieldOff Tryd.prog 45 2 = some 2 := by kernel_rfl
theorem fo45_3 : fieldOff Tryd.prog 45 3 = some 3 := by kernel_rfl
theorem z46 : zeroTy Tryd.prog 46 = some ([.pointer none, .pointer none, .pointer none, .string ⟨#[]⟩]) := by kernel_rfl
theorem fo46_0 : fieldOff Tryd.prog 46 0 = some 0 := by kernel_rfl
theorem fo46_1 : fieldOff Tryd.prog 46 1 = some 1 := by kernel_rfl
theorem fo46_2 : fieldOff Tryd.prog 46 2 = some 2 := by kernel_rfl
theorem fo46_3 : fieldOff Tryd.prog 46 3 = some 3 := by kernel_rfl
theorem z50 : zeroTy Tryd.prog 50 = some ([.nilFunc]) := by kernel_rfl
theorem z51 : zeroTy Tryd.prog 51 = some ([.int .u8 0]) := by kernel_rfl
theorem z52 : zeroTy Tryd.prog 52 = some ([.int .u8 0]) := by kernel_rfl
theorem z53 : zeroTy Tryd.prog 53 = some ([.nilFunc]) := by kernel_rfl
theorem z54 : zeroTy Tryd.prog 54 = some ([.pointer none]) := by kernel_rfl
theorem z55 : zeroTy Tryd.prog 55 = some ([.int .i32 0]) := by kernel_rfl
theorem z56 : zeroTy Tryd.prog 56 = some ([.int .i32 0]) := by kernel_rfl
theorem z57 : zeroTy Tryd.prog 57 = some ([.int .u64 0, .int .u64 0, .int .u32 0, .int .u8 0, .int .u8 0, .int .u8 0, .int .u8 0, .nilFunc, .pointer none, .int .i32 0, .int .i32 0]) := by kernel_rfl
theorem fo57_0 : fieldOff Tryd.prog 57 0 = some 0 := by kernel_rfl
theorem fo57_1 : fieldOff Tryd.prog 57 1 = some 1 := by kernel_rfl
theorem fo57_2 : fieldOff Tryd.prog 57 2 = some 2 := by kernel_rfl
theorem fo57_3 : fieldOff Tryd.prog 57 3 = some 3 := by kernel_rfl
theorem fo57_4 : fieldOff Tryd.prog 57 4 = some 4 := by kernel_rfl
theorem fo57_5 : fieldOff Tryd.prog 57 5 = some 5 := by kernel_rfl
theorem fo57_6 : fieldOff Tryd.prog 57 6 = some 6 := by kernel_rfl
theorem fo57_7 : fieldOff Tryd.prog 57 7 = some 7 := by kernel_rfl
theorem fo57_8 : fieldOff Tryd.prog 57 8 = some 8 := by kernel_rfl
theorem fo57_9 : fieldOff Tryd.prog 57 9 = some 9 := by kernel_rfl
theorem fo57_10 : fieldOff Tryd.prog 57 10 = some 10 := by kernel_rfl
theorem z58 : zeroTy Tryd.prog 58 = some ([.int .u64 0, .int .u64 0, .int .u32 0, .int .u8 0, .int .u8 0, .int .u8 0, .int .u8 0, .nilFunc, .pointer none, .int .i32 0, .int .i32 0]) := by kernel_rfl
theorem fo58_0 : fieldOff Tryd.prog 58 0 = some 0 := by kernel_rfl
theorem fo58_1 : fieldOff Tryd.prog 58 1 = some 1 := by kernel_rfl
theorem fo58_2 : fieldOff Tryd.prog 58 2 = some 2 := by kernel_rfl
theorem fo58_3 : fieldOff Tryd.prog 58 3 = some 3 := by kernel_rfl
theorem fo58_4 : fieldOff Tryd.prog 58 4 = some 4 := by kernel_rfl
theorem fo58_5 : fieldOff Tryd.prog 58 5 = some 5 := by kernel_rfl
theorem fo58_6 : fieldOff Tryd.prog 58 6 = some 6 := by kernel_rfl
theorem fo58_7 : fieldOff Tryd.prog 58 7 = some 7 := by kernel_rfl
theorem fo58_8 : fieldOff Tryd.prog 58 8 = some 8 := by kernel_rfl
theorem fo58_9 : fieldOff Tryd.prog 58 9 = some 9 := by kernel_rfl
theorem fo58_10 : fieldOff Tryd.prog 58 10 = some 10 := by kernel_rfl
theorem z59 : zeroTy Tryd.prog 59 = some ([.pointer none]) := by kernel_rfl
end Go.Proofs.YtkmcgkmgppmhgaaDoor
