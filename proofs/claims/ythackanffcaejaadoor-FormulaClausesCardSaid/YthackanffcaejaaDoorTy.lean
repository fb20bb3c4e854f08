/- Closed facts on the types of this seat's translation, written by a program of mine (tyfacts.py). -/
import Derived.Test.YthackanffcaejaaDoorChecked
import Derived.Test.YthackanffcaejaaDoorMore
namespace Go.Proofs.YthackanffcaejaaDoor
open Go.SL
theorem z1 : zeroTy Tryd.prog 1 = some ([.nilFunc]) := by kernel_rfl
theorem z2 : zeroTy Tryd.prog 2 = some ([.int .i64 0]) := by kernel_rfl
theorem z3 : zeroTy Tryd.prog 3 = some ([.int .i64 0]) := by kernel_rfl
theorem z4 : zeroTy Tryd.prog 4 = some ([.bool false]) := by kernel_rfl
theorem z5 : zeroTy Tryd.prog 5 = some ([.int .u8 0]) := by kernel_rfl
theorem z6 : zeroTy Tryd.prog 6 = some ([.int .u8 0]) := by kernel_rfl
theorem sz7 : sizeTy Tryd.prog 7 = some 4 := by kernel_rfl
theorem z7 : zeroTy Tryd.prog 7 = some ([.int .i64 0, .int .i64 0, .bool false, .int .u8 0]) := by kernel_rfl
theorem fc7_0 : fieldCell Tryd.prog 7 0 = some 0 := by kernel_rfl
theorem fo7_0 : fieldOff Tryd.prog 7 0 = some 0 := by kernel_rfl
theorem fc7_1 : fieldCell Tryd.prog 7 1 = some 1 := by kernel_rfl
theorem fo7_1 : fieldOff Tryd.prog 7 1 = some 1 := by kernel_rfl
theorem fc7_2 : fieldCell Tryd.prog 7 2 = some 2 := by kernel_rfl
theorem fo7_2 : fieldOff Tryd.prog 7 2 = some 2 := by kernel_rfl
theorem fc7_3 : fieldCell Tryd.prog 7 3 = some 3 := by kernel_rfl
theorem fo7_3 : fieldOff Tryd.prog 7 3 = some 3 := by kernel_rfl
theorem sz8 : sizeTy Tryd.prog 8 = some 4 := by kernel_rfl
theorem z8 : zeroTy Tryd.prog 8 = some ([.int .i64 0, .int .i64 0, .bool false, .int .u8 0]) := by kernel_rfl
theorem fc8_0 : fieldCell Tryd.prog 8 0 = some 0 := by kernel_rfl
theorem fo8_0 : fieldOff Tryd.prog 8 0 = some 0 := by kernel_rfl
theorem fc8_1 : fieldCell Tryd.prog 8 1 = some 1 := by kernel_rfl
theorem fo8_1 : fieldOff Tryd.prog 8 1 = some 1 := by kernel_rfl
theorem fc8_2 : fieldCell Tryd.prog 8 2 = some 2 := by kernel_rfl
theorem fo8_2 : fieldOff Tryd.prog 8 2 = some 2 := by kernel_rfl
theorem fc8_3 : fieldCell Tryd.prog 8 3 = some 3 := by kernel_rfl
theorem fo8_3 : fieldOff Tryd.prog 8 3 = some 3 := by kernel_rfl
theorem z9 : zeroTy Tryd.prog 9 = some ([.string ⟨#[]⟩]) := by kernel_rfl
theorem z10 : zeroTy Tryd.prog 10 = some ([.string ⟨#[]⟩]) := by kernel_rfl
theorem z11 : zeroTy Tryd.prog 11 = some ([.string ⟨#[]⟩]) := by kernel_rfl
theorem z12 : zeroTy Tryd.prog 12 = some ([.int .u64 0]) := by kernel_rfl
theorem sz13 : sizeTy Tryd.prog 13 = some 2 := by kernel_rfl
theorem z13 : zeroTy Tryd.prog 13 = some ([.string ⟨#[]⟩, .int .u64 0]) := by kernel_rfl
theorem fc13_0 : fieldCell Tryd.prog 13 0 = some 0 := by kernel_rfl
theorem fo13_0 : fieldOff Tryd.prog 13 0 = some 0 := by kernel_rfl
theorem fc13_1 : fieldCell Tryd.prog 13 1 = some 1 := by kernel_rfl
theorem fo13_1 : fieldOff Tryd.prog 13 1 = some 1 := by kernel_rfl
theorem sz14 : sizeTy Tryd.prog 14 = some 2 := by kernel_rfl
theorem z14 : zeroTy Tryd.prog 14 = some ([.string ⟨#[]⟩, .int .u64 0]) := by kernel_rfl
theorem fc14_0 : fieldCell Tryd.prog 14 0 = some 0 := by kernel_rfl
theorem fo14_0 : fieldOff Tryd.prog 14 0 = some 0 := by kernel_rfl
theorem fc14_1 : fieldCell Tryd.prog 14 1 = some 1 := by kernel_rfl
theorem fo14_1 : fieldOff Tryd.prog 14 1 = some 1 := by kernel_rfl
theorem z15 : zeroTy Tryd.prog 15 = some ([.pointer none]) := by kernel_rfl
theorem z16 : zeroTy Tryd.prog 16 = some ([.pointer none]) := by kernel_rfl
theorem z17 : zeroTy Tryd.prog 17 = some ([.pointer none]) := by kernel_rfl
theorem sz18 : sizeTy Tryd.prog 18 = some 1 := by kernel_rfl
theorem z18 : zeroTy Tryd.prog 18 = some ([.pointer none]) := by kernel_rfl
theorem fc18_0 : fieldCell Tryd.prog 18 0 = some 0 := by kernel_rfl
theorem fo18_0 : fieldOff Tryd.prog 18 0 = some 0 := by kernel_rfl
theorem sz19 : sizeTy Tryd.prog 19 = some 1 := by kernel_rfl
theorem z19 : zeroTy Tryd.prog 19 = some ([.pointer none]) := by kernel_rfl
theorem fc19_0 : fieldCell Tryd.prog 19 0 = some 0 := by kernel_rfl
theorem fo19_0 : fieldOff Tryd.prog 19 0 = some 0 := by kernel_rfl
theorem z20 : zeroTy Tryd.prog 20 = some ([.nilIface]) := by kernel_rfl
theorem z21 : zeroTy Tryd.prog 21 = some ([.int .i32 0]) := by kernel_rfl
theorem E22 : ElemTy Tryd.prog 22 3 1 8 := ⟨by kernel_rfl, by kernel_rfl, by decide⟩
theorem z22 : zeroTy Tryd.prog 22 = some ([.slice none 0 0]) := by kernel_rfl
theorem sz23 : sizeTy Tryd.prog 23 = some 3 := by kernel_rfl
theorem z23 : zeroTy Tryd.prog 23 = some ([.int .i64 0, .slice none 0 0, .slice none 0 0]) := by kernel_rfl
theorem fc23_0 : fieldCell Tryd.prog 23 0 = some 0 := by kernel_rfl
theorem fo23_0 : fieldOff Tryd.prog 23 0 = some 0 := by kernel_rfl
theorem fc23_1 : fieldCell Tryd.prog 23 1 = some 1 := by kernel_rfl
theorem fo23_1 : fieldOff Tryd.prog 23 1 = some 1 := by kernel_rfl
theorem fc23_2 : fieldCell Tryd.prog 23 2 = some 2 := by kernel_rfl
theorem fo23_2 : fieldOff Tryd.prog 23 2 = some 2 := by kernel_rfl
theorem sz24 : sizeTy Tryd.prog 24 = some 3 := by kernel_rfl
theorem z24 : zeroTy Tryd.prog 24 = some ([.int .i64 0, .slice none 0 0, .slice none 0 0]) := by kernel_rfl
theorem fc24_0 : fieldCell Tryd.prog 24 0 = some 0 := by kernel_rfl
theorem fo24_0 : fieldOff Tryd.prog 24 0 = some 0 := by kernel_rfl
theorem fc24_1 : fieldCell Tryd.prog 24 1 = some 1 := by kernel_rfl
theorem fo24_1 : fieldOff Tryd.prog 24 1 = some 1 := by kernel_rfl
theorem fc24_2 : fieldCell Tryd.prog 24 2 = some 2 := by kernel_rfl
theorem fo24_2 : fieldOff Tryd.prog 24 2 = some 2 := by kernel_rfl
theorem z25 : zeroTy Tryd.prog 25 = some ([.int .i64 0]) := by kernel_rfl
theorem z27 : zeroTy Tryd.prog 27 = some ([.nilFunc]) := by kernel_rfl
theorem z28 : zeroTy Tryd.prog 28 = some ([.nilFunc]) := by kernel_rfl
theorem z29 : zeroTy Tryd.prog 29 = some ([.nilFunc]) := by kernel_rfl
theorem sz30 : sizeTy Tryd.prog 30 = some 2 := by kernel_rfl
theorem z30 : zeroTy Tryd.prog 30 = some ([.int .i64 0, .int .i64 0]) := by kernel_rfl
theorem fc30_0 : fieldCell Tryd.prog 30 0 = some 0 := by kernel_rfl
theorem fo30_0 : fieldOff Tryd.prog 30 0 = some 0 := by kernel_rfl
theorem fc30_1 : fieldCell Tryd.prog 30 1 = some 1 := by kernel_rfl
theorem fo30_1 : fieldOff Tryd.prog 30 1 = some 1 := by kernel_rfl
theorem sz31 : sizeTy Tryd.prog 31 = some 2 := by kernel_rfl
theorem z31 : zeroTy Tryd.prog 31 = some ([.int .i64 0, .int .i64 0]) := by kernel_rfl
theorem fc31_0 : fieldCell Tryd.prog 31 0 = some 0 := by kernel_rfl
theorem fo31_0 : fieldOff Tryd.prog 31 0 = some 0 := by kernel_rfl
theorem fc31_1 : fieldCell Tryd.prog 31 1 = some 1 := by kernel_rfl
theorem fo31_1 : fieldOff Tryd.prog 31 1 = some 1 := by kernel_rfl
theorem sz32 : sizeTy Tryd.prog 32 = some 3 := by kernel_rfl
theorem z32 : zeroTy Tryd.prog 32 = some ([.int .i64 0, .int .i64 0, .int .i64 0]) := by kernel_rfl
theorem fc32_0 : fieldCell Tryd.prog 32 0 = some 0 := by kernel_rfl
theorem fo32_0 : fieldOff Tryd.prog 32 0 = some 0 := by kernel_rfl
theorem fo32_1 : fieldOff Tryd.prog 32 1 = some 1 := by kernel_rfl
theorem sz33 : sizeTy Tryd.prog 33 = some 3 := by kernel_rfl
theorem z33 : zeroTy Tryd.prog 33 = some ([.int .i64 0, .int .i64 0, .int .i64 0]) := by kernel_rfl
theorem fc33_0 : fieldCell Tryd.prog 33 0 = some 0 := by kernel_rfl
theorem fo33_0 : fieldOff Tryd.prog 33 0 = some 0 := by kernel_rfl
theorem fo33_1 : fieldOff Tryd.prog 33 1 = some 1 := by kernel_rfl
theorem z35 : zeroTy Tryd.prog 35 = some ([.nilFunc]) := by kernel_rfl
theorem z36 : zeroTy Tryd.prog 36 = some ([.nilFunc]) := by kernel_rfl
theorem E37 : ElemTy Tryd.prog 37 77 2 16 := ⟨by kernel_rfl, by kernel_rfl, by decide⟩
theorem z37 : zeroTy Tryd.prog 37 = some ([.slice none 0 0]) := by kernel_rfl
theorem z38 : zeroTy Tryd.prog 38 = some ([.nilFunc]) := by kernel_rfl
theorem z39 : zeroTy Tryd.prog 39 = some ([.nilFunc]) := by kernel_rfl
theorem z40 : zeroTy Tryd.prog 40 = some ([.nilFunc]) := by kernel_rfl
theorem z42 : zeroTy Tryd.prog 42 = some ([.nilFunc]) := by kernel_rfl
theorem z43 : zeroTy Tryd.prog 43 = some ([.nilFunc]) := by kernel_rfl
theorem z45 : zeroTy Tryd.prog 45 = some ([.nilFunc]) := by kernel_rfl
theorem z46 : zeroTy Tryd.prog 46 = some ([.pointer none]) := by kernel_rfl
theorem E47 : ElemTy Tryd.prog 47 5 1 1 := ⟨by kernel_rfl, by kernel_rfl, by decide⟩
theorem z47 : zeroTy Tryd.prog 47 = some ([.slice none 0 0]) := by kernel_rfl
theorem sz48 : sizeTy Tryd.prog 48 = some 2 := by kernel_rfl
theorem z48 : zeroTy Tryd.prog 48 = some ([.pointer none, .slice none 0 0]) := by kernel_rfl
theorem fc48_0 : fieldCell Tryd.prog 48 0 = some 0 := by kernel_rfl
theorem fo48_0 : fieldOff Tryd.prog 48 0 = some 0 := by kernel_rfl
theorem fc48_1 : fieldCell Tryd.prog 48 1 = some 1 := by kernel_rfl
theorem fo48_1 : fieldOff Tryd.prog 48 1 = some 1 := by kernel_rfl
theorem sz49 : sizeTy Tryd.prog 49 = some 2 := by kernel_rfl
theorem z49 : zeroTy Tryd.prog 49 = some ([.pointer none, .slice none 0 0]) := by kernel_rfl
theorem fc49_0 : fieldCell Tryd.prog 49 0 = some 0 := by kernel_rfl
theorem fo49_0 : fieldOff Tryd.prog 49 0 = some 0 := by kernel_rfl
theorem fc49_1 : fieldCell Tryd.prog 49 1 = some 1 := by kernel_rfl
theorem fo49_1 : fieldOff Tryd.prog 49 1 = some 1 := by kernel_rfl
theorem z50 : zeroTy Tryd.prog 50 = some ([.nilIface]) := by kernel_rfl
theorem z51 : zeroTy Tryd.prog 51 = some ([.nilIface]) := by kernel_rfl
theorem z53 : zeroTy Tryd.prog 53 = some ([.nilFunc]) := by kernel_rfl
theorem z54 : zeroTy Tryd.prog 54 = some ([.nilFunc]) := by kernel_rfl
theorem z55 : zeroTy Tryd.prog 55 = some ([.nilFunc]) := by kernel_rfl
theorem z56 : zeroTy Tryd.prog 56 = some ([.nilFunc]) := by kernel_rfl
theorem z57 : zeroTy Tryd.prog 57 = some ([.nilFunc]) := by kernel_rfl
theorem z58 : zeroTy Tryd.prog 58 = some ([.nilFunc]) := by kernel_rfl
theorem z59 : zeroTy Tryd.prog 59 = some ([.nilFunc]) := by kernel_rfl
theorem E60 : ElemTy Tryd.prog 60 64 1 24 := ⟨by kernel_rfl, by kernel_rfl, by decide⟩
theorem z60 : zeroTy Tryd.prog 60 = some ([.slice none 0 0]) := by kernel_rfl
theorem z61 : zeroTy Tryd.prog 61 = some ([.nilFunc]) := by kernel_rfl
theorem z63 : zeroTy Tryd.prog 63 = some ([.nilFunc]) := by kernel_rfl
theorem E64 : ElemTy Tryd.prog 64 117 2 24 := ⟨by kernel_rfl, by kernel_rfl, by decide⟩
theorem z64 : zeroTy Tryd.prog 64 = some ([.slice none 0 0]) := by kernel_rfl
theorem z66 : zeroTy Tryd.prog 66 = some ([.nilFunc]) := by kernel_rfl
theorem z67 : zeroTy Tryd.prog 67 = some ([.pointer none]) := by kernel_rfl
theorem E68 : ElemTy Tryd.prog 68 73 3 32 := ⟨by kernel_rfl, by kernel_rfl, by decide⟩
theorem z68 : zeroTy Tryd.prog 68 = some ([.slice none 0 0]) := by kernel_rfl
theorem z69 : zeroTy Tryd.prog 69 = some ([.nilFunc]) := by kernel_rfl
theorem z70 : zeroTy Tryd.prog 70 = some ([.nilFunc]) := by kernel_rfl
theorem z71 : zeroTy Tryd.prog 71 = some ([.nilFunc]) := by kernel_rfl
theorem sz72 : sizeTy Tryd.prog 72 = some 3 := by kernel_rfl
theorem z72 : zeroTy Tryd.prog 72 = some ([.string ⟨#[]⟩, .int .i64 0, .int .i64 0]) := by kernel_rfl
theorem fc72_0 : fieldCell Tryd.prog 72 0 = some 0 := by kernel_rfl
theorem fo72_0 : fieldOff Tryd.prog 72 0 = some 0 := by kernel_rfl
theorem fc72_1 : fieldCell Tryd.prog 72 1 = some 1 := by kernel_rfl
theorem fo72_1 : fieldOff Tryd.prog 72 1 = some 1 := by kernel_rfl
theorem fc72_2 : fieldCell Tryd.prog 72 2 = some 2 := by kernel_rfl
theorem fo72_2 : fieldOff Tryd.prog 72 2 = some 2 := by kernel_rfl
theorem sz73 : sizeTy Tryd.prog 73 = some 3 := by kernel_rfl
theorem z73 : zeroTy Tryd.prog 73 = some ([.string ⟨#[]⟩, .int .i64 0, .int .i64 0]) := by kernel_rfl
theorem fc73_0 : fieldCell Tryd.prog 73 0 = some 0 := by kernel_rfl
theorem fo73_0 : fieldOff Tryd.prog 73 0 = some 0 := by kernel_rfl
theorem fc73_1 : fieldCell Tryd.prog 73 1 = some 1 := by kernel_rfl
theorem fo73_1 : fieldOff Tryd.prog 73 1 = some 1 := by kernel_rfl
theorem fc73_2 : fieldCell Tryd.prog 73 2 = some 2 := by kernel_rfl
theorem fo73_2 : fieldOff Tryd.prog 73 2 = some 2 := by kernel_rfl
theorem z75 : zeroTy Tryd.prog 75 = some ([.nilFunc]) := by kernel_rfl
theorem sz76 : sizeTy Tryd.prog 76 = some 2 := by kernel_rfl
theorem z76 : zeroTy Tryd.prog 76 = some ([.int .i64 0, .int .i64 0]) := by kernel_rfl
theorem fc76_0 : fieldCell Tryd.prog 76 0 = some 0 := by kernel_rfl
theorem fo76_0 : fieldOff Tryd.prog 76 0 = some 0 := by kernel_rfl
theorem fc76_1 : fieldCell Tryd.prog 76 1 = some 1 := by kernel_rfl
theorem fo76_1 : fieldOff Tryd.prog 76 1 = some 1 := by kernel_rfl
theorem sz77 : sizeTy Tryd.prog 77 = some 2 := by kernel_rfl
theorem z77 : zeroTy Tryd.prog 77 = some ([.int .i64 0, .int .i64 0]) := by kernel_rfl
theorem fc77_0 : fieldCell Tryd.prog 77 0 = some 0 := by kernel_rfl
theorem fo77_0 : fieldOff Tryd.prog 77 0 = some 0 := by kernel_rfl
theorem fc77_1 : fieldCell Tryd.prog 77 1 = some 1 := by kernel_rfl
theorem fo77_1 : fieldOff Tryd.prog 77 1 = some 1 := by kernel_rfl
theorem z78 : zeroTy Tryd.prog 78 = some ([.nilIface]) := by kernel_rfl
theorem z79 : zeroTy Tryd.prog 79 = some ([.nilIface]) := by kernel_rfl
theorem z80 : zeroTy Tryd.prog 80 = some ([.nilFunc]) := by kernel_rfl
theorem z81 : zeroTy Tryd.prog 81 = some ([.nilFunc]) := by kernel_rfl
theorem z82 : zeroTy Tryd.prog 82 = some ([.pointer none]) := by kernel_rfl
theorem z84 : zeroTy Tryd.prog 84 = some ([.nilFunc]) := by kernel_rfl
theorem sz85 : sizeTy Tryd.prog 85 = some 5 := by kernel_rfl
theorem z85 : zeroTy Tryd.prog 85 = some ([.slice none 0 0, .slice none 0 0, .slice none 0 0, .int .i64 0, .int .i64 0]) := by kernel_rfl
theorem fc85_0 : fieldCell Tryd.prog 85 0 = some 0 := by kernel_rfl
theorem fo85_0 : fieldOff Tryd.prog 85 0 = some 0 := by kernel_rfl
theorem fc85_1 : fieldCell Tryd.prog 85 1 = some 1 := by kernel_rfl
theorem fo85_1 : fieldOff Tryd.prog 85 1 = some 1 := by kernel_rfl
theorem fc85_2 : fieldCell Tryd.prog 85 2 = some 2 := by kernel_rfl
theorem fo85_2 : fieldOff Tryd.prog 85 2 = some 2 := by kernel_rfl
theorem fc85_3 : fieldCell Tryd.prog 85 3 = some 3 := by kernel_rfl
theorem fo85_3 : fieldOff Tryd.prog 85 3 = some 3 := by kernel_rfl
theorem fc85_4 : fieldCell Tryd.prog 85 4 = some 4 := by kernel_rfl
theorem fo85_4 : fieldOff Tryd.prog 85 4 = some 4 := by kernel_rfl
theorem sz86 : sizeTy Tryd.prog 86 = some 5 := by kernel_rfl
theorem z86 : zeroTy Tryd.prog 86 = some ([.slice none 0 0, .slice none 0 0, .slice none 0 0, .int .i64 0, .int .i64 0]) := by kernel_rfl
theorem fc86_0 : fieldCell Tryd.prog 86 0 = some 0 := by kernel_rfl
theorem fo86_0 : fieldOff Tryd.prog 86 0 = some 0 := by kernel_rfl
theorem fc86_1 : fieldCell Tryd.prog 86 1 = some 1 := by kernel_rfl
theorem fo86_1 : fieldOff Tryd.prog 86 1 = some 1 := by kernel_rfl
theorem fc86_2 : fieldCell Tryd.prog 86 2 = some 2 := by kernel_rfl
theorem fo86_2 : fieldOff Tryd.prog 86 2 = some 2 := by kernel_rfl
theorem fc86_3 : fieldCell Tryd.prog 86 3 = some 3 := by kernel_rfl
theorem fo86_3 : fieldOff Tryd.prog 86 3 = some 3 := by kernel_rfl
theorem fc86_4 : fieldCell Tryd.prog 86 4 = some 4 := by kernel_rfl
theorem fo86_4 : fieldOff Tryd.prog 86 4 = some 4 := by kernel_rfl
theorem z87 : zeroTy Tryd.prog 87 = some ([.pointer none]) := by kernel_rfl
theorem sz88 : sizeTy Tryd.prog 88 = some 4 := by kernel_rfl
theorem z88 : zeroTy Tryd.prog 88 = some ([.int .i64 0, .int .i64 0, .int .i64 0, .int .i64 0]) := by kernel_rfl
theorem fc88_0 : fieldCell Tryd.prog 88 0 = some 0 := by kernel_rfl
theorem fo88_0 : fieldOff Tryd.prog 88 0 = some 0 := by kernel_rfl
theorem fc88_1 : fieldCell Tryd.prog 88 1 = some 1 := by kernel_rfl
theorem fo88_1 : fieldOff Tryd.prog 88 1 = some 1 := by kernel_rfl
theorem fc88_2 : fieldCell Tryd.prog 88 2 = some 2 := by kernel_rfl
theorem fo88_2 : fieldOff Tryd.prog 88 2 = some 2 := by kernel_rfl
theorem fc88_3 : fieldCell Tryd.prog 88 3 = some 3 := by kernel_rfl
theorem fo88_3 : fieldOff Tryd.prog 88 3 = some 3 := by kernel_rfl
theorem sz89 : sizeTy Tryd.prog 89 = some 4 := by kernel_rfl
theorem z89 : zeroTy Tryd.prog 89 = some ([.int .i64 0, .int .i64 0, .int .i64 0, .int .i64 0]) := by kernel_rfl
theorem fc89_0 : fieldCell Tryd.prog 89 0 = some 0 := by kernel_rfl
theorem fo89_0 : fieldOff Tryd.prog 89 0 = some 0 := by kernel_rfl
theorem fc89_1 : fieldCell Tryd.prog 89 1 = some 1 := by kernel_rfl
theorem fo89_1 : fieldOff Tryd.prog 89 1 = some 1 := by kernel_rfl
theorem fc89_2 : fieldCell Tryd.prog 89 2 = some 2 := by kernel_rfl
theorem fo89_2 : fieldOff Tryd.prog 89 2 = some 2 := by kernel_rfl
theorem fc89_3 : fieldCell Tryd.prog 89 3 = some 3 := by kernel_rfl
theorem fo89_3 : fieldOff Tryd.prog 89 3 = some 3 := by kernel_rfl
theorem sz90 : sizeTy Tryd.prog 90 = some 10 := by kernel_rfl
theorem z90 : zeroTy Tryd.prog 90 = some ([.string ⟨#[]⟩, .int .i64 0, .int .i64 0, .int .i64 0, .int .i64 0, .int .i64 0, .int .i64 0, .int .i64 0, .int .i64 0, .int .i64 0]) := by kernel_rfl
theorem fc90_0 : fieldCell Tryd.prog 90 0 = some 0 := by kernel_rfl
theorem fo90_0 : fieldOff Tryd.prog 90 0 = some 0 := by kernel_rfl
theorem fo90_1 : fieldOff Tryd.prog 90 1 = some 1 := by kernel_rfl
theorem fc90_2 : fieldCell Tryd.prog 90 2 = some 5 := by kernel_rfl
theorem fo90_2 : fieldOff Tryd.prog 90 2 = some 5 := by kernel_rfl
theorem fc90_3 : fieldCell Tryd.prog 90 3 = some 6 := by kernel_rfl
theorem fo90_3 : fieldOff Tryd.prog 90 3 = some 6 := by kernel_rfl
theorem fc90_4 : fieldCell Tryd.prog 90 4 = some 7 := by kernel_rfl
theorem fo90_4 : fieldOff Tryd.prog 90 4 = some 7 := by kernel_rfl
theorem fc90_5 : fieldCell Tryd.prog 90 5 = some 8 := by kernel_rfl
theorem fo90_5 : fieldOff Tryd.prog 90 5 = some 8 := by kernel_rfl
theorem fc90_6 : fieldCell Tryd.prog 90 6 = some 9 := by kernel_rfl
theorem fo90_6 : fieldOff Tryd.prog 90 6 = some 9 := by kernel_rfl
theorem sz91 : sizeTy Tryd.prog 91 = some 10 := by kernel_rfl
theorem z91 : zeroTy Tryd.prog 91 = some ([.string ⟨#[]⟩, .int .i64 0, .int .i64 0, .int .i64 0, .int .i64 0, .int .i64 0, .int .i64 0, .int .i64 0, .int .i64 0, .int .i64 0]) := by kernel_rfl
theorem fc91_0 : fieldCell Tryd.prog 91 0 = some 0 := by kernel_rfl
theorem fo91_0 : fieldOff Tryd.prog 91 0 = some 0 := by kernel_rfl
theorem fo91_1 : fieldOff Tryd.prog 91 1 = some 1 := by kernel_rfl
theorem fc91_2 : fieldCell Tryd.prog 91 2 = some 5 := by kernel_rfl
theorem fo91_2 : fieldOff Tryd.prog 91 2 = some 5 := by kernel_rfl
theorem fc91_3 : fieldCell Tryd.prog 91 3 = some 6 := by kernel_rfl
theorem fo91_3 : fieldOff Tryd.prog 91 3 = some 6 := by kernel_rfl
theorem fc91_4 : fieldCell Tryd.prog 91 4 = some 7 := by kernel_rfl
theorem fo91_4 : fieldOff Tryd.prog 91 4 = some 7 := by kernel_rfl
theorem fc91_5 : fieldCell Tryd.prog 91 5 = some 8 := by kernel_rfl
theorem fo91_5 : fieldOff Tryd.prog 91 5 = some 8 := by kernel_rfl
theorem fc91_6 : fieldCell Tryd.prog 91 6 = some 9 := by kernel_rfl
theorem fo91_6 : fieldOff Tryd.prog 91 6 = some 9 := by kernel_rfl
theorem z92 : zeroTy Tryd.prog 92 = some ([.nilFunc]) := by kernel_rfl
theorem z93 : zeroTy Tryd.prog 93 = some ([.nilFunc]) := by kernel_rfl
theorem z94 : zeroTy Tryd.prog 94 = some ([.nilFunc]) := by kernel_rfl
theorem z95 : zeroTy Tryd.prog 95 = some ([.pointer none]) := by kernel_rfl
theorem E96 : ElemTy Tryd.prog 96 106 3 24 := ⟨by kernel_rfl, by kernel_rfl, by decide⟩
theorem z96 : zeroTy Tryd.prog 96 = some ([.slice none 0 0]) := by kernel_rfl
theorem sz97 : sizeTy Tryd.prog 97 = some 4 := by kernel_rfl
theorem z97 : zeroTy Tryd.prog 97 = some ([.slice none 0 0, .slice none 0 0, .int .i64 0, .int .i64 0]) := by kernel_rfl
theorem fc97_0 : fieldCell Tryd.prog 97 0 = some 0 := by kernel_rfl
theorem fo97_0 : fieldOff Tryd.prog 97 0 = some 0 := by kernel_rfl
theorem fc97_1 : fieldCell Tryd.prog 97 1 = some 1 := by kernel_rfl
theorem fo97_1 : fieldOff Tryd.prog 97 1 = some 1 := by kernel_rfl
theorem fc97_2 : fieldCell Tryd.prog 97 2 = some 2 := by kernel_rfl
theorem fo97_2 : fieldOff Tryd.prog 97 2 = some 2 := by kernel_rfl
theorem fc97_3 : fieldCell Tryd.prog 97 3 = some 3 := by kernel_rfl
theorem fo97_3 : fieldOff Tryd.prog 97 3 = some 3 := by kernel_rfl
theorem sz98 : sizeTy Tryd.prog 98 = some 4 := by kernel_rfl
theorem z98 : zeroTy Tryd.prog 98 = some ([.slice none 0 0, .slice none 0 0, .int .i64 0, .int .i64 0]) := by kernel_rfl
theorem fc98_0 : fieldCell Tryd.prog 98 0 = some 0 := by kernel_rfl
theorem fo98_0 : fieldOff Tryd.prog 98 0 = some 0 := by kernel_rfl
theorem fc98_1 : fieldCell Tryd.prog 98 1 = some 1 := by kernel_rfl
theorem fo98_1 : fieldOff Tryd.prog 98 1 = some 1 := by kernel_rfl
theorem fc98_2 : fieldCell Tryd.prog 98 2 = some 2 := by kernel_rfl
theorem fo98_2 : fieldOff Tryd.prog 98 2 = some 2 := by kernel_rfl
theorem fc98_3 : fieldCell Tryd.prog 98 3 = some 3 := by kernel_rfl
theorem fo98_3 : fieldOff Tryd.prog 98 3 = some 3 := by kernel_rfl
theorem sz99 : sizeTy Tryd.prog 99 = some 4 := by kernel_rfl
theorem z99 : zeroTy Tryd.prog 99 = some ([.int .i64 0, .int .i64 0, .int .i64 0, .int .i64 0]) := by kernel_rfl
theorem fc99_0 : fieldCell Tryd.prog 99 0 = some 0 := by kernel_rfl
theorem fo99_0 : fieldOff Tryd.prog 99 0 = some 0 := by kernel_rfl
theorem fc99_1 : fieldCell Tryd.prog 99 1 = some 1 := by kernel_rfl
theorem fo99_1 : fieldOff Tryd.prog 99 1 = some 1 := by kernel_rfl
theorem fc99_2 : fieldCell Tryd.prog 99 2 = some 2 := by kernel_rfl
theorem fo99_2 : fieldOff Tryd.prog 99 2 = some 2 := by kernel_rfl
theorem fc99_3 : fieldCell Tryd.prog 99 3 = some 3 := by kernel_rfl
theorem fo99_3 : fieldOff Tryd.prog 99 3 = some 3 := by kernel_rfl
theorem sz100 : sizeTy Tryd.prog 100 = some 4 := by kernel_rfl
theorem z100 : zeroTy Tryd.prog 100 = some ([.int .i64 0, .int .i64 0, .int .i64 0, .int .i64 0]) := by kernel_rfl
theorem fc100_0 : fieldCell Tryd.prog 100 0 = some 0 := by kernel_rfl
theorem fo100_0 : fieldOff Tryd.prog 100 0 = some 0 := by kernel_rfl
theorem fc100_1 : fieldCell Tryd.prog 100 1 = some 1 := by kernel_rfl
theorem fo100_1 : fieldOff Tryd.prog 100 1 = some 1 := by kernel_rfl
theorem fc100_2 : fieldCell Tryd.prog 100 2 = some 2 := by kernel_rfl
theorem fo100_2 : fieldOff Tryd.prog 100 2 = some 2 := by kernel_rfl
theorem fc100_3 : fieldCell Tryd.prog 100 3 = some 3 := by kernel_rfl
theorem fo100_3 : fieldOff Tryd.prog 100 3 = some 3 := by kernel_rfl
theorem z101 : zeroTy Tryd.prog 101 = some ([.nilFunc]) := by kernel_rfl
theorem z102 : zeroTy Tryd.prog 102 = some ([.nilFunc]) := by kernel_rfl
theorem z103 : zeroTy Tryd.prog 103 = some ([.nilFunc]) := by kernel_rfl
theorem z104 : zeroTy Tryd.prog 104 = some ([.nilFunc]) := by kernel_rfl
theorem sz105 : sizeTy Tryd.prog 105 = some 3 := by kernel_rfl
theorem z105 : zeroTy Tryd.prog 105 = some ([.int .i64 0, .int .i64 0, .int .i64 0]) := by kernel_rfl
theorem fc105_0 : fieldCell Tryd.prog 105 0 = some 0 := by kernel_rfl
theorem fo105_0 : fieldOff Tryd.prog 105 0 = some 0 := by kernel_rfl
theorem fc105_1 : fieldCell Tryd.prog 105 1 = some 1 := by kernel_rfl
theorem fo105_1 : fieldOff Tryd.prog 105 1 = some 1 := by kernel_rfl
theorem fc105_2 : fieldCell Tryd.prog 105 2 = some 2 := by kernel_rfl
theorem fo105_2 : fieldOff Tryd.prog 105 2 = some 2 := by kernel_rfl
theorem sz106 : sizeTy Tryd.prog 106 = some 3 := by kernel_rfl
theorem z106 : zeroTy Tryd.prog 106 = some ([.int .i64 0, .int .i64 0, .int .i64 0]) := by kernel_rfl
theorem fc106_0 : fieldCell Tryd.prog 106 0 = some 0 := by kernel_rfl
theorem fo106_0 : fieldOff Tryd.prog 106 0 = some 0 := by kernel_rfl
theorem fc106_1 : fieldCell Tryd.prog 106 1 = some 1 := by kernel_rfl
theorem fo106_1 : fieldOff Tryd.prog 106 1 = some 1 := by kernel_rfl
theorem fc106_2 : fieldCell Tryd.prog 106 2 = some 2 := by kernel_rfl
theorem fo106_2 : fieldOff Tryd.prog 106 2 = some 2 := by kernel_rfl
theorem z107 : zeroTy Tryd.prog 107 = some ([.nilFunc]) := by kernel_rfl
theorem z108 : zeroTy Tryd.prog 108 = some ([.pointer none]) := by kernel_rfl
theorem z109 : zeroTy Tryd.prog 109 = some ([.nilFunc]) := by kernel_rfl
theorem z110 : zeroTy Tryd.prog 110 = some ([.nilFunc]) := by kernel_rfl
theorem z111 : zeroTy Tryd.prog 111 = some ([.nilFunc]) := by kernel_rfl
theorem z112 : zeroTy Tryd.prog 112 = some ([.nilFunc]) := by kernel_rfl
theorem z113 : zeroTy Tryd.prog 113 = some ([.nilFunc]) := by kernel_rfl
theorem z114 : zeroTy Tryd.prog 114 = some ([.nilFunc]) := by kernel_rfl
theorem z115 : zeroTy Tryd.prog 115 = some ([.nilFunc]) := by kernel_rfl
theorem sz116 : sizeTy Tryd.prog 116 = some 2 := by kernel_rfl
theorem z116 : zeroTy Tryd.prog 116 = some ([.string ⟨#[]⟩, .int .i64 0]) := by kernel_rfl
theorem fc116_0 : fieldCell Tryd.prog 116 0 = some 0 := by kernel_rfl
theorem fo116_0 : fieldOff Tryd.prog 116 0 = some 0 := by kernel_rfl
theorem fc116_1 : fieldCell Tryd.prog 116 1 = some 1 := by kernel_rfl
theorem fo116_1 : fieldOff Tryd.prog 116 1 = some 1 := by kernel_rfl
theorem sz117 : sizeTy Tryd.prog 117 = some 2 := by kernel_rfl
theorem z117 : zeroTy Tryd.prog 117 = some ([.string ⟨#[]⟩, .int .i64 0]) := by kernel_rfl
theorem fc117_0 : fieldCell Tryd.prog 117 0 = some 0 := by kernel_rfl
theorem fo117_0 : fieldOff Tryd.prog 117 0 = some 0 := by kernel_rfl
theorem fc117_1 : fieldCell Tryd.prog 117 1 = some 1 := by kernel_rfl
theorem fo117_1 : fieldOff Tryd.prog 117 1 = some 1 := by kernel_rfl
theorem sz118 : sizeTy Tryd.prog 118 = some 2 := by kernel_rfl
theorem z118 : zeroTy Tryd.prog 118 = some ([.int .i64 0, .int .i64 0]) := by kernel_rfl
theorem ar118 : arrTy Tryd.prog 118 = some (2, 1) := by kernel_rfl
theorem z119 : zeroTy Tryd.prog 119 = some ([.nilFunc]) := by kernel_rfl
theorem sz120 : sizeTy Tryd.prog 120 = some 4 := by kernel_rfl
theorem z120 : zeroTy Tryd.prog 120 = some ([.int .i64 0, .int .i64 0, .int .i64 0, .int .i64 0]) := by kernel_rfl
theorem ar120 : arrTy Tryd.prog 120 = some (4, 1) := by kernel_rfl
theorem E121 : ElemTy Tryd.prog 121 79 1 16 := ⟨by kernel_rfl, by kernel_rfl, by decide⟩
theorem z121 : zeroTy Tryd.prog 121 = some ([.slice none 0 0]) := by kernel_rfl
theorem z122 : zeroTy Tryd.prog 122 = some ([.nilFunc]) := by kernel_rfl
theorem z123 : zeroTy Tryd.prog 123 = some ([.pointer none]) := by kernel_rfl
theorem sz124 : sizeTy Tryd.prog 124 = some 2 := by kernel_rfl
theorem z124 : zeroTy Tryd.prog 124 = some ([.int .i64 0, .int .i64 0]) := by kernel_rfl
theorem fc124_0 : fieldCell Tryd.prog 124 0 = some 0 := by kernel_rfl
theorem fo124_0 : fieldOff Tryd.prog 124 0 = some 0 := by kernel_rfl
theorem fc124_1 : fieldCell Tryd.prog 124 1 = some 1 := by kernel_rfl
theorem fo124_1 : fieldOff Tryd.prog 124 1 = some 1 := by kernel_rfl
theorem sz125 : sizeTy Tryd.prog 125 = some 2 := by kernel_rfl
theorem z125 : zeroTy Tryd.prog 125 = some ([.int .i64 0, .int .i64 0]) := by kernel_rfl
theorem fc125_0 : fieldCell Tryd.prog 125 0 = some 0 := by kernel_rfl
theorem fo125_0 : fieldOff Tryd.prog 125 0 = some 0 := by kernel_rfl
theorem fc125_1 : fieldCell Tryd.prog 125 1 = some 1 := by kernel_rfl
theorem fo125_1 : fieldOff Tryd.prog 125 1 = some 1 := by kernel_rfl
theorem sz126 : sizeTy Tryd.prog 126 = some 3 := by kernel_rfl
theorem z126 : zeroTy Tryd.prog 126 = some ([.int .i64 0, .int .i64 0, .int .i64 0]) := by kernel_rfl
theorem fo126_0 : fieldOff Tryd.prog 126 0 = some 0 := by kernel_rfl
theorem fc126_1 : fieldCell Tryd.prog 126 1 = some 2 := by kernel_rfl
theorem fo126_1 : fieldOff Tryd.prog 126 1 = some 2 := by kernel_rfl
theorem sz127 : sizeTy Tryd.prog 127 = some 3 := by kernel_rfl
theorem z127 : zeroTy Tryd.prog 127 = some ([.int .i64 0, .int .i64 0, .int .i64 0]) := by kernel_rfl
theorem fo127_0 : fieldOff Tryd.prog 127 0 = some 0 := by kernel_rfl
theorem fc127_1 : fieldCell Tryd.prog 127 1 = some 2 := by kernel_rfl
theorem fo127_1 : fieldOff Tryd.prog 127 1 = some 2 := by kernel_rfl
theorem z128 : zeroTy Tryd.prog 128 = some ([.pointer none]) := by kernel_rfl
theorem sz129 : sizeTy Tryd.prog 129 = some 3 := by kernel_rfl
theorem z129 : zeroTy Tryd.prog 129 = some ([.int .i64 0, .int .i64 0, .int .i64 0]) := by kernel_rfl
theorem fo129_0 : fieldOff Tryd.prog 129 0 = some 0 := by kernel_rfl
theorem fc129_1 : fieldCell Tryd.prog 129 1 = some 2 := by kernel_rfl
theorem fo129_1 : fieldOff Tryd.prog 129 1 = some 2 := by kernel_rfl
theorem sz130 : sizeTy Tryd.prog 130 = some 3 := by kernel_rfl
theorem z130 : zeroTy Tryd.prog 130 = some ([.int .i64 0, .int .i64 0, .int .i64 0]) := by kernel_rfl
theorem fo130_0 : fieldOff Tryd.prog 130 0 = some 0 := by kernel_rfl
theorem fc130_1 : fieldCell Tryd.prog 130 1 = some 2 := by kernel_rfl
theorem fo130_1 : fieldOff Tryd.prog 130 1 = some 2 := by kernel_rfl
theorem z131 : zeroTy Tryd.prog 131 = some ([.nilFunc]) := by kernel_rfl
theorem z132 : zeroTy Tryd.prog 132 = some ([.nilFunc]) := by kernel_rfl
theorem z133 : zeroTy Tryd.prog 133 = some ([.nilFunc]) := by kernel_rfl
theorem z134 : zeroTy Tryd.prog 134 = some ([.nilFunc]) := by kernel_rfl
theorem z135 : zeroTy Tryd.prog 135 = some ([.nilFunc]) := by kernel_rfl
theorem z136 : zeroTy Tryd.prog 136 = some ([.nilFunc]) := by kernel_rfl
theorem z137 : zeroTy Tryd.prog 137 = some ([.pointer none]) := by kernel_rfl
theorem z138 : zeroTy Tryd.prog 138 = some ([.nilFunc]) := by kernel_rfl
theorem z139 : zeroTy Tryd.prog 139 = some ([.nilFunc]) := by kernel_rfl
theorem sz140 : sizeTy Tryd.prog 140 = some 3 := by kernel_rfl
theorem z140 : zeroTy Tryd.prog 140 = some ([.int .i64 0, .int .i64 0, .nilIface]) := by kernel_rfl
theorem fo140_0 : fieldOff Tryd.prog 140 0 = some 0 := by kernel_rfl
theorem fc140_1 : fieldCell Tryd.prog 140 1 = some 2 := by kernel_rfl
theorem fo140_1 : fieldOff Tryd.prog 140 1 = some 2 := by kernel_rfl
theorem sz141 : sizeTy Tryd.prog 141 = some 3 := by kernel_rfl
theorem z141 : zeroTy Tryd.prog 141 = some ([.int .i64 0, .int .i64 0, .nilIface]) := by kernel_rfl
theorem fo141_0 : fieldOff Tryd.prog 141 0 = some 0 := by kernel_rfl
theorem fc141_1 : fieldCell Tryd.prog 141 1 = some 2 := by kernel_rfl
theorem fo141_1 : fieldOff Tryd.prog 141 1 = some 2 := by kernel_rfl
theorem z142 : zeroTy Tryd.prog 142 = some ([.pointer none]) := by kernel_rfl
theorem sz143 : sizeTy Tryd.prog 143 = some 5 := by kernel_rfl
theorem z143 : zeroTy Tryd.prog 143 = some ([.int .i64 0, .int .i64 0, .int .i64 0, .int .i64 0, .nilIface]) := by kernel_rfl
theorem fo143_0 : fieldOff Tryd.prog 143 0 = some 0 := by kernel_rfl
theorem fc143_1 : fieldCell Tryd.prog 143 1 = some 2 := by kernel_rfl
theorem fo143_1 : fieldOff Tryd.prog 143 1 = some 2 := by kernel_rfl
theorem fc143_2 : fieldCell Tryd.prog 143 2 = some 3 := by kernel_rfl
theorem fo143_2 : fieldOff Tryd.prog 143 2 = some 3 := by kernel_rfl
theorem fc143_3 : fieldCell Tryd.prog 143 3 = some 4 := by kernel_rfl
theorem fo143_3 : fieldOff Tryd.prog 143 3 = some 4 := by kernel_rfl
theorem sz144 : sizeTy Tryd.prog 144 = some 5 := by kernel_rfl
theorem z144 : zeroTy Tryd.prog 144 = some ([.int .i64 0, .int .i64 0, .int .i64 0, .int .i64 0, .nilIface]) := by kernel_rfl
theorem fo144_0 : fieldOff Tryd.prog 144 0 = some 0 := by kernel_rfl
theorem fc144_1 : fieldCell Tryd.prog 144 1 = some 2 := by kernel_rfl
theorem fo144_1 : fieldOff Tryd.prog 144 1 = some 2 := by kernel_rfl
theorem fc144_2 : fieldCell Tryd.prog 144 2 = some 3 := by kernel_rfl
theorem fo144_2 : fieldOff Tryd.prog 144 2 = some 3 := by kernel_rfl
theorem fc144_3 : fieldCell Tryd.prog 144 3 = some 4 := by kernel_rfl
theorem fo144_3 : fieldOff Tryd.prog 144 3 = some 4 := by kernel_rfl
theorem z146 : zeroTy Tryd.prog 146 = some ([.pointer none]) := by kernel_rfl
theorem sz147 : sizeTy Tryd.prog 147 = some 5 := by kernel_rfl
theorem z147 : zeroTy Tryd.prog 147 = some ([.int .i64 0, .int .i64 0, .int .i64 0, .nilIface, .nilIface]) := by kernel_rfl
theorem fo147_0 : fieldOff Tryd.prog 147 0 = some 0 := by kernel_rfl
theorem fc147_1 : fieldCell Tryd.prog 147 1 = some 2 := by kernel_rfl
theorem fo147_1 : fieldOff Tryd.prog 147 1 = some 2 := by kernel_rfl
theorem fc147_2 : fieldCell Tryd.prog 147 2 = some 3 := by kernel_rfl
theorem fo147_2 : fieldOff Tryd.prog 147 2 = some 3 := by kernel_rfl
theorem fc147_3 : fieldCell Tryd.prog 147 3 = some 4 := by kernel_rfl
theorem fo147_3 : fieldOff Tryd.prog 147 3 = some 4 := by kernel_rfl
theorem sz148 : sizeTy Tryd.prog 148 = some 5 := by kernel_rfl
theorem z148 : zeroTy Tryd.prog 148 = some ([.int .i64 0, .int .i64 0, .int .i64 0, .nilIface, .nilIface]) := by kernel_rfl
theorem fo148_0 : fieldOff Tryd.prog 148 0 = some 0 := by kernel_rfl
theorem fc148_1 : fieldCell Tryd.prog 148 1 = some 2 := by kernel_rfl
theorem fo148_1 : fieldOff Tryd.prog 148 1 = some 2 := by kernel_rfl
theorem fc148_2 : fieldCell Tryd.prog 148 2 = some 3 := by kernel_rfl
theorem fo148_2 : fieldOff Tryd.prog 148 2 = some 3 := by kernel_rfl
theorem fc148_3 : fieldCell Tryd.prog 148 3 = some 4 := by kernel_rfl
theorem fo148_3 : fieldOff Tryd.prog 148 3 = some 4 := by kernel_rfl
theorem z149 : zeroTy Tryd.prog 149 = some ([.pointer none]) := by kernel_rfl
theorem sz150 : sizeTy Tryd.prog 150 = some 5 := by kernel_rfl
theorem z150 : zeroTy Tryd.prog 150 = some ([.int .i64 0, .int .i64 0, .nilIface, .nilIface, .nilIface]) := by kernel_rfl
theorem fo150_0 : fieldOff Tryd.prog 150 0 = some 0 := by kernel_rfl
theorem fc150_1 : fieldCell Tryd.prog 150 1 = some 2 := by kernel_rfl
theorem fo150_1 : fieldOff Tryd.prog 150 1 = some 2 := by kernel_rfl
theorem fc150_2 : fieldCell Tryd.prog 150 2 = some 3 := by kernel_rfl
theorem fo150_2 : fieldOff Tryd.prog 150 2 = some 3 := by kernel_rfl
theorem fc150_3 : fieldCell Tryd.prog 150 3 = some 4 := by kernel_rfl
theorem fo150_3 : fieldOff Tryd.prog 150 3 = some 4 := by kernel_rfl
theorem sz151 : sizeTy Tryd.prog 151 = some 5 := by kernel_rfl
theorem z151 : zeroTy Tryd.prog 151 = some ([.int .i64 0, .int .i64 0, .nilIface, .nilIface, .nilIface]) := by kernel_rfl
theorem fo151_0 : fieldOff Tryd.prog 151 0 = some 0 := by kernel_rfl
theorem fc151_1 : fieldCell Tryd.prog 151 1 = some 2 := by kernel_rfl
theorem fo151_1 : fieldOff Tryd.prog 151 1 = some 2 := by kernel_rfl
theorem fc151_2 : fieldCell Tryd.prog 151 2 = some 3 := by kernel_rfl
theorem fo151_2 : fieldOff Tryd.prog 151 2 = some 3 := by kernel_rfl
theorem fc151_3 : fieldCell Tryd.prog 151 3 = some 4 := by kernel_rfl
theorem fo151_3 : fieldOff Tryd.prog 151 3 = some 4 := by kernel_rfl
theorem z153 : zeroTy Tryd.prog 153 = some ([.nilFunc]) := by kernel_rfl
theorem z154 : zeroTy Tryd.prog 154 = some ([.nilFunc]) := by kernel_rfl
theorem z156 : zeroTy Tryd.prog 156 = some ([.nilFunc]) := by kernel_rfl
theorem z157 : zeroTy Tryd.prog 157 = some ([.nilFunc]) := by kernel_rfl
theorem z158 : zeroTy Tryd.prog 158 = some ([.nilFunc]) := by kernel_rfl
theorem z159 : zeroTy Tryd.prog 159 = some ([.nilFunc]) := by kernel_rfl
theorem E160 : ElemTy Tryd.prog 160 161 3 32 := ⟨by kernel_rfl, by kernel_rfl, by decide⟩
theorem z160 : zeroTy Tryd.prog 160 = some ([.slice none 0 0]) := by kernel_rfl
theorem sz161 : sizeTy Tryd.prog 161 = some 3 := by kernel_rfl
theorem z161 : zeroTy Tryd.prog 161 = some ([.string ⟨#[]⟩, .int .i64 0, .int .i64 0]) := by kernel_rfl
theorem fc161_0 : fieldCell Tryd.prog 161 0 = some 0 := by kernel_rfl
theorem fo161_0 : fieldOff Tryd.prog 161 0 = some 0 := by kernel_rfl
theorem fc161_1 : fieldCell Tryd.prog 161 1 = some 1 := by kernel_rfl
theorem fo161_1 : fieldOff Tryd.prog 161 1 = some 1 := by kernel_rfl
theorem fc161_2 : fieldCell Tryd.prog 161 2 = some 2 := by kernel_rfl
theorem fo161_2 : fieldOff Tryd.prog 161 2 = some 2 := by kernel_rfl
theorem z162 : zeroTy Tryd.prog 162 = some ([.nilFunc]) := by kernel_rfl
theorem z163 : zeroTy Tryd.prog 163 = some ([.pointer none]) := by kernel_rfl
theorem z164 : zeroTy Tryd.prog 164 = some ([.nilFunc]) := by kernel_rfl
theorem z165 : zeroTy Tryd.prog 165 = some ([.nilFunc]) := by kernel_rfl
theorem z166 : zeroTy Tryd.prog 166 = some ([.nilFunc]) := by kernel_rfl
theorem z167 : zeroTy Tryd.prog 167 = some ([.nilFunc]) := by kernel_rfl
theorem z169 : zeroTy Tryd.prog 169 = some ([.nilFunc]) := by kernel_rfl
theorem z170 : zeroTy Tryd.prog 170 = some ([.nilFunc]) := by kernel_rfl
theorem z171 : zeroTy Tryd.prog 171 = some ([.nilFunc]) := by kernel_rfl
theorem z172 : zeroTy Tryd.prog 172 = some ([.nilFunc]) := by kernel_rfl
theorem z173 : zeroTy Tryd.prog 173 = some ([.nilFunc]) := by kernel_rfl
theorem z174 : zeroTy Tryd.prog 174 = some ([.nilFunc]) := by kernel_rfl
theorem sz175 : sizeTy Tryd.prog 175 = some 24 := by kernel_rfl
theorem z175 : zeroTy Tryd.prog 175 = some (List.replicate 24 (.int .u8 0)) := by kernel_rfl
theorem ar175 : arrTy Tryd.prog 175 = some (24, 1) := by kernel_rfl
theorem z176 : zeroTy Tryd.prog 176 = some ([.int .u64 0]) := by kernel_rfl
theorem z177 : zeroTy Tryd.prog 177 = some ([.nilFunc]) := by kernel_rfl
theorem z178 : zeroTy Tryd.prog 178 = some ([.nilFunc]) := by kernel_rfl
theorem z180 : zeroTy Tryd.prog 180 = some ([.nilFunc]) := by kernel_rfl
theorem z182 : zeroTy Tryd.prog 182 = some ([.nilFunc]) := by kernel_rfl
theorem z184 : zeroTy Tryd.prog 184 = some ([.nilFunc]) := by kernel_rfl
theorem z185 : zeroTy Tryd.prog 185 = some ([.nilFunc]) := by kernel_rfl
theorem E186 : ElemTy Tryd.prog 186 187 2 24 := ⟨by kernel_rfl, by kernel_rfl, by decide⟩
theorem z186 : zeroTy Tryd.prog 186 = some ([.slice none 0 0]) := by kernel_rfl
theorem sz187 : sizeTy Tryd.prog 187 = some 2 := by kernel_rfl
theorem z187 : zeroTy Tryd.prog 187 = some ([.string ⟨#[]⟩, .int .i64 0]) := by kernel_rfl
theorem fc187_0 : fieldCell Tryd.prog 187 0 = some 0 := by kernel_rfl
theorem fo187_0 : fieldOff Tryd.prog 187 0 = some 0 := by kernel_rfl
theorem fc187_1 : fieldCell Tryd.prog 187 1 = some 1 := by kernel_rfl
theorem fo187_1 : fieldOff Tryd.prog 187 1 = some 1 := by kernel_rfl
theorem z188 : zeroTy Tryd.prog 188 = some ([.nilFunc]) := by kernel_rfl
theorem z190 : zeroTy Tryd.prog 190 = some ([.map none]) := by kernel_rfl
theorem z191 : zeroTy Tryd.prog 191 = some ([.nilFunc]) := by kernel_rfl
theorem z192 : zeroTy Tryd.prog 192 = some ([.nilFunc]) := by kernel_rfl
theorem z193 : zeroTy Tryd.prog 193 = some ([.nilFunc]) := by kernel_rfl
theorem sz194 : sizeTy Tryd.prog 194 = some 20 := by kernel_rfl
theorem z194 : zeroTy Tryd.prog 194 = some (List.replicate 20 (.int .u64 0)) := by kernel_rfl
theorem ar194 : arrTy Tryd.prog 194 = some (20, 1) := by kernel_rfl
theorem z195 : zeroTy Tryd.prog 195 = some ([.int .u32 0]) := by kernel_rfl
theorem z196 : zeroTy Tryd.prog 196 = some (List.replicate 65 (.int .u8 0)) := by kernel_rfl
theorem ar196 : arrTy Tryd.prog 196 = some (65, 1) := by kernel_rfl
theorem z197 : zeroTy Tryd.prog 197 = some ([.int .u64 0]) := by kernel_rfl
theorem z198 : zeroTy Tryd.prog 198 = some ([.nilFunc]) := by kernel_rfl
theorem z199 : zeroTy Tryd.prog 199 = some ([.map none]) := by kernel_rfl
theorem z200 : zeroTy Tryd.prog 200 = some ([.map none]) := by kernel_rfl
theorem z201 : zeroTy Tryd.prog 201 = some ([.nilFunc]) := by kernel_rfl
theorem z202 : zeroTy Tryd.prog 202 = some ([.nilFunc]) := by kernel_rfl
theorem z204 : zeroTy Tryd.prog 204 = some ([.nilFunc]) := by kernel_rfl
theorem z205 : zeroTy Tryd.prog 205 = some (List.replicate 256 (.int .u8 0)) := by kernel_rfl
theorem ar205 : arrTy Tryd.prog 205 = some (256, 1) := by kernel_rfl
theorem sz206 : sizeTy Tryd.prog 206 = some 2 := by kernel_rfl
theorem z206 : zeroTy Tryd.prog 206 = some ([.int .u8 0, .int .u8 0]) := by kernel_rfl
theorem fc206_0 : fieldCell Tryd.prog 206 0 = some 0 := by kernel_rfl
theorem fo206_0 : fieldOff Tryd.prog 206 0 = some 0 := by kernel_rfl
theorem fc206_1 : fieldCell Tryd.prog 206 1 = some 1 := by kernel_rfl
theorem fo206_1 : fieldOff Tryd.prog 206 1 = some 1 := by kernel_rfl
theorem sz207 : sizeTy Tryd.prog 207 = some 2 := by kernel_rfl
theorem z207 : zeroTy Tryd.prog 207 = some ([.int .u8 0, .int .u8 0]) := by kernel_rfl
theorem fc207_0 : fieldCell Tryd.prog 207 0 = some 0 := by kernel_rfl
theorem fo207_0 : fieldOff Tryd.prog 207 0 = some 0 := by kernel_rfl
theorem fc207_1 : fieldCell Tryd.prog 207 1 = some 1 := by kernel_rfl
theorem fo207_1 : fieldOff Tryd.prog 207 1 = some 1 := by kernel_rfl
theorem sz208 : sizeTy Tryd.prog 208 = some 32 := by kernel_rfl
theorem z208 : zeroTy Tryd.prog 208 = some (List.replicate 32 (.int .u8 0)) := by kernel_rfl
theorem ar208 : arrTy Tryd.prog 208 = some (16, 2) := by kernel_rfl
theorem sz209 : sizeTy Tryd.prog 209 = some 32 := by kernel_rfl
theorem z209 : zeroTy Tryd.prog 209 = some (List.replicate 32 (.int .u8 0)) := by kernel_rfl
theorem ar209 : arrTy Tryd.prog 209 = some (32, 1) := by kernel_rfl
theorem sz210 : sizeTy Tryd.prog 210 = some 64 := by kernel_rfl
theorem z210 : zeroTy Tryd.prog 210 = some (List.replicate 64 (.int .u8 0)) := by kernel_rfl
theorem ar210 : arrTy Tryd.prog 210 = some (64, 1) := by kernel_rfl
theorem z211 : zeroTy Tryd.prog 211 = some ([.nilFunc]) := by kernel_rfl
theorem sz212 : sizeTy Tryd.prog 212 = some 4 := by kernel_rfl
theorem z212 : zeroTy Tryd.prog 212 = some ([.pointer none, .pointer none, .pointer none, .string ⟨#[]⟩]) := by kernel_rfl
theorem fc212_0 : fieldCell Tryd.prog 212 0 = some 0 := by kernel_rfl
theorem fo212_0 : fieldOff Tryd.prog 212 0 = some 0 := by kernel_rfl
theorem fc212_1 : fieldCell Tryd.prog 212 1 = some 1 := by kernel_rfl
theorem fo212_1 : fieldOff Tryd.prog 212 1 = some 1 := by kernel_rfl
theorem fc212_2 : fieldCell Tryd.prog 212 2 = some 2 := by kernel_rfl
theorem fo212_2 : fieldOff Tryd.prog 212 2 = some 2 := by kernel_rfl
theorem fc212_3 : fieldCell Tryd.prog 212 3 = some 3 := by kernel_rfl
theorem fo212_3 : fieldOff Tryd.prog 212 3 = some 3 := by kernel_rfl
theorem sz213 : sizeTy Tryd.prog 213 = some 4 := by kernel_rfl
theorem z213 : zeroTy Tryd.prog 213 = some ([.pointer none, .pointer none, .pointer none, .string ⟨#[]⟩]) := by kernel_rfl
theorem fc213_0 : fieldCell Tryd.prog 213 0 = some 0 := by kernel_rfl
theorem fo213_0 : fieldOff Tryd.prog 213 0 = some 0 := by kernel_rfl
theorem fc213_1 : fieldCell Tryd.prog 213 1 = some 1 := by kernel_rfl
theorem fo213_1 : fieldOff Tryd.prog 213 1 = some 1 := by kernel_rfl
theorem fc213_2 : fieldCell Tryd.prog 213 2 = some 2 := by kernel_rfl
theorem fo213_2 : fieldOff Tryd.prog 213 2 = some 2 := by kernel_rfl
theorem fc213_3 : fieldCell Tryd.prog 213 3 = some 3 := by kernel_rfl
theorem fo213_3 : fieldOff Tryd.prog 213 3 = some 3 := by kernel_rfl
theorem z217 : zeroTy Tryd.prog 217 = some ([.int .u8 0]) := by kernel_rfl
theorem z218 : zeroTy Tryd.prog 218 = some ([.int .u8 0]) := by kernel_rfl
theorem z219 : zeroTy Tryd.prog 219 = some ([.nilFunc]) := by kernel_rfl
theorem z220 : zeroTy Tryd.prog 220 = some ([.int .i32 0]) := by kernel_rfl
theorem z221 : zeroTy Tryd.prog 221 = some ([.int .i32 0]) := by kernel_rfl
theorem sz222 : sizeTy Tryd.prog 222 = some 11 := by kernel_rfl
theorem z222 : zeroTy Tryd.prog 222 = some ([.int .u64 0, .int .u64 0, .int .u32 0, .int .u8 0, .int .u8 0, .int .u8 0, .int .u8 0, .nilFunc, .pointer none, .int .i32 0, .int .i32 0]) := by kernel_rfl
theorem fc222_0 : fieldCell Tryd.prog 222 0 = some 0 := by kernel_rfl
theorem fo222_0 : fieldOff Tryd.prog 222 0 = some 0 := by kernel_rfl
theorem fc222_1 : fieldCell Tryd.prog 222 1 = some 1 := by kernel_rfl
theorem fo222_1 : fieldOff Tryd.prog 222 1 = some 1 := by kernel_rfl
theorem fc222_2 : fieldCell Tryd.prog 222 2 = some 2 := by kernel_rfl
theorem fo222_2 : fieldOff Tryd.prog 222 2 = some 2 := by kernel_rfl
theorem fc222_3 : fieldCell Tryd.prog 222 3 = some 3 := by kernel_rfl
theorem fo222_3 : fieldOff Tryd.prog 222 3 = some 3 := by kernel_rfl
theorem fc222_4 : fieldCell Tryd.prog 222 4 = some 4 := by kernel_rfl
theorem fo222_4 : fieldOff Tryd.prog 222 4 = some 4 := by kernel_rfl
theorem fc222_5 : fieldCell Tryd.prog 222 5 = some 5 := by kernel_rfl
theorem fo222_5 : fieldOff Tryd.prog 222 5 = some 5 := by kernel_rfl
theorem fc222_6 : fieldCell Tryd.prog 222 6 = some 6 := by kernel_rfl
theorem fo222_6 : fieldOff Tryd.prog 222 6 = some 6 := by kernel_rfl
theorem fc222_7 : fieldCell Tryd.prog 222 7 = some 7 := by kernel_rfl
theorem fo222_7 : fieldOff Tryd.prog 222 7 = some 7 := by kernel_rfl
theorem fc222_8 : fieldCell Tryd.prog 222 8 = some 8 := by kernel_rfl
theorem fo222_8 : fieldOff Tryd.prog 222 8 = some 8 := by kernel_rfl
theorem fc222_9 : fieldCell Tryd.prog 222 9 = some 9 := by kernel_rfl
theorem fo222_9 : fieldOff Tryd.prog 222 9 = some 9 := by kernel_rfl
theorem fc222_10 : fieldCell Tryd.prog 222 10 = some 10 := by kernel_rfl
theorem fo222_10 : fieldOff Tryd.prog 222 10 = some 10 := by kernel_rfl
theorem sz223 : sizeTy Tryd.prog 223 = some 11 := by kernel_rfl
theorem z223 : zeroTy Tryd.prog 223 = some ([.int .u64 0, .int .u64 0, .int .u32 0, .int .u8 0, .int .u8 0, .int .u8 0, .int .u8 0, .nilFunc, .pointer none, .int .i32 0, .int .i32 0]) := by kernel_rfl
theorem fc223_0 : fieldCell Tryd.prog 223 0 = some 0 := by kernel_rfl
theorem fo223_0 : fieldOff Tryd.prog 223 0 = some 0 := by kernel_rfl
theorem fc223_1 : fieldCell Tryd.prog 223 1 = some 1 := by kernel_rfl
theorem fo223_1 : fieldOff Tryd.prog 223 1 = some 1 := by kernel_rfl
theorem fc223_2 : fieldCell Tryd.prog 223 2 = some 2 := by kernel_rfl
theorem fo223_2 : fieldOff Tryd.prog 223 2 = some 2 := by kernel_rfl
theorem fc223_3 : fieldCell Tryd.prog 223 3 = some 3 := by kernel_rfl
theorem fo223_3 : fieldOff Tryd.prog 223 3 = some 3 := by kernel_rfl
theorem fc223_4 : fieldCell Tryd.prog 223 4 = some 4 := by kernel_rfl
theorem fo223_4 : fieldOff Tryd.prog 223 4 = some 4 := by kernel_rfl
theorem fc223_5 : fieldCell Tryd.prog 223 5 = some 5 := by kernel_rfl
theorem fo223_5 : fieldOff Tryd.prog 223 5 = some 5 := by kernel_rfl
theorem fc223_6 : fieldCell Tryd.prog 223 6 = some 6 := by kernel_rfl
theorem fo223_6 : fieldOff Tryd.prog 223 6 = some 6 := by kernel_rfl
theorem fc223_7 : fieldCell Tryd.prog 223 7 = some 7 := by kernel_rfl
theorem fo223_7 : fieldOff Tryd.prog 223 7 = some 7 := by kernel_rfl
theorem fc223_8 : fieldCell Tryd.prog 223 8 = some 8 := by kernel_rfl
theorem fo223_8 : fieldOff Tryd.prog 223 8 = some 8 := by kernel_rfl
theorem fc223_9 : fieldCell Tryd.prog 223 9 = some 9 := by kernel_rfl
theorem fo223_9 : fieldOff Tryd.prog 223 9 = some 9 := by kernel_rfl
theorem fc223_10 : fieldCell Tryd.prog 223 10 = some 10 := by kernel_rfl
theorem fo223_10 : fieldOff Tryd.prog 223 10 = some 10 := by kernel_rfl
end Go.Proofs.YthackanffcaejaaDoor
