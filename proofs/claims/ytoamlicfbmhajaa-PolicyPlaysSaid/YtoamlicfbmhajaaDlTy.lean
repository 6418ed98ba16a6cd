/- 'Dl': the types of this program, as far as they are asked. -/
import Derived.Test.YtoamlicfbmhajaaDlZd
import Derived.Test.YtoamlicfbmhajaaProg
namespace Go.Dl
open Go.RowKit
open Go.Proofs

theorem tk0 : tk Try.prog 0 = some TK.other := by kernel_rfl
theorem tsz0 : tsz Try.prog 0 = 1 := by kernel_rfl
theorem bo0 : Try.prog.bytesOf 0 = 0 := by kernel_rfl
theorem tk1 : tk Try.prog 1 = some TK.func := by kernel_rfl
theorem tsz1 : tsz Try.prog 1 = 1 := by kernel_rfl
theorem tz1 : tz Try.prog 1 = some [C.v Value.nilFunc] := by kernel_rfl
theorem bo1 : Try.prog.bytesOf 1 = 8 := by kernel_rfl
theorem tk2 : tk Try.prog 2 = some (TK.int IntKind.i64) := by kernel_rfl
theorem tsz2 : tsz Try.prog 2 = 1 := by kernel_rfl
theorem tz2 : tz Try.prog 2 = some [C.v (Value.int IntKind.i64 0)] := by kernel_rfl
theorem bo2 : Try.prog.bytesOf 2 = 8 := by kernel_rfl
theorem tk3 : tk Try.prog 3 = some (TK.int IntKind.i64) := by kernel_rfl
theorem tsz3 : tsz Try.prog 3 = 1 := by kernel_rfl
theorem tz3 : tz Try.prog 3 = some [C.v (Value.int IntKind.i64 0)] := by kernel_rfl
theorem bo3 : Try.prog.bytesOf 3 = 8 := by kernel_rfl
theorem tk4 : tk Try.prog 4 = some TK.bool := by kernel_rfl
theorem tsz4 : tsz Try.prog 4 = 1 := by kernel_rfl
theorem tz4 : tz Try.prog 4 = some [C.v (Value.bool false)] := by kernel_rfl
theorem bo4 : Try.prog.bytesOf 4 = 1 := by kernel_rfl
theorem tk5 : tk Try.prog 5 = some (TK.int IntKind.u8) := by kernel_rfl
theorem tsz5 : tsz Try.prog 5 = 1 := by kernel_rfl
theorem tz5 : tz Try.prog 5 = some [C.v (Value.int IntKind.u8 0)] := by kernel_rfl
theorem bo5 : Try.prog.bytesOf 5 = 1 := by kernel_rfl
theorem tk6 : tk Try.prog 6 = some (TK.int IntKind.u8) := by kernel_rfl
theorem tsz6 : tsz Try.prog 6 = 1 := by kernel_rfl
theorem tz6 : tz Try.prog 6 = some [C.v (Value.int IntKind.u8 0)] := by kernel_rfl
theorem bo6 : Try.prog.bytesOf 6 = 1 := by kernel_rfl
theorem tk7 : tk Try.prog 7 = some (TK.st [(2, 0), (3, 1), (4, 2), (6, 3)]) := by kernel_rfl
theorem tsz7 : tsz Try.prog 7 = 4 := by kernel_rfl
theorem tz7 : tz Try.prog 7 = some [C.v (Value.int IntKind.i64 0), C.v (Value.int IntKind.i64 0), C.v (Value.bool false), C.v (Value.int IntKind.u8 0)] := by kernel_rfl
theorem bo7 : Try.prog.bytesOf 7 = 24 := by kernel_rfl
theorem tk8 : tk Try.prog 8 = some (TK.st [(2, 0), (3, 1), (4, 2), (6, 3)]) := by kernel_rfl
theorem tsz8 : tsz Try.prog 8 = 4 := by kernel_rfl
theorem tz8 : tz Try.prog 8 = some [C.v (Value.int IntKind.i64 0), C.v (Value.int IntKind.i64 0), C.v (Value.bool false), C.v (Value.int IntKind.u8 0)] := by kernel_rfl
theorem bo8 : Try.prog.bytesOf 8 = 24 := by kernel_rfl
theorem tk9 : tk Try.prog 9 = some TK.str := by kernel_rfl
theorem tsz9 : tsz Try.prog 9 = 1 := by kernel_rfl
theorem tz9 : tz Try.prog 9 = some [C.v (Value.string ⟨#[]⟩)] := by kernel_rfl
theorem bo9 : Try.prog.bytesOf 9 = 16 := by kernel_rfl
theorem tk10 : tk Try.prog 10 = some TK.str := by kernel_rfl
theorem tsz10 : tsz Try.prog 10 = 1 := by kernel_rfl
theorem tz10 : tz Try.prog 10 = some [C.v (Value.string ⟨#[]⟩)] := by kernel_rfl
theorem bo10 : Try.prog.bytesOf 10 = 16 := by kernel_rfl
theorem tk11 : tk Try.prog 11 = some TK.str := by kernel_rfl
theorem tsz11 : tsz Try.prog 11 = 1 := by kernel_rfl
theorem tz11 : tz Try.prog 11 = some [C.v (Value.string ⟨#[]⟩)] := by kernel_rfl
theorem bo11 : Try.prog.bytesOf 11 = 16 := by kernel_rfl
theorem tk12 : tk Try.prog 12 = some (TK.int IntKind.u64) := by kernel_rfl
theorem tsz12 : tsz Try.prog 12 = 1 := by kernel_rfl
theorem tz12 : tz Try.prog 12 = some [C.v (Value.int IntKind.u64 0)] := by kernel_rfl
theorem bo12 : Try.prog.bytesOf 12 = 8 := by kernel_rfl
theorem tk13 : tk Try.prog 13 = some (TK.st [(9, 0), (12, 1)]) := by kernel_rfl
theorem tsz13 : tsz Try.prog 13 = 2 := by kernel_rfl
theorem tz13 : tz Try.prog 13 = some [C.v (Value.string ⟨#[]⟩), C.v (Value.int IntKind.u64 0)] := by kernel_rfl
theorem bo13 : Try.prog.bytesOf 13 = 24 := by kernel_rfl
theorem tk14 : tk Try.prog 14 = some (TK.st [(9, 0), (12, 1)]) := by kernel_rfl
theorem tsz14 : tsz Try.prog 14 = 2 := by kernel_rfl
theorem tz14 : tz Try.prog 14 = some [C.v (Value.string ⟨#[]⟩), C.v (Value.int IntKind.u64 0)] := by kernel_rfl
theorem bo14 : Try.prog.bytesOf 14 = 24 := by kernel_rfl
theorem tk15 : tk Try.prog 15 = some (TK.ptr 243) := by kernel_rfl
theorem tsz15 : tsz Try.prog 15 = 1 := by kernel_rfl
theorem tz15 : tz Try.prog 15 = some [C.v (Value.pointer none)] := by kernel_rfl
theorem bo15 : Try.prog.bytesOf 15 = 8 := by kernel_rfl
theorem tk16 : tk Try.prog 16 = some (TK.ptr 246) := by kernel_rfl
theorem tsz16 : tsz Try.prog 16 = 1 := by kernel_rfl
theorem tz16 : tz Try.prog 16 = some [C.v (Value.pointer none)] := by kernel_rfl
theorem bo16 : Try.prog.bytesOf 16 = 8 := by kernel_rfl
theorem tk17 : tk Try.prog 17 = some (TK.ptr 253) := by kernel_rfl
theorem tsz17 : tsz Try.prog 17 = 1 := by kernel_rfl
theorem tz17 : tz Try.prog 17 = some [C.v (Value.pointer none)] := by kernel_rfl
theorem bo17 : Try.prog.bytesOf 17 = 8 := by kernel_rfl
theorem tk18 : tk Try.prog 18 = some (TK.st [(17, 0)]) := by kernel_rfl
theorem tsz18 : tsz Try.prog 18 = 1 := by kernel_rfl
theorem tz18 : tz Try.prog 18 = some [C.v (Value.pointer none)] := by kernel_rfl
theorem bo18 : Try.prog.bytesOf 18 = 8 := by kernel_rfl
theorem tk19 : tk Try.prog 19 = some (TK.st [(17, 0)]) := by kernel_rfl
theorem tsz19 : tsz Try.prog 19 = 1 := by kernel_rfl
theorem tz19 : tz Try.prog 19 = some [C.v (Value.pointer none)] := by kernel_rfl
theorem bo19 : Try.prog.bytesOf 19 = 8 := by kernel_rfl
theorem tk20 : tk Try.prog 20 = some TK.other := by kernel_rfl
theorem tsz20 : tsz Try.prog 20 = 1 := by kernel_rfl
theorem tz20 : tz Try.prog 20 = some [C.v Value.nilIface] := by kernel_rfl
theorem bo20 : Try.prog.bytesOf 20 = 16 := by kernel_rfl
theorem tk21 : tk Try.prog 21 = some (TK.int IntKind.i32) := by kernel_rfl
theorem tsz21 : tsz Try.prog 21 = 1 := by kernel_rfl
theorem tz21 : tz Try.prog 21 = some [C.v (Value.int IntKind.i32 0)] := by kernel_rfl
theorem bo21 : Try.prog.bytesOf 21 = 4 := by kernel_rfl
theorem tk22 : tk Try.prog 22 = some (TK.arr 8 3) := by kernel_rfl
theorem tsz22 : tsz Try.prog 22 = 8 := by kernel_rfl
theorem tz22 : tz Try.prog 22 = some [C.v (Value.int IntKind.i64 0), C.v (Value.int IntKind.i64 0), C.v (Value.int IntKind.i64 0), C.v (Value.int IntKind.i64 0), C.v (Value.int IntKind.i64 0), C.v (Value.int IntKind.i64 0), C.v (Value.int IntKind.i64 0), C.v (Value.int IntKind.i64 0)] := by kernel_rfl
theorem bo22 : Try.prog.bytesOf 22 = 64 := by kernel_rfl
theorem tk23 : tk Try.prog 23 = some (TK.arr 8 3) := by kernel_rfl
theorem tsz23 : tsz Try.prog 23 = 8 := by kernel_rfl
theorem tz23 : tz Try.prog 23 = some [C.v (Value.int IntKind.i64 0), C.v (Value.int IntKind.i64 0), C.v (Value.int IntKind.i64 0), C.v (Value.int IntKind.i64 0), C.v (Value.int IntKind.i64 0), C.v (Value.int IntKind.i64 0), C.v (Value.int IntKind.i64 0), C.v (Value.int IntKind.i64 0)] := by kernel_rfl
theorem bo23 : Try.prog.bytesOf 23 = 64 := by kernel_rfl
theorem tk24 : tk Try.prog 24 = some TK.func := by kernel_rfl
theorem tsz24 : tsz Try.prog 24 = 1 := by kernel_rfl
theorem tz24 : tz Try.prog 24 = some [C.v Value.nilFunc] := by kernel_rfl
theorem bo24 : Try.prog.bytesOf 24 = 8 := by kernel_rfl
theorem tk25 : tk Try.prog 25 = some TK.other := by kernel_rfl
theorem tsz25 : tsz Try.prog 25 = 1 := by kernel_rfl
theorem bo25 : Try.prog.bytesOf 25 = 0 := by kernel_rfl
theorem tk26 : tk Try.prog 26 = some TK.func := by kernel_rfl
theorem tsz26 : tsz Try.prog 26 = 1 := by kernel_rfl
theorem tz26 : tz Try.prog 26 = some [C.v Value.nilFunc] := by kernel_rfl
theorem bo26 : Try.prog.bytesOf 26 = 8 := by kernel_rfl
theorem tk27 : tk Try.prog 27 = some TK.func := by kernel_rfl
theorem tsz27 : tsz Try.prog 27 = 1 := by kernel_rfl
theorem tz27 : tz Try.prog 27 = some [C.v Value.nilFunc] := by kernel_rfl
theorem bo27 : Try.prog.bytesOf 27 = 8 := by kernel_rfl
theorem tk28 : tk Try.prog 28 = some (TK.slice 9) := by kernel_rfl
theorem tsz28 : tsz Try.prog 28 = 1 := by kernel_rfl
theorem tz28 : tz Try.prog 28 = some [C.s true 0 []] := by kernel_rfl
theorem bo28 : Try.prog.bytesOf 28 = 24 := by kernel_rfl
theorem tk29 : tk Try.prog 29 = some (TK.st [(28, 0), (28, 1)]) := by kernel_rfl
theorem tsz29 : tsz Try.prog 29 = 2 := by kernel_rfl
theorem tz29 : tz Try.prog 29 = some [C.s true 0 [], C.s true 0 []] := by kernel_rfl
theorem bo29 : Try.prog.bytesOf 29 = 48 := by kernel_rfl
theorem tk30 : tk Try.prog 30 = some (TK.st [(28, 0), (28, 1)]) := by kernel_rfl
theorem tsz30 : tsz Try.prog 30 = 2 := by kernel_rfl
theorem tz30 : tz Try.prog 30 = some [C.s true 0 [], C.s true 0 []] := by kernel_rfl
theorem bo30 : Try.prog.bytesOf 30 = 48 := by kernel_rfl
theorem tk31 : tk Try.prog 31 = some TK.func := by kernel_rfl
theorem tsz31 : tsz Try.prog 31 = 1 := by kernel_rfl
theorem tz31 : tz Try.prog 31 = some [C.v Value.nilFunc] := by kernel_rfl
theorem bo31 : Try.prog.bytesOf 31 = 8 := by kernel_rfl
theorem tk32 : tk Try.prog 32 = some TK.other := by kernel_rfl
theorem tsz32 : tsz Try.prog 32 = 1 := by kernel_rfl
theorem bo32 : Try.prog.bytesOf 32 = 0 := by kernel_rfl
theorem tk33 : tk Try.prog 33 = some TK.func := by kernel_rfl
theorem tsz33 : tsz Try.prog 33 = 1 := by kernel_rfl
theorem tz33 : tz Try.prog 33 = some [C.v Value.nilFunc] := by kernel_rfl
theorem bo33 : Try.prog.bytesOf 33 = 8 := by kernel_rfl
theorem tk34 : tk Try.prog 34 = some TK.func := by kernel_rfl
theorem tsz34 : tsz Try.prog 34 = 1 := by kernel_rfl
theorem tz34 : tz Try.prog 34 = some [C.v Value.nilFunc] := by kernel_rfl
theorem bo34 : Try.prog.bytesOf 34 = 8 := by kernel_rfl
theorem tk35 : tk Try.prog 35 = some (TK.int IntKind.i64) := by kernel_rfl
theorem tsz35 : tsz Try.prog 35 = 1 := by kernel_rfl
theorem tz35 : tz Try.prog 35 = some [C.v (Value.int IntKind.i64 0)] := by kernel_rfl
theorem bo35 : Try.prog.bytesOf 35 = 8 := by kernel_rfl
theorem tk36 : tk Try.prog 36 = some TK.other := by kernel_rfl
theorem tsz36 : tsz Try.prog 36 = 1 := by kernel_rfl
theorem bo36 : Try.prog.bytesOf 36 = 0 := by kernel_rfl
theorem tk37 : tk Try.prog 37 = some TK.func := by kernel_rfl
theorem tsz37 : tsz Try.prog 37 = 1 := by kernel_rfl
theorem tz37 : tz Try.prog 37 = some [C.v Value.nilFunc] := by kernel_rfl
theorem bo37 : Try.prog.bytesOf 37 = 8 := by kernel_rfl
theorem tk38 : tk Try.prog 38 = some TK.func := by kernel_rfl
theorem tsz38 : tsz Try.prog 38 = 1 := by kernel_rfl
theorem tz38 : tz Try.prog 38 = some [C.v Value.nilFunc] := by kernel_rfl
theorem bo38 : Try.prog.bytesOf 38 = 8 := by kernel_rfl
theorem tk39 : tk Try.prog 39 = some TK.func := by kernel_rfl
theorem tsz39 : tsz Try.prog 39 = 1 := by kernel_rfl
theorem tz39 : tz Try.prog 39 = some [C.v Value.nilFunc] := by kernel_rfl
theorem bo39 : Try.prog.bytesOf 39 = 8 := by kernel_rfl
theorem tk40 : tk Try.prog 40 = some TK.func := by kernel_rfl
theorem tsz40 : tsz Try.prog 40 = 1 := by kernel_rfl
theorem tz40 : tz Try.prog 40 = some [C.v Value.nilFunc] := by kernel_rfl
theorem bo40 : Try.prog.bytesOf 40 = 8 := by kernel_rfl
theorem tk41 : tk Try.prog 41 = some TK.func := by kernel_rfl
theorem tsz41 : tsz Try.prog 41 = 1 := by kernel_rfl
theorem tz41 : tz Try.prog 41 = some [C.v Value.nilFunc] := by kernel_rfl
theorem bo41 : Try.prog.bytesOf 41 = 8 := by kernel_rfl
theorem tk42 : tk Try.prog 42 = some (TK.st [(3, 0), (3, 1), (3, 2), (3, 3), (3, 4), (3, 5), (3, 6), (3, 7)]) := by kernel_rfl
theorem tsz42 : tsz Try.prog 42 = 8 := by kernel_rfl
theorem tz42 : tz Try.prog 42 = some [C.v (Value.int IntKind.i64 0), C.v (Value.int IntKind.i64 0), C.v (Value.int IntKind.i64 0), C.v (Value.int IntKind.i64 0), C.v (Value.int IntKind.i64 0), C.v (Value.int IntKind.i64 0), C.v (Value.int IntKind.i64 0), C.v (Value.int IntKind.i64 0)] := by kernel_rfl
theorem bo42 : Try.prog.bytesOf 42 = 64 := by kernel_rfl
theorem tk43 : tk Try.prog 43 = some (TK.st [(3, 0), (3, 1), (3, 2), (3, 3), (3, 4), (3, 5), (3, 6), (3, 7)]) := by kernel_rfl
theorem tsz43 : tsz Try.prog 43 = 8 := by kernel_rfl
theorem tz43 : tz Try.prog 43 = some [C.v (Value.int IntKind.i64 0), C.v (Value.int IntKind.i64 0), C.v (Value.int IntKind.i64 0), C.v (Value.int IntKind.i64 0), C.v (Value.int IntKind.i64 0), C.v (Value.int IntKind.i64 0), C.v (Value.int IntKind.i64 0), C.v (Value.int IntKind.i64 0)] := by kernel_rfl
theorem bo43 : Try.prog.bytesOf 43 = 64 := by kernel_rfl
theorem tk44 : tk Try.prog 44 = some (TK.arr 8 43) := by kernel_rfl
theorem tsz44 : tsz Try.prog 44 = 64 := by kernel_rfl
theorem bo44 : Try.prog.bytesOf 44 = 512 := by kernel_rfl
theorem tk45 : tk Try.prog 45 = some (TK.st [(3, 0), (44, 1), (3, 65)]) := by kernel_rfl
theorem tsz45 : tsz Try.prog 45 = 66 := by kernel_rfl
theorem bo45 : Try.prog.bytesOf 45 = 528 := by kernel_rfl
theorem tk46 : tk Try.prog 46 = some (TK.st [(3, 0), (44, 1), (3, 65)]) := by kernel_rfl
theorem tsz46 : tsz Try.prog 46 = 66 := by kernel_rfl
theorem bo46 : Try.prog.bytesOf 46 = 528 := by kernel_rfl
theorem tk47 : tk Try.prog 47 = some TK.func := by kernel_rfl
theorem tsz47 : tsz Try.prog 47 = 1 := by kernel_rfl
theorem tz47 : tz Try.prog 47 = some [C.v Value.nilFunc] := by kernel_rfl
theorem bo47 : Try.prog.bytesOf 47 = 8 := by kernel_rfl
theorem tk48 : tk Try.prog 48 = some TK.func := by kernel_rfl
theorem tsz48 : tsz Try.prog 48 = 1 := by kernel_rfl
theorem tz48 : tz Try.prog 48 = some [C.v Value.nilFunc] := by kernel_rfl
theorem bo48 : Try.prog.bytesOf 48 = 8 := by kernel_rfl
theorem tk49 : tk Try.prog 49 = some TK.func := by kernel_rfl
theorem tsz49 : tsz Try.prog 49 = 1 := by kernel_rfl
theorem tz49 : tz Try.prog 49 = some [C.v Value.nilFunc] := by kernel_rfl
theorem bo49 : Try.prog.bytesOf 49 = 8 := by kernel_rfl
theorem tk50 : tk Try.prog 50 = some (TK.slice 55) := by kernel_rfl
theorem tsz50 : tsz Try.prog 50 = 1 := by kernel_rfl
theorem tz50 : tz Try.prog 50 = some [C.s true 0 []] := by kernel_rfl
theorem bo50 : Try.prog.bytesOf 50 = 24 := by kernel_rfl
theorem tk51 : tk Try.prog 51 = some TK.func := by kernel_rfl
theorem tsz51 : tsz Try.prog 51 = 1 := by kernel_rfl
theorem tz51 : tz Try.prog 51 = some [C.v Value.nilFunc] := by kernel_rfl
theorem bo51 : Try.prog.bytesOf 51 = 8 := by kernel_rfl
theorem tk52 : tk Try.prog 52 = some TK.func := by kernel_rfl
theorem tsz52 : tsz Try.prog 52 = 1 := by kernel_rfl
theorem tz52 : tz Try.prog 52 = some [C.v Value.nilFunc] := by kernel_rfl
theorem bo52 : Try.prog.bytesOf 52 = 8 := by kernel_rfl
theorem tk53 : tk Try.prog 53 = some TK.func := by kernel_rfl
theorem tsz53 : tsz Try.prog 53 = 1 := by kernel_rfl
theorem tz53 : tz Try.prog 53 = some [C.v Value.nilFunc] := by kernel_rfl
theorem bo53 : Try.prog.bytesOf 53 = 8 := by kernel_rfl
theorem tk54 : tk Try.prog 54 = some (TK.st [(3, 0), (9, 1), (3, 2), (4, 3), (4, 4), (4, 5)]) := by kernel_rfl
theorem tsz54 : tsz Try.prog 54 = 6 := by kernel_rfl
theorem tz54 : tz Try.prog 54 = some [C.v (Value.int IntKind.i64 0), C.v (Value.string ⟨#[]⟩), C.v (Value.int IntKind.i64 0), C.v (Value.bool false), C.v (Value.bool false), C.v (Value.bool false)] := by kernel_rfl
theorem bo54 : Try.prog.bytesOf 54 = 40 := by kernel_rfl
theorem tk55 : tk Try.prog 55 = some (TK.st [(3, 0), (9, 1), (3, 2), (4, 3), (4, 4), (4, 5)]) := by kernel_rfl
theorem tsz55 : tsz Try.prog 55 = 6 := by kernel_rfl
theorem tz55 : tz Try.prog 55 = some [C.v (Value.int IntKind.i64 0), C.v (Value.string ⟨#[]⟩), C.v (Value.int IntKind.i64 0), C.v (Value.bool false), C.v (Value.bool false), C.v (Value.bool false)] := by kernel_rfl
theorem bo55 : Try.prog.bytesOf 55 = 40 := by kernel_rfl
theorem tk56 : tk Try.prog 56 = some TK.other := by kernel_rfl
theorem tsz56 : tsz Try.prog 56 = 1 := by kernel_rfl
theorem bo56 : Try.prog.bytesOf 56 = 0 := by kernel_rfl
theorem tk57 : tk Try.prog 57 = some TK.func := by kernel_rfl
theorem tsz57 : tsz Try.prog 57 = 1 := by kernel_rfl
theorem tz57 : tz Try.prog 57 = some [C.v Value.nilFunc] := by kernel_rfl
theorem bo57 : Try.prog.bytesOf 57 = 8 := by kernel_rfl
theorem tk58 : tk Try.prog 58 = some TK.func := by kernel_rfl
theorem tsz58 : tsz Try.prog 58 = 1 := by kernel_rfl
theorem tz58 : tz Try.prog 58 = some [C.v Value.nilFunc] := by kernel_rfl
theorem bo58 : Try.prog.bytesOf 58 = 8 := by kernel_rfl
theorem tk59 : tk Try.prog 59 = some TK.func := by kernel_rfl
theorem tsz59 : tsz Try.prog 59 = 1 := by kernel_rfl
theorem tz59 : tz Try.prog 59 = some [C.v Value.nilFunc] := by kernel_rfl
theorem bo59 : Try.prog.bytesOf 59 = 8 := by kernel_rfl
theorem tk60 : tk Try.prog 60 = some TK.func := by kernel_rfl
theorem tsz60 : tsz Try.prog 60 = 1 := by kernel_rfl
theorem tz60 : tz Try.prog 60 = some [C.v Value.nilFunc] := by kernel_rfl
theorem bo60 : Try.prog.bytesOf 60 = 8 := by kernel_rfl
theorem tk61 : tk Try.prog 61 = some TK.func := by kernel_rfl
theorem tsz61 : tsz Try.prog 61 = 1 := by kernel_rfl
theorem tz61 : tz Try.prog 61 = some [C.v Value.nilFunc] := by kernel_rfl
theorem bo61 : Try.prog.bytesOf 61 = 8 := by kernel_rfl
theorem tk62 : tk Try.prog 62 = some TK.func := by kernel_rfl
theorem tsz62 : tsz Try.prog 62 = 1 := by kernel_rfl
theorem tz62 : tz Try.prog 62 = some [C.v Value.nilFunc] := by kernel_rfl
theorem bo62 : Try.prog.bytesOf 62 = 8 := by kernel_rfl
theorem tk63 : tk Try.prog 63 = some (TK.slice 70) := by kernel_rfl
theorem tsz63 : tsz Try.prog 63 = 1 := by kernel_rfl
theorem tz63 : tz Try.prog 63 = some [C.s true 0 []] := by kernel_rfl
theorem bo63 : Try.prog.bytesOf 63 = 24 := by kernel_rfl
theorem tk64 : tk Try.prog 64 = some TK.other := by kernel_rfl
theorem tsz64 : tsz Try.prog 64 = 1 := by kernel_rfl
theorem bo64 : Try.prog.bytesOf 64 = 0 := by kernel_rfl
theorem tk65 : tk Try.prog 65 = some TK.func := by kernel_rfl
theorem tsz65 : tsz Try.prog 65 = 1 := by kernel_rfl
theorem tz65 : tz Try.prog 65 = some [C.v Value.nilFunc] := by kernel_rfl
theorem bo65 : Try.prog.bytesOf 65 = 8 := by kernel_rfl
theorem tk66 : tk Try.prog 66 = some (TK.slice 3) := by kernel_rfl
theorem tsz66 : tsz Try.prog 66 = 1 := by kernel_rfl
theorem tz66 : tz Try.prog 66 = some [C.s true 0 []] := by kernel_rfl
theorem bo66 : Try.prog.bytesOf 66 = 24 := by kernel_rfl
theorem tk67 : tk Try.prog 67 = some TK.other := by kernel_rfl
theorem tsz67 : tsz Try.prog 67 = 1 := by kernel_rfl
theorem bo67 : Try.prog.bytesOf 67 = 0 := by kernel_rfl
theorem tk68 : tk Try.prog 68 = some TK.func := by kernel_rfl
theorem tsz68 : tsz Try.prog 68 = 1 := by kernel_rfl
theorem tz68 : tz Try.prog 68 = some [C.v Value.nilFunc] := by kernel_rfl
theorem bo68 : Try.prog.bytesOf 68 = 8 := by kernel_rfl
theorem tk69 : tk Try.prog 69 = some (TK.st [(3, 0), (9, 1), (3, 2)]) := by kernel_rfl
theorem tsz69 : tsz Try.prog 69 = 3 := by kernel_rfl
theorem tz69 : tz Try.prog 69 = some [C.v (Value.int IntKind.i64 0), C.v (Value.string ⟨#[]⟩), C.v (Value.int IntKind.i64 0)] := by kernel_rfl
theorem bo69 : Try.prog.bytesOf 69 = 32 := by kernel_rfl
theorem tk70 : tk Try.prog 70 = some (TK.st [(3, 0), (9, 1), (3, 2)]) := by kernel_rfl
theorem tsz70 : tsz Try.prog 70 = 3 := by kernel_rfl
theorem tz70 : tz Try.prog 70 = some [C.v (Value.int IntKind.i64 0), C.v (Value.string ⟨#[]⟩), C.v (Value.int IntKind.i64 0)] := by kernel_rfl
theorem bo70 : Try.prog.bytesOf 70 = 32 := by kernel_rfl
theorem tk71 : tk Try.prog 71 = some (TK.slice 5) := by kernel_rfl
theorem tsz71 : tsz Try.prog 71 = 1 := by kernel_rfl
theorem tz71 : tz Try.prog 71 = some [C.s true 0 []] := by kernel_rfl
theorem bo71 : Try.prog.bytesOf 71 = 24 := by kernel_rfl
theorem tk72 : tk Try.prog 72 = some TK.func := by kernel_rfl
theorem tsz72 : tsz Try.prog 72 = 1 := by kernel_rfl
theorem tz72 : tz Try.prog 72 = some [C.v Value.nilFunc] := by kernel_rfl
theorem bo72 : Try.prog.bytesOf 72 = 8 := by kernel_rfl
theorem tk73 : tk Try.prog 73 = some (TK.slice 79) := by kernel_rfl
theorem tsz73 : tsz Try.prog 73 = 1 := by kernel_rfl
theorem tz73 : tz Try.prog 73 = some [C.s true 0 []] := by kernel_rfl
theorem bo73 : Try.prog.bytesOf 73 = 24 := by kernel_rfl
theorem tk74 : tk Try.prog 74 = some (TK.ptr 76) := by kernel_rfl
theorem tsz74 : tsz Try.prog 74 = 1 := by kernel_rfl
theorem tz74 : tz Try.prog 74 = some [C.v (Value.pointer none)] := by kernel_rfl
theorem bo74 : Try.prog.bytesOf 74 = 8 := by kernel_rfl
theorem tk75 : tk Try.prog 75 = some (TK.st [(73, 0)]) := by kernel_rfl
theorem tsz75 : tsz Try.prog 75 = 1 := by kernel_rfl
theorem tz75 : tz Try.prog 75 = some [C.s true 0 []] := by kernel_rfl
theorem bo75 : Try.prog.bytesOf 75 = 24 := by kernel_rfl
theorem tk76 : tk Try.prog 76 = some (TK.st [(73, 0)]) := by kernel_rfl
theorem tsz76 : tsz Try.prog 76 = 1 := by kernel_rfl
theorem tz76 : tz Try.prog 76 = some [C.s true 0 []] := by kernel_rfl
theorem bo76 : Try.prog.bytesOf 76 = 24 := by kernel_rfl
theorem tk77 : tk Try.prog 77 = some TK.func := by kernel_rfl
theorem tsz77 : tsz Try.prog 77 = 1 := by kernel_rfl
theorem tz77 : tz Try.prog 77 = some [C.v Value.nilFunc] := by kernel_rfl
theorem bo77 : Try.prog.bytesOf 77 = 8 := by kernel_rfl
theorem tk78 : tk Try.prog 78 = some (TK.st [(3, 0), (3, 1)]) := by kernel_rfl
theorem tsz78 : tsz Try.prog 78 = 2 := by kernel_rfl
theorem tz78 : tz Try.prog 78 = some [C.v (Value.int IntKind.i64 0), C.v (Value.int IntKind.i64 0)] := by kernel_rfl
theorem bo78 : Try.prog.bytesOf 78 = 16 := by kernel_rfl
theorem tk79 : tk Try.prog 79 = some (TK.st [(3, 0), (3, 1)]) := by kernel_rfl
theorem tsz79 : tsz Try.prog 79 = 2 := by kernel_rfl
theorem tz79 : tz Try.prog 79 = some [C.v (Value.int IntKind.i64 0), C.v (Value.int IntKind.i64 0)] := by kernel_rfl
theorem bo79 : Try.prog.bytesOf 79 = 16 := by kernel_rfl
theorem tk80 : tk Try.prog 80 = some TK.func := by kernel_rfl
theorem tsz80 : tsz Try.prog 80 = 1 := by kernel_rfl
theorem tz80 : tz Try.prog 80 = some [C.v Value.nilFunc] := by kernel_rfl
theorem bo80 : Try.prog.bytesOf 80 = 8 := by kernel_rfl
theorem tk81 : tk Try.prog 81 = some TK.other := by kernel_rfl
theorem tsz81 : tsz Try.prog 81 = 1 := by kernel_rfl
theorem bo81 : Try.prog.bytesOf 81 = 0 := by kernel_rfl
theorem tk82 : tk Try.prog 82 = some TK.func := by kernel_rfl
theorem tsz82 : tsz Try.prog 82 = 1 := by kernel_rfl
theorem tz82 : tz Try.prog 82 = some [C.v Value.nilFunc] := by kernel_rfl
theorem bo82 : Try.prog.bytesOf 82 = 8 := by kernel_rfl
theorem tk83 : tk Try.prog 83 = some TK.func := by kernel_rfl
theorem tsz83 : tsz Try.prog 83 = 1 := by kernel_rfl
theorem tz83 : tz Try.prog 83 = some [C.v Value.nilFunc] := by kernel_rfl
theorem bo83 : Try.prog.bytesOf 83 = 8 := by kernel_rfl
theorem tk84 : tk Try.prog 84 = some TK.func := by kernel_rfl
theorem tsz84 : tsz Try.prog 84 = 1 := by kernel_rfl
theorem tz84 : tz Try.prog 84 = some [C.v Value.nilFunc] := by kernel_rfl
theorem bo84 : Try.prog.bytesOf 84 = 8 := by kernel_rfl
theorem tk85 : tk Try.prog 85 = some (TK.slice 87) := by kernel_rfl
theorem tsz85 : tsz Try.prog 85 = 1 := by kernel_rfl
theorem tz85 : tz Try.prog 85 = some [C.s true 0 []] := by kernel_rfl
theorem bo85 : Try.prog.bytesOf 85 = 24 := by kernel_rfl
theorem tk86 : tk Try.prog 86 = some (TK.st [(3, 0), (79, 1)]) := by kernel_rfl
theorem tsz86 : tsz Try.prog 86 = 3 := by kernel_rfl
theorem tz86 : tz Try.prog 86 = some [C.v (Value.int IntKind.i64 0), C.v (Value.int IntKind.i64 0), C.v (Value.int IntKind.i64 0)] := by kernel_rfl
theorem bo86 : Try.prog.bytesOf 86 = 24 := by kernel_rfl
theorem tk87 : tk Try.prog 87 = some (TK.st [(3, 0), (79, 1)]) := by kernel_rfl
theorem tsz87 : tsz Try.prog 87 = 3 := by kernel_rfl
theorem tz87 : tz Try.prog 87 = some [C.v (Value.int IntKind.i64 0), C.v (Value.int IntKind.i64 0), C.v (Value.int IntKind.i64 0)] := by kernel_rfl
theorem bo87 : Try.prog.bytesOf 87 = 24 := by kernel_rfl
theorem tk88 : tk Try.prog 88 = some TK.other := by kernel_rfl
theorem tsz88 : tsz Try.prog 88 = 1 := by kernel_rfl
theorem bo88 : Try.prog.bytesOf 88 = 0 := by kernel_rfl
theorem tk89 : tk Try.prog 89 = some TK.func := by kernel_rfl
theorem tsz89 : tsz Try.prog 89 = 1 := by kernel_rfl
theorem tz89 : tz Try.prog 89 = some [C.v Value.nilFunc] := by kernel_rfl
theorem bo89 : Try.prog.bytesOf 89 = 8 := by kernel_rfl
theorem tk90 : tk Try.prog 90 = some TK.func := by kernel_rfl
theorem tsz90 : tsz Try.prog 90 = 1 := by kernel_rfl
theorem tz90 : tz Try.prog 90 = some [C.v Value.nilFunc] := by kernel_rfl
theorem bo90 : Try.prog.bytesOf 90 = 8 := by kernel_rfl
theorem tk91 : tk Try.prog 91 = some TK.func := by kernel_rfl
theorem tsz91 : tsz Try.prog 91 = 1 := by kernel_rfl
theorem tz91 : tz Try.prog 91 = some [C.v Value.nilFunc] := by kernel_rfl
theorem bo91 : Try.prog.bytesOf 91 = 8 := by kernel_rfl
theorem tk92 : tk Try.prog 92 = some TK.func := by kernel_rfl
theorem tsz92 : tsz Try.prog 92 = 1 := by kernel_rfl
theorem tz92 : tz Try.prog 92 = some [C.v Value.nilFunc] := by kernel_rfl
theorem bo92 : Try.prog.bytesOf 92 = 8 := by kernel_rfl
theorem tk93 : tk Try.prog 93 = some TK.func := by kernel_rfl
theorem tsz93 : tsz Try.prog 93 = 1 := by kernel_rfl
theorem tz93 : tz Try.prog 93 = some [C.v Value.nilFunc] := by kernel_rfl
theorem bo93 : Try.prog.bytesOf 93 = 8 := by kernel_rfl
theorem tk94 : tk Try.prog 94 = some TK.func := by kernel_rfl
theorem tsz94 : tsz Try.prog 94 = 1 := by kernel_rfl
theorem tz94 : tz Try.prog 94 = some [C.v Value.nilFunc] := by kernel_rfl
theorem bo94 : Try.prog.bytesOf 94 = 8 := by kernel_rfl
theorem tk95 : tk Try.prog 95 = some (TK.int IntKind.u64) := by kernel_rfl
theorem tsz95 : tsz Try.prog 95 = 1 := by kernel_rfl
theorem tz95 : tz Try.prog 95 = some [C.v (Value.int IntKind.u64 0)] := by kernel_rfl
theorem bo95 : Try.prog.bytesOf 95 = 8 := by kernel_rfl
theorem tk96 : tk Try.prog 96 = some (TK.st [(3, 0), (4, 1), (2, 2), (95, 3), (9, 4)]) := by kernel_rfl
theorem tsz96 : tsz Try.prog 96 = 5 := by kernel_rfl
theorem tz96 : tz Try.prog 96 = some [C.v (Value.int IntKind.i64 0), C.v (Value.bool false), C.v (Value.int IntKind.i64 0), C.v (Value.int IntKind.u64 0), C.v (Value.string ⟨#[]⟩)] := by kernel_rfl
theorem bo96 : Try.prog.bytesOf 96 = 48 := by kernel_rfl
theorem tk97 : tk Try.prog 97 = some (TK.st [(3, 0), (4, 1), (2, 2), (95, 3), (9, 4)]) := by kernel_rfl
theorem tsz97 : tsz Try.prog 97 = 5 := by kernel_rfl
theorem tz97 : tz Try.prog 97 = some [C.v (Value.int IntKind.i64 0), C.v (Value.bool false), C.v (Value.int IntKind.i64 0), C.v (Value.int IntKind.u64 0), C.v (Value.string ⟨#[]⟩)] := by kernel_rfl
theorem bo97 : Try.prog.bytesOf 97 = 48 := by kernel_rfl
theorem tk98 : tk Try.prog 98 = some TK.func := by kernel_rfl
theorem tsz98 : tsz Try.prog 98 = 1 := by kernel_rfl
theorem tz98 : tz Try.prog 98 = some [C.v Value.nilFunc] := by kernel_rfl
theorem bo98 : Try.prog.bytesOf 98 = 8 := by kernel_rfl
theorem tk99 : tk Try.prog 99 = some TK.other := by kernel_rfl
theorem tsz99 : tsz Try.prog 99 = 1 := by kernel_rfl
theorem bo99 : Try.prog.bytesOf 99 = 0 := by kernel_rfl
theorem tk100 : tk Try.prog 100 = some TK.func := by kernel_rfl
theorem tsz100 : tsz Try.prog 100 = 1 := by kernel_rfl
theorem tz100 : tz Try.prog 100 = some [C.v Value.nilFunc] := by kernel_rfl
theorem bo100 : Try.prog.bytesOf 100 = 8 := by kernel_rfl
theorem tk101 : tk Try.prog 101 = some TK.func := by kernel_rfl
theorem tsz101 : tsz Try.prog 101 = 1 := by kernel_rfl
theorem tz101 : tz Try.prog 101 = some [C.v Value.nilFunc] := by kernel_rfl
theorem bo101 : Try.prog.bytesOf 101 = 8 := by kernel_rfl
theorem tk102 : tk Try.prog 102 = some TK.func := by kernel_rfl
theorem tsz102 : tsz Try.prog 102 = 1 := by kernel_rfl
theorem tz102 : tz Try.prog 102 = some [C.v Value.nilFunc] := by kernel_rfl
theorem bo102 : Try.prog.bytesOf 102 = 8 := by kernel_rfl
theorem tk103 : tk Try.prog 103 = some (TK.ptr 105) := by kernel_rfl
theorem tsz103 : tsz Try.prog 103 = 1 := by kernel_rfl
theorem tz103 : tz Try.prog 103 = some [C.v (Value.pointer none)] := by kernel_rfl
theorem bo103 : Try.prog.bytesOf 103 = 8 := by kernel_rfl
theorem tk104 : tk Try.prog 104 = some (TK.st [(9, 0), (4, 1)]) := by kernel_rfl
theorem tsz104 : tsz Try.prog 104 = 2 := by kernel_rfl
theorem tz104 : tz Try.prog 104 = some [C.v (Value.string ⟨#[]⟩), C.v (Value.bool false)] := by kernel_rfl
theorem bo104 : Try.prog.bytesOf 104 = 24 := by kernel_rfl
theorem tk105 : tk Try.prog 105 = some (TK.st [(9, 0), (4, 1)]) := by kernel_rfl
theorem tsz105 : tsz Try.prog 105 = 2 := by kernel_rfl
theorem tz105 : tz Try.prog 105 = some [C.v (Value.string ⟨#[]⟩), C.v (Value.bool false)] := by kernel_rfl
theorem bo105 : Try.prog.bytesOf 105 = 24 := by kernel_rfl
theorem tk106 : tk Try.prog 106 = some (TK.arr 2 28) := by kernel_rfl
theorem tsz106 : tsz Try.prog 106 = 2 := by kernel_rfl
theorem tz106 : tz Try.prog 106 = some [C.s true 0 [], C.s true 0 []] := by kernel_rfl
theorem bo106 : Try.prog.bytesOf 106 = 48 := by kernel_rfl
theorem tk107 : tk Try.prog 107 = some TK.func := by kernel_rfl
theorem tsz107 : tsz Try.prog 107 = 1 := by kernel_rfl
theorem tz107 : tz Try.prog 107 = some [C.v Value.nilFunc] := by kernel_rfl
theorem bo107 : Try.prog.bytesOf 107 = 8 := by kernel_rfl
theorem tk108 : tk Try.prog 108 = some TK.func := by kernel_rfl
theorem tsz108 : tsz Try.prog 108 = 1 := by kernel_rfl
theorem tz108 : tz Try.prog 108 = some [C.v Value.nilFunc] := by kernel_rfl
theorem bo108 : Try.prog.bytesOf 108 = 8 := by kernel_rfl
theorem tk109 : tk Try.prog 109 = some (TK.ptr 165) := by kernel_rfl
theorem tsz109 : tsz Try.prog 109 = 1 := by kernel_rfl
theorem tz109 : tz Try.prog 109 = some [C.v (Value.pointer none)] := by kernel_rfl
theorem bo109 : Try.prog.bytesOf 109 = 8 := by kernel_rfl
theorem tk110 : tk Try.prog 110 = some TK.func := by kernel_rfl
theorem tsz110 : tsz Try.prog 110 = 1 := by kernel_rfl
theorem tz110 : tz Try.prog 110 = some [C.v Value.nilFunc] := by kernel_rfl
theorem bo110 : Try.prog.bytesOf 110 = 8 := by kernel_rfl
theorem tk111 : tk Try.prog 111 = some TK.func := by kernel_rfl
theorem tsz111 : tsz Try.prog 111 = 1 := by kernel_rfl
theorem tz111 : tz Try.prog 111 = some [C.v Value.nilFunc] := by kernel_rfl
theorem bo111 : Try.prog.bytesOf 111 = 8 := by kernel_rfl
theorem tk112 : tk Try.prog 112 = some TK.func := by kernel_rfl
theorem tsz112 : tsz Try.prog 112 = 1 := by kernel_rfl
theorem tz112 : tz Try.prog 112 = some [C.v Value.nilFunc] := by kernel_rfl
theorem bo112 : Try.prog.bytesOf 112 = 8 := by kernel_rfl
theorem tk113 : tk Try.prog 113 = some TK.func := by kernel_rfl
theorem tsz113 : tsz Try.prog 113 = 1 := by kernel_rfl
theorem tz113 : tz Try.prog 113 = some [C.v Value.nilFunc] := by kernel_rfl
theorem bo113 : Try.prog.bytesOf 113 = 8 := by kernel_rfl
theorem tk114 : tk Try.prog 114 = some (TK.ptr 170) := by kernel_rfl
theorem tsz114 : tsz Try.prog 114 = 1 := by kernel_rfl
theorem tz114 : tz Try.prog 114 = some [C.v (Value.pointer none)] := by kernel_rfl
theorem bo114 : Try.prog.bytesOf 114 = 8 := by kernel_rfl
theorem tk115 : tk Try.prog 115 = some (TK.slice 173) := by kernel_rfl
theorem tsz115 : tsz Try.prog 115 = 1 := by kernel_rfl
theorem tz115 : tz Try.prog 115 = some [C.s true 0 []] := by kernel_rfl
theorem bo115 : Try.prog.bytesOf 115 = 24 := by kernel_rfl
theorem tk116 : tk Try.prog 116 = some TK.func := by kernel_rfl
theorem tsz116 : tsz Try.prog 116 = 1 := by kernel_rfl
theorem tz116 : tz Try.prog 116 = some [C.v Value.nilFunc] := by kernel_rfl
theorem bo116 : Try.prog.bytesOf 116 = 8 := by kernel_rfl
theorem tk117 : tk Try.prog 117 = some (TK.slice 121) := by kernel_rfl
theorem tsz117 : tsz Try.prog 117 = 1 := by kernel_rfl
theorem tz117 : tz Try.prog 117 = some [C.s true 0 []] := by kernel_rfl
theorem bo117 : Try.prog.bytesOf 117 = 24 := by kernel_rfl
theorem tk118 : tk Try.prog 118 = some TK.func := by kernel_rfl
theorem tsz118 : tsz Try.prog 118 = 1 := by kernel_rfl
theorem tz118 : tz Try.prog 118 = some [C.v Value.nilFunc] := by kernel_rfl
theorem bo118 : Try.prog.bytesOf 118 = 8 := by kernel_rfl
theorem tk119 : tk Try.prog 119 = some (TK.slice 177) := by kernel_rfl
theorem tsz119 : tsz Try.prog 119 = 1 := by kernel_rfl
theorem tz119 : tz Try.prog 119 = some [C.s true 0 []] := by kernel_rfl
theorem bo119 : Try.prog.bytesOf 119 = 24 := by kernel_rfl
theorem tk120 : tk Try.prog 120 = some (TK.st [(9, 0), (3, 1), (3, 2), (3, 3), (119, 4), (4, 5), (28, 6)]) := by kernel_rfl
theorem tsz120 : tsz Try.prog 120 = 7 := by kernel_rfl
theorem tz120 : tz Try.prog 120 = some [C.v (Value.string ⟨#[]⟩), C.v (Value.int IntKind.i64 0), C.v (Value.int IntKind.i64 0), C.v (Value.int IntKind.i64 0), C.s true 0 [], C.v (Value.bool false), C.s true 0 []] := by kernel_rfl
theorem bo120 : Try.prog.bytesOf 120 = 96 := by kernel_rfl
theorem tk121 : tk Try.prog 121 = some (TK.st [(9, 0), (3, 1), (3, 2), (3, 3), (119, 4), (4, 5), (28, 6)]) := by kernel_rfl
theorem tsz121 : tsz Try.prog 121 = 7 := by kernel_rfl
theorem tz121 : tz Try.prog 121 = some [C.v (Value.string ⟨#[]⟩), C.v (Value.int IntKind.i64 0), C.v (Value.int IntKind.i64 0), C.v (Value.int IntKind.i64 0), C.s true 0 [], C.v (Value.bool false), C.s true 0 []] := by kernel_rfl
theorem bo121 : Try.prog.bytesOf 121 = 96 := by kernel_rfl
theorem tk122 : tk Try.prog 122 = some TK.func := by kernel_rfl
theorem tsz122 : tsz Try.prog 122 = 1 := by kernel_rfl
theorem tz122 : tz Try.prog 122 = some [C.v Value.nilFunc] := by kernel_rfl
theorem bo122 : Try.prog.bytesOf 122 = 8 := by kernel_rfl
theorem tk123 : tk Try.prog 123 = some TK.func := by kernel_rfl
theorem tsz123 : tsz Try.prog 123 = 1 := by kernel_rfl
theorem tz123 : tz Try.prog 123 = some [C.v Value.nilFunc] := by kernel_rfl
theorem bo123 : Try.prog.bytesOf 123 = 8 := by kernel_rfl
theorem tk124 : tk Try.prog 124 = some TK.func := by kernel_rfl
theorem tsz124 : tsz Try.prog 124 = 1 := by kernel_rfl
theorem tz124 : tz Try.prog 124 = some [C.v Value.nilFunc] := by kernel_rfl
theorem bo124 : Try.prog.bytesOf 124 = 8 := by kernel_rfl
theorem tk125 : tk Try.prog 125 = some TK.func := by kernel_rfl
theorem tsz125 : tsz Try.prog 125 = 1 := by kernel_rfl
theorem tz125 : tz Try.prog 125 = some [C.v Value.nilFunc] := by kernel_rfl
theorem bo125 : Try.prog.bytesOf 125 = 8 := by kernel_rfl
theorem tk126 : tk Try.prog 126 = some (TK.ptr 128) := by kernel_rfl
theorem tsz126 : tsz Try.prog 126 = 1 := by kernel_rfl
theorem tz126 : tz Try.prog 126 = some [C.v (Value.pointer none)] := by kernel_rfl
theorem bo126 : Try.prog.bytesOf 126 = 8 := by kernel_rfl
theorem tk127 : tk Try.prog 127 = some (TK.st [(9, 0), (3, 1)]) := by kernel_rfl
theorem tsz127 : tsz Try.prog 127 = 2 := by kernel_rfl
theorem tz127 : tz Try.prog 127 = some [C.v (Value.string ⟨#[]⟩), C.v (Value.int IntKind.i64 0)] := by kernel_rfl
theorem bo127 : Try.prog.bytesOf 127 = 24 := by kernel_rfl
theorem tk128 : tk Try.prog 128 = some (TK.st [(9, 0), (3, 1)]) := by kernel_rfl
theorem tsz128 : tsz Try.prog 128 = 2 := by kernel_rfl
theorem tz128 : tz Try.prog 128 = some [C.v (Value.string ⟨#[]⟩), C.v (Value.int IntKind.i64 0)] := by kernel_rfl
theorem bo128 : Try.prog.bytesOf 128 = 24 := by kernel_rfl
theorem tk129 : tk Try.prog 129 = some TK.other := by kernel_rfl
theorem tsz129 : tsz Try.prog 129 = 1 := by kernel_rfl
theorem bo129 : Try.prog.bytesOf 129 = 0 := by kernel_rfl
theorem tk130 : tk Try.prog 130 = some TK.func := by kernel_rfl
theorem tsz130 : tsz Try.prog 130 = 1 := by kernel_rfl
theorem tz130 : tz Try.prog 130 = some [C.v Value.nilFunc] := by kernel_rfl
theorem bo130 : Try.prog.bytesOf 130 = 8 := by kernel_rfl
theorem tk131 : tk Try.prog 131 = some TK.func := by kernel_rfl
theorem tsz131 : tsz Try.prog 131 = 1 := by kernel_rfl
theorem tz131 : tz Try.prog 131 = some [C.v Value.nilFunc] := by kernel_rfl
theorem bo131 : Try.prog.bytesOf 131 = 8 := by kernel_rfl
theorem tk132 : tk Try.prog 132 = some TK.other := by kernel_rfl
theorem tsz132 : tsz Try.prog 132 = 1 := by kernel_rfl
theorem bo132 : Try.prog.bytesOf 132 = 0 := by kernel_rfl
theorem tk133 : tk Try.prog 133 = some TK.func := by kernel_rfl
theorem tsz133 : tsz Try.prog 133 = 1 := by kernel_rfl
theorem tz133 : tz Try.prog 133 = some [C.v Value.nilFunc] := by kernel_rfl
theorem bo133 : Try.prog.bytesOf 133 = 8 := by kernel_rfl
theorem tk134 : tk Try.prog 134 = some (TK.slice 141) := by kernel_rfl
theorem tsz134 : tsz Try.prog 134 = 1 := by kernel_rfl
theorem tz134 : tz Try.prog 134 = some [C.s true 0 []] := by kernel_rfl
theorem bo134 : Try.prog.bytesOf 134 = 24 := by kernel_rfl
theorem tk135 : tk Try.prog 135 = some TK.other := by kernel_rfl
theorem tsz135 : tsz Try.prog 135 = 1 := by kernel_rfl
theorem bo135 : Try.prog.bytesOf 135 = 0 := by kernel_rfl
theorem tk136 : tk Try.prog 136 = some TK.func := by kernel_rfl
theorem tsz136 : tsz Try.prog 136 = 1 := by kernel_rfl
theorem tz136 : tz Try.prog 136 = some [C.v Value.nilFunc] := by kernel_rfl
theorem bo136 : Try.prog.bytesOf 136 = 8 := by kernel_rfl
theorem tk137 : tk Try.prog 137 = some (TK.slice 239) := by kernel_rfl
theorem tsz137 : tsz Try.prog 137 = 1 := by kernel_rfl
theorem tz137 : tz Try.prog 137 = some [C.s true 0 []] := by kernel_rfl
theorem bo137 : Try.prog.bytesOf 137 = 24 := by kernel_rfl
theorem tk138 : tk Try.prog 138 = some (TK.st [(9, 0), (3, 1), (137, 2)]) := by kernel_rfl
theorem tsz138 : tsz Try.prog 138 = 3 := by kernel_rfl
theorem tz138 : tz Try.prog 138 = some [C.v (Value.string ⟨#[]⟩), C.v (Value.int IntKind.i64 0), C.s true 0 []] := by kernel_rfl
theorem bo138 : Try.prog.bytesOf 138 = 48 := by kernel_rfl
theorem tk139 : tk Try.prog 139 = some (TK.st [(9, 0), (3, 1), (137, 2)]) := by kernel_rfl
theorem tsz139 : tsz Try.prog 139 = 3 := by kernel_rfl
theorem tz139 : tz Try.prog 139 = some [C.v (Value.string ⟨#[]⟩), C.v (Value.int IntKind.i64 0), C.s true 0 []] := by kernel_rfl
theorem bo139 : Try.prog.bytesOf 139 = 48 := by kernel_rfl
theorem tk140 : tk Try.prog 140 = some (TK.st [(3, 0), (139, 1), (9, 4), (9, 5), (28, 6), (9, 7), (3, 8), (3, 9), (95, 10), (3, 11)]) := by kernel_rfl
theorem tsz140 : tsz Try.prog 140 = 12 := by kernel_rfl
theorem tz140 : tz Try.prog 140 = some [C.v (Value.int IntKind.i64 0), C.v (Value.string ⟨#[]⟩), C.v (Value.int IntKind.i64 0), C.s true 0 [], C.v (Value.string ⟨#[]⟩), C.v (Value.string ⟨#[]⟩), C.s true 0 [], C.v (Value.string ⟨#[]⟩), C.v (Value.int IntKind.i64 0), C.v (Value.int IntKind.i64 0), C.v (Value.int IntKind.u64 0), C.v (Value.int IntKind.i64 0)] := by kernel_rfl
theorem bo140 : Try.prog.bytesOf 140 = 160 := by kernel_rfl
theorem tk141 : tk Try.prog 141 = some (TK.st [(3, 0), (139, 1), (9, 4), (9, 5), (28, 6), (9, 7), (3, 8), (3, 9), (95, 10), (3, 11)]) := by kernel_rfl
theorem tsz141 : tsz Try.prog 141 = 12 := by kernel_rfl
theorem tz141 : tz Try.prog 141 = some [C.v (Value.int IntKind.i64 0), C.v (Value.string ⟨#[]⟩), C.v (Value.int IntKind.i64 0), C.s true 0 [], C.v (Value.string ⟨#[]⟩), C.v (Value.string ⟨#[]⟩), C.s true 0 [], C.v (Value.string ⟨#[]⟩), C.v (Value.int IntKind.i64 0), C.v (Value.int IntKind.i64 0), C.v (Value.int IntKind.u64 0), C.v (Value.int IntKind.i64 0)] := by kernel_rfl
theorem bo141 : Try.prog.bytesOf 141 = 160 := by kernel_rfl
theorem tk142 : tk Try.prog 142 = some (TK.ptr 144) := by kernel_rfl
theorem tsz142 : tsz Try.prog 142 = 1 := by kernel_rfl
theorem tz142 : tz Try.prog 142 = some [C.v (Value.pointer none)] := by kernel_rfl
theorem bo142 : Try.prog.bytesOf 142 = 8 := by kernel_rfl
theorem tk143 : tk Try.prog 143 = some (TK.st [(142, 0), (71, 1)]) := by kernel_rfl
theorem tsz143 : tsz Try.prog 143 = 2 := by kernel_rfl
theorem tz143 : tz Try.prog 143 = some [C.v (Value.pointer none), C.s true 0 []] := by kernel_rfl
theorem bo143 : Try.prog.bytesOf 143 = 32 := by kernel_rfl
theorem tk144 : tk Try.prog 144 = some (TK.st [(142, 0), (71, 1)]) := by kernel_rfl
theorem tsz144 : tsz Try.prog 144 = 2 := by kernel_rfl
theorem tz144 : tz Try.prog 144 = some [C.v (Value.pointer none), C.s true 0 []] := by kernel_rfl
theorem bo144 : Try.prog.bytesOf 144 = 32 := by kernel_rfl
theorem tk145 : tk Try.prog 145 = some TK.other := by kernel_rfl
theorem tsz145 : tsz Try.prog 145 = 1 := by kernel_rfl
theorem tz145 : tz Try.prog 145 = some [C.v Value.nilIface] := by kernel_rfl
theorem bo145 : Try.prog.bytesOf 145 = 16 := by kernel_rfl
theorem tk146 : tk Try.prog 146 = some TK.other := by kernel_rfl
theorem tsz146 : tsz Try.prog 146 = 1 := by kernel_rfl
theorem tz146 : tz Try.prog 146 = some [C.v Value.nilIface] := by kernel_rfl
theorem bo146 : Try.prog.bytesOf 146 = 16 := by kernel_rfl
theorem tk147 : tk Try.prog 147 = some TK.func := by kernel_rfl
theorem tsz147 : tsz Try.prog 147 = 1 := by kernel_rfl
theorem tz147 : tz Try.prog 147 = some [C.v Value.nilFunc] := by kernel_rfl
theorem bo147 : Try.prog.bytesOf 147 = 8 := by kernel_rfl
theorem tk148 : tk Try.prog 148 = some TK.other := by kernel_rfl
theorem tsz148 : tsz Try.prog 148 = 1 := by kernel_rfl
theorem bo148 : Try.prog.bytesOf 148 = 0 := by kernel_rfl
theorem tk149 : tk Try.prog 149 = some TK.func := by kernel_rfl
theorem tsz149 : tsz Try.prog 149 = 1 := by kernel_rfl
theorem tz149 : tz Try.prog 149 = some [C.v Value.nilFunc] := by kernel_rfl
theorem bo149 : Try.prog.bytesOf 149 = 8 := by kernel_rfl
theorem tk150 : tk Try.prog 150 = some (TK.int IntKind.u64) := by kernel_rfl
theorem tsz150 : tsz Try.prog 150 = 1 := by kernel_rfl
theorem tz150 : tz Try.prog 150 = some [C.v (Value.int IntKind.u64 0)] := by kernel_rfl
theorem bo150 : Try.prog.bytesOf 150 = 8 := by kernel_rfl
theorem tk151 : tk Try.prog 151 = some TK.func := by kernel_rfl
theorem tsz151 : tsz Try.prog 151 = 1 := by kernel_rfl
theorem tz151 : tz Try.prog 151 = some [C.v Value.nilFunc] := by kernel_rfl
theorem bo151 : Try.prog.bytesOf 151 = 8 := by kernel_rfl
theorem tk152 : tk Try.prog 152 = some TK.func := by kernel_rfl
theorem tsz152 : tsz Try.prog 152 = 1 := by kernel_rfl
theorem tz152 : tz Try.prog 152 = some [C.v Value.nilFunc] := by kernel_rfl
theorem bo152 : Try.prog.bytesOf 152 = 8 := by kernel_rfl
theorem tk153 : tk Try.prog 153 = some TK.func := by kernel_rfl
theorem tsz153 : tsz Try.prog 153 = 1 := by kernel_rfl
theorem tz153 : tz Try.prog 153 = some [C.v Value.nilFunc] := by kernel_rfl
theorem bo153 : Try.prog.bytesOf 153 = 8 := by kernel_rfl
theorem tk154 : tk Try.prog 154 = some TK.func := by kernel_rfl
theorem tsz154 : tsz Try.prog 154 = 1 := by kernel_rfl
theorem tz154 : tz Try.prog 154 = some [C.v Value.nilFunc] := by kernel_rfl
theorem bo154 : Try.prog.bytesOf 154 = 8 := by kernel_rfl
theorem tk155 : tk Try.prog 155 = some TK.func := by kernel_rfl
theorem tsz155 : tsz Try.prog 155 = 1 := by kernel_rfl
theorem tz155 : tz Try.prog 155 = some [C.v Value.nilFunc] := by kernel_rfl
theorem bo155 : Try.prog.bytesOf 155 = 8 := by kernel_rfl
theorem tk156 : tk Try.prog 156 = some TK.func := by kernel_rfl
theorem tsz156 : tsz Try.prog 156 = 1 := by kernel_rfl
theorem tz156 : tz Try.prog 156 = some [C.v Value.nilFunc] := by kernel_rfl
theorem bo156 : Try.prog.bytesOf 156 = 8 := by kernel_rfl
theorem tk157 : tk Try.prog 157 = some TK.func := by kernel_rfl
theorem tsz157 : tsz Try.prog 157 = 1 := by kernel_rfl
theorem tz157 : tz Try.prog 157 = some [C.v Value.nilFunc] := by kernel_rfl
theorem bo157 : Try.prog.bytesOf 157 = 8 := by kernel_rfl
theorem tk158 : tk Try.prog 158 = some TK.func := by kernel_rfl
theorem tsz158 : tsz Try.prog 158 = 1 := by kernel_rfl
theorem tz158 : tz Try.prog 158 = some [C.v Value.nilFunc] := by kernel_rfl
theorem bo158 : Try.prog.bytesOf 158 = 8 := by kernel_rfl
theorem tk159 : tk Try.prog 159 = some (TK.ptr 161) := by kernel_rfl
theorem tsz159 : tsz Try.prog 159 = 1 := by kernel_rfl
theorem tz159 : tz Try.prog 159 = some [C.v (Value.pointer none)] := by kernel_rfl
theorem bo159 : Try.prog.bytesOf 159 = 8 := by kernel_rfl
theorem tk160 : tk Try.prog 160 = some (TK.st [(63, 0), (3, 1), (3, 2), (3, 3)]) := by kernel_rfl
theorem tsz160 : tsz Try.prog 160 = 4 := by kernel_rfl
theorem tz160 : tz Try.prog 160 = some [C.s true 0 [], C.v (Value.int IntKind.i64 0), C.v (Value.int IntKind.i64 0), C.v (Value.int IntKind.i64 0)] := by kernel_rfl
theorem bo160 : Try.prog.bytesOf 160 = 48 := by kernel_rfl
theorem tk161 : tk Try.prog 161 = some (TK.st [(63, 0), (3, 1), (3, 2), (3, 3)]) := by kernel_rfl
theorem tsz161 : tsz Try.prog 161 = 4 := by kernel_rfl
theorem tz161 : tz Try.prog 161 = some [C.s true 0 [], C.v (Value.int IntKind.i64 0), C.v (Value.int IntKind.i64 0), C.v (Value.int IntKind.i64 0)] := by kernel_rfl
theorem bo161 : Try.prog.bytesOf 161 = 48 := by kernel_rfl
theorem tk162 : tk Try.prog 162 = some TK.func := by kernel_rfl
theorem tsz162 : tsz Try.prog 162 = 1 := by kernel_rfl
theorem tz162 : tz Try.prog 162 = some [C.v Value.nilFunc] := by kernel_rfl
theorem bo162 : Try.prog.bytesOf 162 = 8 := by kernel_rfl
theorem tk163 : tk Try.prog 163 = some TK.func := by kernel_rfl
theorem tsz163 : tsz Try.prog 163 = 1 := by kernel_rfl
theorem tz163 : tz Try.prog 163 = some [C.v Value.nilFunc] := by kernel_rfl
theorem bo163 : Try.prog.bytesOf 163 = 8 := by kernel_rfl
theorem tk164 : tk Try.prog 164 = some (TK.st [(9, 0), (3, 1), (35, 2)]) := by kernel_rfl
theorem tsz164 : tsz Try.prog 164 = 3 := by kernel_rfl
theorem tz164 : tz Try.prog 164 = some [C.v (Value.string ⟨#[]⟩), C.v (Value.int IntKind.i64 0), C.v (Value.int IntKind.i64 0)] := by kernel_rfl
theorem bo164 : Try.prog.bytesOf 164 = 32 := by kernel_rfl
theorem tk165 : tk Try.prog 165 = some (TK.st [(9, 0), (3, 1), (35, 2)]) := by kernel_rfl
theorem tsz165 : tsz Try.prog 165 = 3 := by kernel_rfl
theorem tz165 : tz Try.prog 165 = some [C.v (Value.string ⟨#[]⟩), C.v (Value.int IntKind.i64 0), C.v (Value.int IntKind.i64 0)] := by kernel_rfl
theorem bo165 : Try.prog.bytesOf 165 = 32 := by kernel_rfl
theorem tk166 : tk Try.prog 166 = some TK.func := by kernel_rfl
theorem tsz166 : tsz Try.prog 166 = 1 := by kernel_rfl
theorem tz166 : tz Try.prog 166 = some [C.v Value.nilFunc] := by kernel_rfl
theorem bo166 : Try.prog.bytesOf 166 = 8 := by kernel_rfl
theorem tk167 : tk Try.prog 167 = some TK.func := by kernel_rfl
theorem tsz167 : tsz Try.prog 167 = 1 := by kernel_rfl
theorem tz167 : tz Try.prog 167 = some [C.v Value.nilFunc] := by kernel_rfl
theorem bo167 : Try.prog.bytesOf 167 = 8 := by kernel_rfl
theorem tk168 : tk Try.prog 168 = some (TK.map 9 3) := by kernel_rfl
theorem tsz168 : tsz Try.prog 168 = 1 := by kernel_rfl
theorem tz168 : tz Try.prog 168 = some [C.v (Value.map none)] := by kernel_rfl
theorem bo168 : Try.prog.bytesOf 168 = 8 := by kernel_rfl
theorem tk169 : tk Try.prog 169 = some (TK.st [(117, 0), (168, 1), (115, 2), (3, 3), (3, 4)]) := by kernel_rfl
theorem tsz169 : tsz Try.prog 169 = 5 := by kernel_rfl
theorem tz169 : tz Try.prog 169 = some [C.s true 0 [], C.v (Value.map none), C.s true 0 [], C.v (Value.int IntKind.i64 0), C.v (Value.int IntKind.i64 0)] := by kernel_rfl
theorem bo169 : Try.prog.bytesOf 169 = 72 := by kernel_rfl
theorem tk170 : tk Try.prog 170 = some (TK.st [(117, 0), (168, 1), (115, 2), (3, 3), (3, 4)]) := by kernel_rfl
theorem tsz170 : tsz Try.prog 170 = 5 := by kernel_rfl
theorem tz170 : tz Try.prog 170 = some [C.s true 0 [], C.v (Value.map none), C.s true 0 [], C.v (Value.int IntKind.i64 0), C.v (Value.int IntKind.i64 0)] := by kernel_rfl
theorem bo170 : Try.prog.bytesOf 170 = 72 := by kernel_rfl
theorem tk171 : tk Try.prog 171 = some TK.func := by kernel_rfl
theorem tsz171 : tsz Try.prog 171 = 1 := by kernel_rfl
theorem tz171 : tz Try.prog 171 = some [C.v Value.nilFunc] := by kernel_rfl
theorem bo171 : Try.prog.bytesOf 171 = 8 := by kernel_rfl
theorem tk172 : tk Try.prog 172 = some (TK.st [(3, 0), (9, 1)]) := by kernel_rfl
theorem tsz172 : tsz Try.prog 172 = 2 := by kernel_rfl
theorem tz172 : tz Try.prog 172 = some [C.v (Value.int IntKind.i64 0), C.v (Value.string ⟨#[]⟩)] := by kernel_rfl
theorem bo172 : Try.prog.bytesOf 172 = 24 := by kernel_rfl
theorem tk173 : tk Try.prog 173 = some (TK.st [(3, 0), (9, 1)]) := by kernel_rfl
theorem tsz173 : tsz Try.prog 173 = 2 := by kernel_rfl
theorem tz173 : tz Try.prog 173 = some [C.v (Value.int IntKind.i64 0), C.v (Value.string ⟨#[]⟩)] := by kernel_rfl
theorem bo173 : Try.prog.bytesOf 173 = 24 := by kernel_rfl
theorem tk174 : tk Try.prog 174 = some TK.func := by kernel_rfl
theorem tsz174 : tsz Try.prog 174 = 1 := by kernel_rfl
theorem tz174 : tz Try.prog 174 = some [C.v Value.nilFunc] := by kernel_rfl
theorem bo174 : Try.prog.bytesOf 174 = 8 := by kernel_rfl
theorem tk175 : tk Try.prog 175 = some (TK.ptr 43) := by kernel_rfl
theorem tsz175 : tsz Try.prog 175 = 1 := by kernel_rfl
theorem tz175 : tz Try.prog 175 = some [C.v (Value.pointer none)] := by kernel_rfl
theorem bo175 : Try.prog.bytesOf 175 = 8 := by kernel_rfl
theorem tk176 : tk Try.prog 176 = some (TK.st [(9, 0), (9, 1), (9, 2), (4, 3)]) := by kernel_rfl
theorem tsz176 : tsz Try.prog 176 = 4 := by kernel_rfl
theorem tz176 : tz Try.prog 176 = some [C.v (Value.string ⟨#[]⟩), C.v (Value.string ⟨#[]⟩), C.v (Value.string ⟨#[]⟩), C.v (Value.bool false)] := by kernel_rfl
theorem bo176 : Try.prog.bytesOf 176 = 56 := by kernel_rfl
theorem tk177 : tk Try.prog 177 = some (TK.st [(9, 0), (9, 1), (9, 2), (4, 3)]) := by kernel_rfl
theorem tsz177 : tsz Try.prog 177 = 4 := by kernel_rfl
theorem tz177 : tz Try.prog 177 = some [C.v (Value.string ⟨#[]⟩), C.v (Value.string ⟨#[]⟩), C.v (Value.string ⟨#[]⟩), C.v (Value.bool false)] := by kernel_rfl
theorem bo177 : Try.prog.bytesOf 177 = 56 := by kernel_rfl
theorem tk178 : tk Try.prog 178 = some TK.func := by kernel_rfl
theorem tsz178 : tsz Try.prog 178 = 1 := by kernel_rfl
theorem tz178 : tz Try.prog 178 = some [C.v Value.nilFunc] := by kernel_rfl
theorem bo178 : Try.prog.bytesOf 178 = 8 := by kernel_rfl
theorem tk179 : tk Try.prog 179 = some TK.float := by kernel_rfl
theorem tsz179 : tsz Try.prog 179 = 1 := by kernel_rfl
theorem tz179 : tz Try.prog 179 = some [C.v (Value.float FloatKind.f64 0)] := by kernel_rfl
theorem bo179 : Try.prog.bytesOf 179 = 8 := by kernel_rfl
theorem tk180 : tk Try.prog 180 = some TK.func := by kernel_rfl
theorem tsz180 : tsz Try.prog 180 = 1 := by kernel_rfl
theorem tz180 : tz Try.prog 180 = some [C.v Value.nilFunc] := by kernel_rfl
theorem bo180 : Try.prog.bytesOf 180 = 8 := by kernel_rfl
theorem tk181 : tk Try.prog 181 = some TK.func := by kernel_rfl
theorem tsz181 : tsz Try.prog 181 = 1 := by kernel_rfl
theorem tz181 : tz Try.prog 181 = some [C.v Value.nilFunc] := by kernel_rfl
theorem bo181 : Try.prog.bytesOf 181 = 8 := by kernel_rfl
theorem tk182 : tk Try.prog 182 = some TK.func := by kernel_rfl
theorem tsz182 : tsz Try.prog 182 = 1 := by kernel_rfl
theorem tz182 : tz Try.prog 182 = some [C.v Value.nilFunc] := by kernel_rfl
theorem bo182 : Try.prog.bytesOf 182 = 8 := by kernel_rfl
theorem tk183 : tk Try.prog 183 = some TK.func := by kernel_rfl
theorem tsz183 : tsz Try.prog 183 = 1 := by kernel_rfl
theorem tz183 : tz Try.prog 183 = some [C.v Value.nilFunc] := by kernel_rfl
theorem bo183 : Try.prog.bytesOf 183 = 8 := by kernel_rfl
theorem tk184 : tk Try.prog 184 = some TK.func := by kernel_rfl
theorem tsz184 : tsz Try.prog 184 = 1 := by kernel_rfl
theorem tz184 : tz Try.prog 184 = some [C.v Value.nilFunc] := by kernel_rfl
theorem bo184 : Try.prog.bytesOf 184 = 8 := by kernel_rfl
theorem tk185 : tk Try.prog 185 = some TK.func := by kernel_rfl
theorem tsz185 : tsz Try.prog 185 = 1 := by kernel_rfl
theorem tz185 : tz Try.prog 185 = some [C.v Value.nilFunc] := by kernel_rfl
theorem bo185 : Try.prog.bytesOf 185 = 8 := by kernel_rfl
theorem tk186 : tk Try.prog 186 = some TK.func := by kernel_rfl
theorem tsz186 : tsz Try.prog 186 = 1 := by kernel_rfl
theorem tz186 : tz Try.prog 186 = some [C.v Value.nilFunc] := by kernel_rfl
theorem bo186 : Try.prog.bytesOf 186 = 8 := by kernel_rfl
theorem tk187 : tk Try.prog 187 = some TK.func := by kernel_rfl
theorem tsz187 : tsz Try.prog 187 = 1 := by kernel_rfl
theorem tz187 : tz Try.prog 187 = some [C.v Value.nilFunc] := by kernel_rfl
theorem bo187 : Try.prog.bytesOf 187 = 8 := by kernel_rfl
theorem tk188 : tk Try.prog 188 = some TK.func := by kernel_rfl
theorem tsz188 : tsz Try.prog 188 = 1 := by kernel_rfl
theorem tz188 : tz Try.prog 188 = some [C.v Value.nilFunc] := by kernel_rfl
theorem bo188 : Try.prog.bytesOf 188 = 8 := by kernel_rfl
theorem tk189 : tk Try.prog 189 = some TK.func := by kernel_rfl
theorem tsz189 : tsz Try.prog 189 = 1 := by kernel_rfl
theorem tz189 : tz Try.prog 189 = some [C.v Value.nilFunc] := by kernel_rfl
theorem bo189 : Try.prog.bytesOf 189 = 8 := by kernel_rfl
theorem tk190 : tk Try.prog 190 = some (TK.ptr 5) := by kernel_rfl
theorem tsz190 : tsz Try.prog 190 = 1 := by kernel_rfl
theorem tz190 : tz Try.prog 190 = some [C.v (Value.pointer none)] := by kernel_rfl
theorem bo190 : Try.prog.bytesOf 190 = 8 := by kernel_rfl
theorem tk191 : tk Try.prog 191 = some TK.func := by kernel_rfl
theorem tsz191 : tsz Try.prog 191 = 1 := by kernel_rfl
theorem tz191 : tz Try.prog 191 = some [C.v Value.nilFunc] := by kernel_rfl
theorem bo191 : Try.prog.bytesOf 191 = 8 := by kernel_rfl
theorem tk192 : tk Try.prog 192 = some TK.func := by kernel_rfl
theorem tsz192 : tsz Try.prog 192 = 1 := by kernel_rfl
theorem tz192 : tz Try.prog 192 = some [C.v Value.nilFunc] := by kernel_rfl
theorem bo192 : Try.prog.bytesOf 192 = 8 := by kernel_rfl
theorem tk193 : tk Try.prog 193 = some TK.func := by kernel_rfl
theorem tsz193 : tsz Try.prog 193 = 1 := by kernel_rfl
theorem tz193 : tz Try.prog 193 = some [C.v Value.nilFunc] := by kernel_rfl
theorem bo193 : Try.prog.bytesOf 193 = 8 := by kernel_rfl
theorem tk194 : tk Try.prog 194 = some TK.func := by kernel_rfl
theorem tsz194 : tsz Try.prog 194 = 1 := by kernel_rfl
theorem tz194 : tz Try.prog 194 = some [C.v Value.nilFunc] := by kernel_rfl
theorem bo194 : Try.prog.bytesOf 194 = 8 := by kernel_rfl
theorem tk195 : tk Try.prog 195 = some TK.func := by kernel_rfl
theorem tsz195 : tsz Try.prog 195 = 1 := by kernel_rfl
theorem tz195 : tz Try.prog 195 = some [C.v Value.nilFunc] := by kernel_rfl
theorem bo195 : Try.prog.bytesOf 195 = 8 := by kernel_rfl
theorem tk196 : tk Try.prog 196 = some (TK.arr 2 3) := by kernel_rfl
theorem tsz196 : tsz Try.prog 196 = 2 := by kernel_rfl
theorem tz196 : tz Try.prog 196 = some [C.v (Value.int IntKind.i64 0), C.v (Value.int IntKind.i64 0)] := by kernel_rfl
theorem bo196 : Try.prog.bytesOf 196 = 16 := by kernel_rfl
theorem tk197 : tk Try.prog 197 = some TK.func := by kernel_rfl
theorem tsz197 : tsz Try.prog 197 = 1 := by kernel_rfl
theorem tz197 : tz Try.prog 197 = some [C.v Value.nilFunc] := by kernel_rfl
theorem bo197 : Try.prog.bytesOf 197 = 8 := by kernel_rfl
theorem tk198 : tk Try.prog 198 = some TK.func := by kernel_rfl
theorem tsz198 : tsz Try.prog 198 = 1 := by kernel_rfl
theorem tz198 : tz Try.prog 198 = some [C.v Value.nilFunc] := by kernel_rfl
theorem bo198 : Try.prog.bytesOf 198 = 8 := by kernel_rfl
theorem tk199 : tk Try.prog 199 = some TK.func := by kernel_rfl
theorem tsz199 : tsz Try.prog 199 = 1 := by kernel_rfl
theorem tz199 : tz Try.prog 199 = some [C.v Value.nilFunc] := by kernel_rfl
theorem bo199 : Try.prog.bytesOf 199 = 8 := by kernel_rfl
theorem tk200 : tk Try.prog 200 = some TK.func := by kernel_rfl
theorem tsz200 : tsz Try.prog 200 = 1 := by kernel_rfl
theorem tz200 : tz Try.prog 200 = some [C.v Value.nilFunc] := by kernel_rfl
theorem bo200 : Try.prog.bytesOf 200 = 8 := by kernel_rfl
theorem tk201 : tk Try.prog 201 = some TK.func := by kernel_rfl
theorem tsz201 : tsz Try.prog 201 = 1 := by kernel_rfl
theorem tz201 : tz Try.prog 201 = some [C.v Value.nilFunc] := by kernel_rfl
theorem bo201 : Try.prog.bytesOf 201 = 8 := by kernel_rfl
theorem tk202 : tk Try.prog 202 = some TK.func := by kernel_rfl
theorem tsz202 : tsz Try.prog 202 = 1 := by kernel_rfl
theorem tz202 : tz Try.prog 202 = some [C.v Value.nilFunc] := by kernel_rfl
theorem bo202 : Try.prog.bytesOf 202 = 8 := by kernel_rfl
theorem tk203 : tk Try.prog 203 = some TK.func := by kernel_rfl
theorem tsz203 : tsz Try.prog 203 = 1 := by kernel_rfl
theorem tz203 : tz Try.prog 203 = some [C.v Value.nilFunc] := by kernel_rfl
theorem bo203 : Try.prog.bytesOf 203 = 8 := by kernel_rfl
theorem tk204 : tk Try.prog 204 = some TK.func := by kernel_rfl
theorem tsz204 : tsz Try.prog 204 = 1 := by kernel_rfl
theorem tz204 : tz Try.prog 204 = some [C.v Value.nilFunc] := by kernel_rfl
theorem bo204 : Try.prog.bytesOf 204 = 8 := by kernel_rfl
theorem tk205 : tk Try.prog 205 = some TK.func := by kernel_rfl
theorem tsz205 : tsz Try.prog 205 = 1 := by kernel_rfl
theorem tz205 : tz Try.prog 205 = some [C.v Value.nilFunc] := by kernel_rfl
theorem bo205 : Try.prog.bytesOf 205 = 8 := by kernel_rfl
theorem tk206 : tk Try.prog 206 = some TK.func := by kernel_rfl
theorem tsz206 : tsz Try.prog 206 = 1 := by kernel_rfl
theorem tz206 : tz Try.prog 206 = some [C.v Value.nilFunc] := by kernel_rfl
theorem bo206 : Try.prog.bytesOf 206 = 8 := by kernel_rfl
theorem tk207 : tk Try.prog 207 = some TK.other := by kernel_rfl
theorem tsz207 : tsz Try.prog 207 = 1 := by kernel_rfl
theorem bo207 : Try.prog.bytesOf 207 = 0 := by kernel_rfl
theorem tk208 : tk Try.prog 208 = some TK.func := by kernel_rfl
theorem tsz208 : tsz Try.prog 208 = 1 := by kernel_rfl
theorem tz208 : tz Try.prog 208 = some [C.v Value.nilFunc] := by kernel_rfl
theorem bo208 : Try.prog.bytesOf 208 = 8 := by kernel_rfl
theorem tk209 : tk Try.prog 209 = some (TK.arr 16 9) := by kernel_rfl
theorem tsz209 : tsz Try.prog 209 = 16 := by kernel_rfl
theorem tz209 : tz Try.prog 209 = some [C.v (Value.string ⟨#[]⟩), C.v (Value.string ⟨#[]⟩), C.v (Value.string ⟨#[]⟩), C.v (Value.string ⟨#[]⟩), C.v (Value.string ⟨#[]⟩), C.v (Value.string ⟨#[]⟩), C.v (Value.string ⟨#[]⟩), C.v (Value.string ⟨#[]⟩), C.v (Value.string ⟨#[]⟩), C.v (Value.string ⟨#[]⟩), C.v (Value.string ⟨#[]⟩), C.v (Value.string ⟨#[]⟩), C.v (Value.string ⟨#[]⟩), C.v (Value.string ⟨#[]⟩), C.v (Value.string ⟨#[]⟩), C.v (Value.string ⟨#[]⟩)] := by kernel_rfl
theorem bo209 : Try.prog.bytesOf 209 = 256 := by kernel_rfl
theorem tk210 : tk Try.prog 210 = some TK.func := by kernel_rfl
theorem tsz210 : tsz Try.prog 210 = 1 := by kernel_rfl
theorem tz210 : tz Try.prog 210 = some [C.v Value.nilFunc] := by kernel_rfl
theorem bo210 : Try.prog.bytesOf 210 = 8 := by kernel_rfl
theorem tk211 : tk Try.prog 211 = some TK.func := by kernel_rfl
theorem tsz211 : tsz Try.prog 211 = 1 := by kernel_rfl
theorem tz211 : tz Try.prog 211 = some [C.v Value.nilFunc] := by kernel_rfl
theorem bo211 : Try.prog.bytesOf 211 = 8 := by kernel_rfl
theorem tk212 : tk Try.prog 212 = some TK.func := by kernel_rfl
theorem tsz212 : tsz Try.prog 212 = 1 := by kernel_rfl
theorem tz212 : tz Try.prog 212 = some [C.v Value.nilFunc] := by kernel_rfl
theorem bo212 : Try.prog.bytesOf 212 = 8 := by kernel_rfl
theorem tk213 : tk Try.prog 213 = some (TK.ptr 141) := by kernel_rfl
theorem tsz213 : tsz Try.prog 213 = 1 := by kernel_rfl
theorem tz213 : tz Try.prog 213 = some [C.v (Value.pointer none)] := by kernel_rfl
theorem bo213 : Try.prog.bytesOf 213 = 8 := by kernel_rfl
theorem tk214 : tk Try.prog 214 = some TK.other := by kernel_rfl
theorem tsz214 : tsz Try.prog 214 = 1 := by kernel_rfl
theorem tz214 : tz Try.prog 214 = some [C.v (Value.pointer none)] := by kernel_rfl
theorem bo214 : Try.prog.bytesOf 214 = 8 := by kernel_rfl
theorem tk215 : tk Try.prog 215 = some TK.func := by kernel_rfl
theorem tsz215 : tsz Try.prog 215 = 1 := by kernel_rfl
theorem tz215 : tz Try.prog 215 = some [C.v Value.nilFunc] := by kernel_rfl
theorem bo215 : Try.prog.bytesOf 215 = 8 := by kernel_rfl
theorem tk216 : tk Try.prog 216 = some TK.func := by kernel_rfl
theorem tsz216 : tsz Try.prog 216 = 1 := by kernel_rfl
theorem tz216 : tz Try.prog 216 = some [C.v Value.nilFunc] := by kernel_rfl
theorem bo216 : Try.prog.bytesOf 216 = 8 := by kernel_rfl
theorem tk217 : tk Try.prog 217 = some (TK.int IntKind.i64) := by kernel_rfl
theorem tsz217 : tsz Try.prog 217 = 1 := by kernel_rfl
theorem tz217 : tz Try.prog 217 = some [C.v (Value.int IntKind.i64 0)] := by kernel_rfl
theorem bo217 : Try.prog.bytesOf 217 = 8 := by kernel_rfl
theorem tk218 : tk Try.prog 218 = some TK.other := by kernel_rfl
theorem tsz218 : tsz Try.prog 218 = 1 := by kernel_rfl
theorem bo218 : Try.prog.bytesOf 218 = 0 := by kernel_rfl
theorem tk219 : tk Try.prog 219 = some TK.func := by kernel_rfl
theorem tsz219 : tsz Try.prog 219 = 1 := by kernel_rfl
theorem tz219 : tz Try.prog 219 = some [C.v Value.nilFunc] := by kernel_rfl
theorem bo219 : Try.prog.bytesOf 219 = 8 := by kernel_rfl
theorem tk220 : tk Try.prog 220 = some TK.func := by kernel_rfl
theorem tsz220 : tsz Try.prog 220 = 1 := by kernel_rfl
theorem tz220 : tz Try.prog 220 = some [C.v Value.nilFunc] := by kernel_rfl
theorem bo220 : Try.prog.bytesOf 220 = 8 := by kernel_rfl
theorem tk221 : tk Try.prog 221 = some TK.func := by kernel_rfl
theorem tsz221 : tsz Try.prog 221 = 1 := by kernel_rfl
theorem tz221 : tz Try.prog 221 = some [C.v Value.nilFunc] := by kernel_rfl
theorem bo221 : Try.prog.bytesOf 221 = 8 := by kernel_rfl
theorem tk222 : tk Try.prog 222 = some TK.func := by kernel_rfl
theorem tsz222 : tsz Try.prog 222 = 1 := by kernel_rfl
theorem tz222 : tz Try.prog 222 = some [C.v Value.nilFunc] := by kernel_rfl
theorem bo222 : Try.prog.bytesOf 222 = 8 := by kernel_rfl
theorem tk223 : tk Try.prog 223 = some TK.func := by kernel_rfl
theorem tsz223 : tsz Try.prog 223 = 1 := by kernel_rfl
theorem tz223 : tz Try.prog 223 = some [C.v Value.nilFunc] := by kernel_rfl
theorem bo223 : Try.prog.bytesOf 223 = 8 := by kernel_rfl
theorem tk224 : tk Try.prog 224 = some (TK.int IntKind.u32) := by kernel_rfl
theorem tsz224 : tsz Try.prog 224 = 1 := by kernel_rfl
theorem tz224 : tz Try.prog 224 = some [C.v (Value.int IntKind.u32 0)] := by kernel_rfl
theorem bo224 : Try.prog.bytesOf 224 = 4 := by kernel_rfl
theorem tk225 : tk Try.prog 225 = some TK.func := by kernel_rfl
theorem tsz225 : tsz Try.prog 225 = 1 := by kernel_rfl
theorem tz225 : tz Try.prog 225 = some [C.v Value.nilFunc] := by kernel_rfl
theorem bo225 : Try.prog.bytesOf 225 = 8 := by kernel_rfl
theorem tk226 : tk Try.prog 226 = some TK.other := by kernel_rfl
theorem tsz226 : tsz Try.prog 226 = 1 := by kernel_rfl
theorem bo226 : Try.prog.bytesOf 226 = 0 := by kernel_rfl
theorem tk227 : tk Try.prog 227 = some TK.func := by kernel_rfl
theorem tsz227 : tsz Try.prog 227 = 1 := by kernel_rfl
theorem tz227 : tz Try.prog 227 = some [C.v Value.nilFunc] := by kernel_rfl
theorem bo227 : Try.prog.bytesOf 227 = 8 := by kernel_rfl
theorem tk228 : tk Try.prog 228 = some TK.func := by kernel_rfl
theorem tsz228 : tsz Try.prog 228 = 1 := by kernel_rfl
theorem tz228 : tz Try.prog 228 = some [C.v Value.nilFunc] := by kernel_rfl
theorem bo228 : Try.prog.bytesOf 228 = 8 := by kernel_rfl
theorem tk229 : tk Try.prog 229 = some TK.func := by kernel_rfl
theorem tsz229 : tsz Try.prog 229 = 1 := by kernel_rfl
theorem tz229 : tz Try.prog 229 = some [C.v Value.nilFunc] := by kernel_rfl
theorem bo229 : Try.prog.bytesOf 229 = 8 := by kernel_rfl
theorem tk230 : tk Try.prog 230 = some TK.func := by kernel_rfl
theorem tsz230 : tsz Try.prog 230 = 1 := by kernel_rfl
theorem tz230 : tz Try.prog 230 = some [C.v Value.nilFunc] := by kernel_rfl
theorem bo230 : Try.prog.bytesOf 230 = 8 := by kernel_rfl
theorem tk231 : tk Try.prog 231 = some TK.func := by kernel_rfl
theorem tsz231 : tsz Try.prog 231 = 1 := by kernel_rfl
theorem tz231 : tz Try.prog 231 = some [C.v Value.nilFunc] := by kernel_rfl
theorem bo231 : Try.prog.bytesOf 231 = 8 := by kernel_rfl
theorem tk232 : tk Try.prog 232 = some TK.func := by kernel_rfl
theorem tsz232 : tsz Try.prog 232 = 1 := by kernel_rfl
theorem tz232 : tz Try.prog 232 = some [C.v Value.nilFunc] := by kernel_rfl
theorem bo232 : Try.prog.bytesOf 232 = 8 := by kernel_rfl
theorem tk233 : tk Try.prog 233 = some (TK.int IntKind.u64) := by kernel_rfl
theorem tsz233 : tsz Try.prog 233 = 1 := by kernel_rfl
theorem tz233 : tz Try.prog 233 = some [C.v (Value.int IntKind.u64 0)] := by kernel_rfl
theorem bo233 : Try.prog.bytesOf 233 = 8 := by kernel_rfl
theorem tk234 : tk Try.prog 234 = some TK.func := by kernel_rfl
theorem tsz234 : tsz Try.prog 234 = 1 := by kernel_rfl
theorem tz234 : tz Try.prog 234 = some [C.v Value.nilFunc] := by kernel_rfl
theorem bo234 : Try.prog.bytesOf 234 = 8 := by kernel_rfl
theorem tk235 : tk Try.prog 235 = some TK.func := by kernel_rfl
theorem tsz235 : tsz Try.prog 235 = 1 := by kernel_rfl
theorem tz235 : tz Try.prog 235 = some [C.v Value.nilFunc] := by kernel_rfl
theorem bo235 : Try.prog.bytesOf 235 = 8 := by kernel_rfl
theorem tk236 : tk Try.prog 236 = some (TK.ptr 3) := by kernel_rfl
theorem tsz236 : tsz Try.prog 236 = 1 := by kernel_rfl
theorem tz236 : tz Try.prog 236 = some [C.v (Value.pointer none)] := by kernel_rfl
theorem bo236 : Try.prog.bytesOf 236 = 8 := by kernel_rfl
theorem tk237 : tk Try.prog 237 = some TK.func := by kernel_rfl
theorem tsz237 : tsz Try.prog 237 = 1 := by kernel_rfl
theorem tz237 : tz Try.prog 237 = some [C.v Value.nilFunc] := by kernel_rfl
theorem bo237 : Try.prog.bytesOf 237 = 8 := by kernel_rfl
theorem tk238 : tk Try.prog 238 = some (TK.st [(9, 0), (97, 1)]) := by kernel_rfl
theorem tsz238 : tsz Try.prog 238 = 6 := by kernel_rfl
theorem tz238 : tz Try.prog 238 = some [C.v (Value.string ⟨#[]⟩), C.v (Value.int IntKind.i64 0), C.v (Value.bool false), C.v (Value.int IntKind.i64 0), C.v (Value.int IntKind.u64 0), C.v (Value.string ⟨#[]⟩)] := by kernel_rfl
theorem bo238 : Try.prog.bytesOf 238 = 64 := by kernel_rfl
theorem tk239 : tk Try.prog 239 = some (TK.st [(9, 0), (97, 1)]) := by kernel_rfl
theorem tsz239 : tsz Try.prog 239 = 6 := by kernel_rfl
theorem tz239 : tz Try.prog 239 = some [C.v (Value.string ⟨#[]⟩), C.v (Value.int IntKind.i64 0), C.v (Value.bool false), C.v (Value.int IntKind.i64 0), C.v (Value.int IntKind.u64 0), C.v (Value.string ⟨#[]⟩)] := by kernel_rfl
theorem bo239 : Try.prog.bytesOf 239 = 64 := by kernel_rfl
theorem tk240 : tk Try.prog 240 = some (TK.ptr 233) := by kernel_rfl
theorem tsz240 : tsz Try.prog 240 = 1 := by kernel_rfl
theorem tz240 : tz Try.prog 240 = some [C.v (Value.pointer none)] := by kernel_rfl
theorem bo240 : Try.prog.bytesOf 240 = 8 := by kernel_rfl
theorem tk241 : tk Try.prog 241 = some TK.func := by kernel_rfl
theorem tsz241 : tsz Try.prog 241 = 1 := by kernel_rfl
theorem tz241 : tz Try.prog 241 = some [C.v Value.nilFunc] := by kernel_rfl
theorem bo241 : Try.prog.bytesOf 241 = 8 := by kernel_rfl
theorem tk242 : tk Try.prog 242 = some (TK.st [(17, 0), (17, 1), (17, 2), (9, 3)]) := by kernel_rfl
theorem tsz242 : tsz Try.prog 242 = 4 := by kernel_rfl
theorem tz242 : tz Try.prog 242 = some [C.v (Value.pointer none), C.v (Value.pointer none), C.v (Value.pointer none), C.v (Value.string ⟨#[]⟩)] := by kernel_rfl
theorem bo242 : Try.prog.bytesOf 242 = 40 := by kernel_rfl
theorem mixed : Try.prog.follows .mixedOrders = true := by kernel_rfl

end Go.Dl
