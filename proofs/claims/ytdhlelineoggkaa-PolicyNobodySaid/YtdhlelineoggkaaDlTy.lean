/- 'Dl': the types of this program, as far as they are asked. -/
import Derived.Test.YtdhlelineoggkaaDlZd
import Derived.Test.YtdhlelineoggkaaProg
namespace Go.Dl
open Go.RowKit
open Go.Proofs

theorem tk0 : tk Try.prog 0 = some TK.other := by kernel_rfl
theorem tsz0 : tsz Try.prog 0 = 1 := by kernel_rfl
theorem bo0 : Try.prog.bytesOf 0 = 0 := by kernel_rfl
theorem tk1 : tk Try.prog 1 = some TK.func := by kernel_rfl
theorem tsz1 : tsz Try.prog 1 = 1 := by kernel_rfl
theorem tz1 : tz Try.prog 1 = some [C.v Value.nilFunc] := by kernel_rfl
theorem bo1 : Try.prog.bytesOf 1 = 8 := by kernel_rfl
theorem tk2 : tk Try.prog 2 = some (TK.int IntKind.i64) := by kernel_rfl
theorem tsz2 : tsz Try.prog 2 = 1 := by kernel_rfl
theorem tz2 : tz Try.prog 2 = some [C.v (Value.int IntKind.i64 0)] := by kernel_rfl
theorem bo2 : Try.prog.bytesOf 2 = 8 := by kernel_rfl
theorem tk3 : tk Try.prog 3 = some (TK.int IntKind.i64) := by kernel_rfl
theorem tsz3 : tsz Try.prog 3 = 1 := by kernel_rfl
theorem tz3 : tz Try.prog 3 = some [C.v (Value.int IntKind.i64 0)] := by kernel_rfl
theorem bo3 : Try.prog.bytesOf 3 = 8 := by kernel_rfl
theorem tk4 : tk Try.prog 4 = some TK.bool := by kernel_rfl
theorem tsz4 : tsz Try.prog 4 = 1 := by kernel_rfl
theorem tz4 : tz Try.prog 4 = some [C.v (Value.bool false)] := by kernel_rfl
theorem bo4 : Try.prog.bytesOf 4 = 1 := by kernel_rfl
theorem tk5 : tk Try.prog 5 = some (TK.int IntKind.u8) := by kernel_rfl
theorem tsz5 : tsz Try.prog 5 = 1 := by kernel_rfl
theorem tz5 : tz Try.prog 5 = some [C.v (Value.int IntKind.u8 0)] := by kernel_rfl
theorem bo5 : Try.prog.bytesOf 5 = 1 := by kernel_rfl
theorem tk6 : tk Try.prog 6 = some (TK.int IntKind.u8) := by kernel_rfl
theorem tsz6 : tsz Try.prog 6 = 1 := by kernel_rfl
theorem tz6 : tz Try.prog 6 = some [C.v (Value.int IntKind.u8 0)] := by kernel_rfl
theorem bo6 : Try.prog.bytesOf 6 = 1 := by kernel_rfl
theorem tk7 : tk Try.prog 7 = some (TK.st [(2, 0), (3, 1), (4, 2), (6, 3)]) := by kernel_rfl
theorem tsz7 : tsz Try.prog 7 = 4 := by kernel_rfl
theorem tz7 : tz Try.prog 7 = some [C.v (Value.int IntKind.i64 0), C.v (Value.int IntKind.i64 0), C.v (Value.bool false), C.v (Value.int IntKind.u8 0)] := by kernel_rfl
theorem bo7 : Try.prog.bytesOf 7 = 24 := by kernel_rfl
theorem tk8 : tk Try.prog 8 = some (TK.st [(2, 0), (3, 1), (4, 2), (6, 3)]) := by kernel_rfl
theorem tsz8 : tsz Try.prog 8 = 4 := by kernel_rfl
theorem tz8 : tz Try.prog 8 = some [C.v (Value.int IntKind.i64 0), C.v (Value.int IntKind.i64 0), C.v (Value.bool false), C.v (Value.int IntKind.u8 0)] := by kernel_rfl
theorem bo8 : Try.prog.bytesOf 8 = 24 := by kernel_rfl
theorem tk9 : tk Try.prog 9 = some TK.str := by kernel_rfl
theorem tsz9 : tsz Try.prog 9 = 1 := by kernel_rfl
theorem tz9 : tz Try.prog 9 = some [C.v (Value.string ⟨#[]⟩)] := by kernel_rfl
theorem bo9 : Try.prog.bytesOf 9 = 16 := by kernel_rfl
theorem tk10 : tk Try.prog 10 = some TK.str := by kernel_rfl
theorem tsz10 : tsz Try.prog 10 = 1 := by kernel_rfl
theorem tz10 : tz Try.prog 10 = some [C.v (Value.string ⟨#[]⟩)] := by kernel_rfl
theorem bo10 : Try.prog.bytesOf 10 = 16 := by kernel_rfl
theorem tk11 : tk Try.prog 11 = some TK.str := by kernel_rfl
theorem tsz11 : tsz Try.prog 11 = 1 := by kernel_rfl
theorem tz11 : tz Try.prog 11 = some [C.v (Value.string ⟨#[]⟩)] := by kernel_rfl
theorem bo11 : Try.prog.bytesOf 11 = 16 := by kernel_rfl
theorem tk12 : tk Try.prog 12 = some (TK.int IntKind.u64) := by kernel_rfl
theorem tsz12 : tsz Try.prog 12 = 1 := by kernel_rfl
theorem tz12 : tz Try.prog 12 = some [C.v (Value.int IntKind.u64 0)] := by kernel_rfl
theorem bo12 : Try.prog.bytesOf 12 = 8 := by kernel_rfl
theorem tk13 : tk Try.prog 13 = some (TK.st [(9, 0), (12, 1)]) := by kernel_rfl
theorem tsz13 : tsz Try.prog 13 = 2 := by kernel_rfl
theorem tz13 : tz Try.prog 13 = some [C.v (Value.string ⟨#[]⟩), C.v (Value.int IntKind.u64 0)] := by kernel_rfl
theorem bo13 : Try.prog.bytesOf 13 = 24 := by kernel_rfl
theorem tk14 : tk Try.prog 14 = some (TK.st [(9, 0), (12, 1)]) := by kernel_rfl
theorem tsz14 : tsz Try.prog 14 = 2 := by kernel_rfl
theorem tz14 : tz Try.prog 14 = some [C.v (Value.string ⟨#[]⟩), C.v (Value.int IntKind.u64 0)] := by kernel_rfl
theorem bo14 : Try.prog.bytesOf 14 = 24 := by kernel_rfl
theorem tk15 : tk Try.prog 15 = some (TK.ptr 74) := by kernel_rfl
theorem tsz15 : tsz Try.prog 15 = 1 := by kernel_rfl
theorem tz15 : tz Try.prog 15 = some [C.v (Value.pointer none)] := by kernel_rfl
theorem bo15 : Try.prog.bytesOf 15 = 8 := by kernel_rfl
theorem tk16 : tk Try.prog 16 = some (TK.ptr 77) := by kernel_rfl
theorem tsz16 : tsz Try.prog 16 = 1 := by kernel_rfl
theorem tz16 : tz Try.prog 16 = some [C.v (Value.pointer none)] := by kernel_rfl
theorem bo16 : Try.prog.bytesOf 16 = 8 := by kernel_rfl
theorem tk17 : tk Try.prog 17 = some (TK.ptr 85) := by kernel_rfl
theorem tsz17 : tsz Try.prog 17 = 1 := by kernel_rfl
theorem tz17 : tz Try.prog 17 = some [C.v (Value.pointer none)] := by kernel_rfl
theorem bo17 : Try.prog.bytesOf 17 = 8 := by kernel_rfl
theorem tk18 : tk Try.prog 18 = some (TK.st [(17, 0)]) := by kernel_rfl
theorem tsz18 : tsz Try.prog 18 = 1 := by kernel_rfl
theorem tz18 : tz Try.prog 18 = some [C.v (Value.pointer none)] := by kernel_rfl
theorem bo18 : Try.prog.bytesOf 18 = 8 := by kernel_rfl
theorem tk19 : tk Try.prog 19 = some (TK.st [(17, 0)]) := by kernel_rfl
theorem tsz19 : tsz Try.prog 19 = 1 := by kernel_rfl
theorem tz19 : tz Try.prog 19 = some [C.v (Value.pointer none)] := by kernel_rfl
theorem bo19 : Try.prog.bytesOf 19 = 8 := by kernel_rfl
theorem tk20 : tk Try.prog 20 = some TK.other := by kernel_rfl
theorem tsz20 : tsz Try.prog 20 = 1 := by kernel_rfl
theorem tz20 : tz Try.prog 20 = some [C.v Value.nilIface] := by kernel_rfl
theorem bo20 : Try.prog.bytesOf 20 = 16 := by kernel_rfl
theorem tk21 : tk Try.prog 21 = some (TK.int IntKind.i32) := by kernel_rfl
theorem tsz21 : tsz Try.prog 21 = 1 := by kernel_rfl
theorem tz21 : tz Try.prog 21 = some [C.v (Value.int IntKind.i32 0)] := by kernel_rfl
theorem bo21 : Try.prog.bytesOf 21 = 4 := by kernel_rfl
theorem tk22 : tk Try.prog 22 = some (TK.st [(3, 0), (3, 1)]) := by kernel_rfl
theorem tsz22 : tsz Try.prog 22 = 2 := by kernel_rfl
theorem tz22 : tz Try.prog 22 = some [C.v (Value.int IntKind.i64 0), C.v (Value.int IntKind.i64 0)] := by kernel_rfl
theorem bo22 : Try.prog.bytesOf 22 = 16 := by kernel_rfl
theorem tk23 : tk Try.prog 23 = some (TK.st [(3, 0), (3, 1)]) := by kernel_rfl
theorem tsz23 : tsz Try.prog 23 = 2 := by kernel_rfl
theorem tz23 : tz Try.prog 23 = some [C.v (Value.int IntKind.i64 0), C.v (Value.int IntKind.i64 0)] := by kernel_rfl
theorem bo23 : Try.prog.bytesOf 23 = 16 := by kernel_rfl
theorem tk24 : tk Try.prog 24 = some (TK.ptr 36) := by kernel_rfl
theorem tsz24 : tsz Try.prog 24 = 1 := by kernel_rfl
theorem tz24 : tz Try.prog 24 = some [C.v (Value.pointer none)] := by kernel_rfl
theorem bo24 : Try.prog.bytesOf 24 = 8 := by kernel_rfl
theorem tk25 : tk Try.prog 25 = some TK.func := by kernel_rfl
theorem tsz25 : tsz Try.prog 25 = 1 := by kernel_rfl
theorem tz25 : tz Try.prog 25 = some [C.v Value.nilFunc] := by kernel_rfl
theorem bo25 : Try.prog.bytesOf 25 = 8 := by kernel_rfl
theorem tk26 : tk Try.prog 26 = some TK.other := by kernel_rfl
theorem tsz26 : tsz Try.prog 26 = 1 := by kernel_rfl
theorem bo26 : Try.prog.bytesOf 26 = 0 := by kernel_rfl
theorem tk27 : tk Try.prog 27 = some TK.func := by kernel_rfl
theorem tsz27 : tsz Try.prog 27 = 1 := by kernel_rfl
theorem tz27 : tz Try.prog 27 = some [C.v Value.nilFunc] := by kernel_rfl
theorem bo27 : Try.prog.bytesOf 27 = 8 := by kernel_rfl
theorem tk28 : tk Try.prog 28 = some TK.func := by kernel_rfl
theorem tsz28 : tsz Try.prog 28 = 1 := by kernel_rfl
theorem tz28 : tz Try.prog 28 = some [C.v Value.nilFunc] := by kernel_rfl
theorem bo28 : Try.prog.bytesOf 28 = 8 := by kernel_rfl
theorem tk29 : tk Try.prog 29 = some TK.func := by kernel_rfl
theorem tsz29 : tsz Try.prog 29 = 1 := by kernel_rfl
theorem tz29 : tz Try.prog 29 = some [C.v Value.nilFunc] := by kernel_rfl
theorem bo29 : Try.prog.bytesOf 29 = 8 := by kernel_rfl
theorem tk30 : tk Try.prog 30 = some TK.func := by kernel_rfl
theorem tsz30 : tsz Try.prog 30 = 1 := by kernel_rfl
theorem tz30 : tz Try.prog 30 = some [C.v Value.nilFunc] := by kernel_rfl
theorem bo30 : Try.prog.bytesOf 30 = 8 := by kernel_rfl
theorem tk31 : tk Try.prog 31 = some (TK.slice 23) := by kernel_rfl
theorem tsz31 : tsz Try.prog 31 = 1 := by kernel_rfl
theorem tz31 : tz Try.prog 31 = some [C.s true 0 []] := by kernel_rfl
theorem bo31 : Try.prog.bytesOf 31 = 24 := by kernel_rfl
theorem tk32 : tk Try.prog 32 = some TK.func := by kernel_rfl
theorem tsz32 : tsz Try.prog 32 = 1 := by kernel_rfl
theorem tz32 : tz Try.prog 32 = some [C.v Value.nilFunc] := by kernel_rfl
theorem bo32 : Try.prog.bytesOf 32 = 8 := by kernel_rfl
theorem tk33 : tk Try.prog 33 = some TK.func := by kernel_rfl
theorem tsz33 : tsz Try.prog 33 = 1 := by kernel_rfl
theorem tz33 : tz Try.prog 33 = some [C.v Value.nilFunc] := by kernel_rfl
theorem bo33 : Try.prog.bytesOf 33 = 8 := by kernel_rfl
theorem tk34 : tk Try.prog 34 = some TK.func := by kernel_rfl
theorem tsz34 : tsz Try.prog 34 = 1 := by kernel_rfl
theorem tz34 : tz Try.prog 34 = some [C.v Value.nilFunc] := by kernel_rfl
theorem bo34 : Try.prog.bytesOf 34 = 8 := by kernel_rfl
theorem tk35 : tk Try.prog 35 = some (TK.st [(31, 0)]) := by kernel_rfl
theorem tsz35 : tsz Try.prog 35 = 1 := by kernel_rfl
theorem tz35 : tz Try.prog 35 = some [C.s true 0 []] := by kernel_rfl
theorem bo35 : Try.prog.bytesOf 35 = 24 := by kernel_rfl
theorem tk36 : tk Try.prog 36 = some (TK.st [(31, 0)]) := by kernel_rfl
theorem tsz36 : tsz Try.prog 36 = 1 := by kernel_rfl
theorem tz36 : tz Try.prog 36 = some [C.s true 0 []] := by kernel_rfl
theorem bo36 : Try.prog.bytesOf 36 = 24 := by kernel_rfl
theorem tk37 : tk Try.prog 37 = some TK.func := by kernel_rfl
theorem tsz37 : tsz Try.prog 37 = 1 := by kernel_rfl
theorem tz37 : tz Try.prog 37 = some [C.v Value.nilFunc] := by kernel_rfl
theorem bo37 : Try.prog.bytesOf 37 = 8 := by kernel_rfl
theorem tk38 : tk Try.prog 38 = some TK.func := by kernel_rfl
theorem tsz38 : tsz Try.prog 38 = 1 := by kernel_rfl
theorem tz38 : tz Try.prog 38 = some [C.v Value.nilFunc] := by kernel_rfl
theorem bo38 : Try.prog.bytesOf 38 = 8 := by kernel_rfl
theorem tk39 : tk Try.prog 39 = some (TK.slice 3) := by kernel_rfl
theorem tsz39 : tsz Try.prog 39 = 1 := by kernel_rfl
theorem tz39 : tz Try.prog 39 = some [C.s true 0 []] := by kernel_rfl
theorem bo39 : Try.prog.bytesOf 39 = 24 := by kernel_rfl
theorem tk40 : tk Try.prog 40 = some TK.func := by kernel_rfl
theorem tsz40 : tsz Try.prog 40 = 1 := by kernel_rfl
theorem tz40 : tz Try.prog 40 = some [C.v Value.nilFunc] := by kernel_rfl
theorem bo40 : Try.prog.bytesOf 40 = 8 := by kernel_rfl
theorem tk41 : tk Try.prog 41 = some TK.func := by kernel_rfl
theorem tsz41 : tsz Try.prog 41 = 1 := by kernel_rfl
theorem tz41 : tz Try.prog 41 = some [C.v Value.nilFunc] := by kernel_rfl
theorem bo41 : Try.prog.bytesOf 41 = 8 := by kernel_rfl
theorem tk42 : tk Try.prog 42 = some TK.func := by kernel_rfl
theorem tsz42 : tsz Try.prog 42 = 1 := by kernel_rfl
theorem tz42 : tz Try.prog 42 = some [C.v Value.nilFunc] := by kernel_rfl
theorem bo42 : Try.prog.bytesOf 42 = 8 := by kernel_rfl
theorem tk43 : tk Try.prog 43 = some TK.func := by kernel_rfl
theorem tsz43 : tsz Try.prog 43 = 1 := by kernel_rfl
theorem tz43 : tz Try.prog 43 = some [C.v Value.nilFunc] := by kernel_rfl
theorem bo43 : Try.prog.bytesOf 43 = 8 := by kernel_rfl
theorem tk44 : tk Try.prog 44 = some TK.func := by kernel_rfl
theorem tsz44 : tsz Try.prog 44 = 1 := by kernel_rfl
theorem tz44 : tz Try.prog 44 = some [C.v Value.nilFunc] := by kernel_rfl
theorem bo44 : Try.prog.bytesOf 44 = 8 := by kernel_rfl
theorem tk45 : tk Try.prog 45 = some TK.func := by kernel_rfl
theorem tsz45 : tsz Try.prog 45 = 1 := by kernel_rfl
theorem tz45 : tz Try.prog 45 = some [C.v Value.nilFunc] := by kernel_rfl
theorem bo45 : Try.prog.bytesOf 45 = 8 := by kernel_rfl
theorem tk46 : tk Try.prog 46 = some (TK.arr 2 3) := by kernel_rfl
theorem tsz46 : tsz Try.prog 46 = 2 := by kernel_rfl
theorem tz46 : tz Try.prog 46 = some [C.v (Value.int IntKind.i64 0), C.v (Value.int IntKind.i64 0)] := by kernel_rfl
theorem bo46 : Try.prog.bytesOf 46 = 16 := by kernel_rfl
theorem tk47 : tk Try.prog 47 = some TK.func := by kernel_rfl
theorem tsz47 : tsz Try.prog 47 = 1 := by kernel_rfl
theorem tz47 : tz Try.prog 47 = some [C.v Value.nilFunc] := by kernel_rfl
theorem bo47 : Try.prog.bytesOf 47 = 8 := by kernel_rfl
theorem tk48 : tk Try.prog 48 = some TK.func := by kernel_rfl
theorem tsz48 : tsz Try.prog 48 = 1 := by kernel_rfl
theorem tz48 : tz Try.prog 48 = some [C.v Value.nilFunc] := by kernel_rfl
theorem bo48 : Try.prog.bytesOf 48 = 8 := by kernel_rfl
theorem tk49 : tk Try.prog 49 = some TK.func := by kernel_rfl
theorem tsz49 : tsz Try.prog 49 = 1 := by kernel_rfl
theorem tz49 : tz Try.prog 49 = some [C.v Value.nilFunc] := by kernel_rfl
theorem bo49 : Try.prog.bytesOf 49 = 8 := by kernel_rfl
theorem tk50 : tk Try.prog 50 = some (TK.int IntKind.u64) := by kernel_rfl
theorem tsz50 : tsz Try.prog 50 = 1 := by kernel_rfl
theorem tz50 : tz Try.prog 50 = some [C.v (Value.int IntKind.u64 0)] := by kernel_rfl
theorem bo50 : Try.prog.bytesOf 50 = 8 := by kernel_rfl
theorem tk51 : tk Try.prog 51 = some TK.func := by kernel_rfl
theorem tsz51 : tsz Try.prog 51 = 1 := by kernel_rfl
theorem tz51 : tz Try.prog 51 = some [C.v Value.nilFunc] := by kernel_rfl
theorem bo51 : Try.prog.bytesOf 51 = 8 := by kernel_rfl
theorem tk52 : tk Try.prog 52 = some (TK.int IntKind.i64) := by kernel_rfl
theorem tsz52 : tsz Try.prog 52 = 1 := by kernel_rfl
theorem tz52 : tz Try.prog 52 = some [C.v (Value.int IntKind.i64 0)] := by kernel_rfl
theorem bo52 : Try.prog.bytesOf 52 = 8 := by kernel_rfl
theorem tk53 : tk Try.prog 53 = some TK.other := by kernel_rfl
theorem tsz53 : tsz Try.prog 53 = 1 := by kernel_rfl
theorem bo53 : Try.prog.bytesOf 53 = 0 := by kernel_rfl
theorem tk54 : tk Try.prog 54 = some TK.func := by kernel_rfl
theorem tsz54 : tsz Try.prog 54 = 1 := by kernel_rfl
theorem tz54 : tz Try.prog 54 = some [C.v Value.nilFunc] := by kernel_rfl
theorem bo54 : Try.prog.bytesOf 54 = 8 := by kernel_rfl
theorem tk55 : tk Try.prog 55 = some TK.func := by kernel_rfl
theorem tsz55 : tsz Try.prog 55 = 1 := by kernel_rfl
theorem tz55 : tz Try.prog 55 = some [C.v Value.nilFunc] := by kernel_rfl
theorem bo55 : Try.prog.bytesOf 55 = 8 := by kernel_rfl
theorem tk56 : tk Try.prog 56 = some TK.func := by kernel_rfl
theorem tsz56 : tsz Try.prog 56 = 1 := by kernel_rfl
theorem tz56 : tz Try.prog 56 = some [C.v Value.nilFunc] := by kernel_rfl
theorem bo56 : Try.prog.bytesOf 56 = 8 := by kernel_rfl
theorem tk57 : tk Try.prog 57 = some TK.other := by kernel_rfl
theorem tsz57 : tsz Try.prog 57 = 1 := by kernel_rfl
theorem bo57 : Try.prog.bytesOf 57 = 0 := by kernel_rfl
theorem tk58 : tk Try.prog 58 = some TK.func := by kernel_rfl
theorem tsz58 : tsz Try.prog 58 = 1 := by kernel_rfl
theorem tz58 : tz Try.prog 58 = some [C.v Value.nilFunc] := by kernel_rfl
theorem bo58 : Try.prog.bytesOf 58 = 8 := by kernel_rfl
theorem tk59 : tk Try.prog 59 = some TK.func := by kernel_rfl
theorem tsz59 : tsz Try.prog 59 = 1 := by kernel_rfl
theorem tz59 : tz Try.prog 59 = some [C.v Value.nilFunc] := by kernel_rfl
theorem bo59 : Try.prog.bytesOf 59 = 8 := by kernel_rfl
theorem tk60 : tk Try.prog 60 = some (TK.int IntKind.u32) := by kernel_rfl
theorem tsz60 : tsz Try.prog 60 = 1 := by kernel_rfl
theorem tz60 : tz Try.prog 60 = some [C.v (Value.int IntKind.u32 0)] := by kernel_rfl
theorem bo60 : Try.prog.bytesOf 60 = 4 := by kernel_rfl
theorem tk61 : tk Try.prog 61 = some TK.func := by kernel_rfl
theorem tsz61 : tsz Try.prog 61 = 1 := by kernel_rfl
theorem tz61 : tz Try.prog 61 = some [C.v Value.nilFunc] := by kernel_rfl
theorem bo61 : Try.prog.bytesOf 61 = 8 := by kernel_rfl
theorem tk62 : tk Try.prog 62 = some (TK.int IntKind.u64) := by kernel_rfl
theorem tsz62 : tsz Try.prog 62 = 1 := by kernel_rfl
theorem tz62 : tz Try.prog 62 = some [C.v (Value.int IntKind.u64 0)] := by kernel_rfl
theorem bo62 : Try.prog.bytesOf 62 = 8 := by kernel_rfl
theorem tk63 : tk Try.prog 63 = some (TK.int IntKind.u64) := by kernel_rfl
theorem tsz63 : tsz Try.prog 63 = 1 := by kernel_rfl
theorem tz63 : tz Try.prog 63 = some [C.v (Value.int IntKind.u64 0)] := by kernel_rfl
theorem bo63 : Try.prog.bytesOf 63 = 8 := by kernel_rfl
theorem tk64 : tk Try.prog 64 = some TK.func := by kernel_rfl
theorem tsz64 : tsz Try.prog 64 = 1 := by kernel_rfl
theorem tz64 : tz Try.prog 64 = some [C.v Value.nilFunc] := by kernel_rfl
theorem bo64 : Try.prog.bytesOf 64 = 8 := by kernel_rfl
theorem tk65 : tk Try.prog 65 = some TK.func := by kernel_rfl
theorem tsz65 : tsz Try.prog 65 = 1 := by kernel_rfl
theorem tz65 : tz Try.prog 65 = some [C.v Value.nilFunc] := by kernel_rfl
theorem bo65 : Try.prog.bytesOf 65 = 8 := by kernel_rfl
theorem tk66 : tk Try.prog 66 = some TK.func := by kernel_rfl
theorem tsz66 : tsz Try.prog 66 = 1 := by kernel_rfl
theorem tz66 : tz Try.prog 66 = some [C.v Value.nilFunc] := by kernel_rfl
theorem bo66 : Try.prog.bytesOf 66 = 8 := by kernel_rfl
theorem tk67 : tk Try.prog 67 = some (TK.ptr 3) := by kernel_rfl
theorem tsz67 : tsz Try.prog 67 = 1 := by kernel_rfl
theorem tz67 : tz Try.prog 67 = some [C.v (Value.pointer none)] := by kernel_rfl
theorem bo67 : Try.prog.bytesOf 67 = 8 := by kernel_rfl
theorem tk68 : tk Try.prog 68 = some TK.func := by kernel_rfl
theorem tsz68 : tsz Try.prog 68 = 1 := by kernel_rfl
theorem tz68 : tz Try.prog 68 = some [C.v Value.nilFunc] := by kernel_rfl
theorem bo68 : Try.prog.bytesOf 68 = 8 := by kernel_rfl
theorem tk69 : tk Try.prog 69 = some (TK.ptr 63) := by kernel_rfl
theorem tsz69 : tsz Try.prog 69 = 1 := by kernel_rfl
theorem tz69 : tz Try.prog 69 = some [C.v (Value.pointer none)] := by kernel_rfl
theorem bo69 : Try.prog.bytesOf 69 = 8 := by kernel_rfl
theorem tk70 : tk Try.prog 70 = some TK.other := by kernel_rfl
theorem tsz70 : tsz Try.prog 70 = 1 := by kernel_rfl
theorem bo70 : Try.prog.bytesOf 70 = 0 := by kernel_rfl
theorem tk71 : tk Try.prog 71 = some TK.func := by kernel_rfl
theorem tsz71 : tsz Try.prog 71 = 1 := by kernel_rfl
theorem tz71 : tz Try.prog 71 = some [C.v Value.nilFunc] := by kernel_rfl
theorem bo71 : Try.prog.bytesOf 71 = 8 := by kernel_rfl
theorem tk72 : tk Try.prog 72 = some TK.func := by kernel_rfl
theorem tsz72 : tsz Try.prog 72 = 1 := by kernel_rfl
theorem tz72 : tz Try.prog 72 = some [C.v Value.nilFunc] := by kernel_rfl
theorem bo72 : Try.prog.bytesOf 72 = 8 := by kernel_rfl
theorem tk73 : tk Try.prog 73 = some (TK.st [(17, 0), (17, 1), (17, 2), (9, 3)]) := by kernel_rfl
theorem tsz73 : tsz Try.prog 73 = 4 := by kernel_rfl
theorem tz73 : tz Try.prog 73 = some [C.v (Value.pointer none), C.v (Value.pointer none), C.v (Value.pointer none), C.v (Value.string ⟨#[]⟩)] := by kernel_rfl
theorem bo73 : Try.prog.bytesOf 73 = 40 := by kernel_rfl
theorem tk74 : tk Try.prog 74 = some (TK.st [(17, 0), (17, 1), (17, 2), (9, 3)]) := by kernel_rfl
theorem tsz74 : tsz Try.prog 74 = 4 := by kernel_rfl
theorem tz74 : tz Try.prog 74 = some [C.v (Value.pointer none), C.v (Value.pointer none), C.v (Value.pointer none), C.v (Value.string ⟨#[]⟩)] := by kernel_rfl
theorem bo74 : Try.prog.bytesOf 74 = 40 := by kernel_rfl
theorem tk75 : tk Try.prog 75 = some (TK.arr 0 16) := by kernel_rfl
theorem tsz75 : tsz Try.prog 75 = 0 := by kernel_rfl
theorem tz75 : tz Try.prog 75 = some [] := by kernel_rfl
theorem bo75 : Try.prog.bytesOf 75 = 0 := by kernel_rfl
theorem tk76 : tk Try.prog 76 = some (TK.st [(75, 0)]) := by kernel_rfl
theorem tsz76 : tsz Try.prog 76 = 0 := by kernel_rfl
theorem tz76 : tz Try.prog 76 = some [] := by kernel_rfl
theorem bo76 : Try.prog.bytesOf 76 = 0 := by kernel_rfl
theorem tk77 : tk Try.prog 77 = some (TK.st [(75, 0)]) := by kernel_rfl
theorem tsz77 : tsz Try.prog 77 = 0 := by kernel_rfl
theorem tz77 : tz Try.prog 77 = some [] := by kernel_rfl
theorem bo77 : Try.prog.bytesOf 77 = 0 := by kernel_rfl
theorem tk78 : tk Try.prog 78 = some (TK.int IntKind.u8) := by kernel_rfl
theorem tsz78 : tsz Try.prog 78 = 1 := by kernel_rfl
theorem tz78 : tz Try.prog 78 = some [C.v (Value.int IntKind.u8 0)] := by kernel_rfl
theorem bo78 : Try.prog.bytesOf 78 = 1 := by kernel_rfl
theorem tk79 : tk Try.prog 79 = some (TK.int IntKind.u8) := by kernel_rfl
theorem tsz79 : tsz Try.prog 79 = 1 := by kernel_rfl
theorem tz79 : tz Try.prog 79 = some [C.v (Value.int IntKind.u8 0)] := by kernel_rfl
theorem bo79 : Try.prog.bytesOf 79 = 1 := by kernel_rfl
theorem tk80 : tk Try.prog 80 = some TK.func := by kernel_rfl
theorem tsz80 : tsz Try.prog 80 = 1 := by kernel_rfl
theorem tz80 : tz Try.prog 80 = some [C.v Value.nilFunc] := by kernel_rfl
theorem bo80 : Try.prog.bytesOf 80 = 8 := by kernel_rfl
theorem tk81 : tk Try.prog 81 = some (TK.ptr 5) := by kernel_rfl
theorem tsz81 : tsz Try.prog 81 = 1 := by kernel_rfl
theorem tz81 : tz Try.prog 81 = some [C.v (Value.pointer none)] := by kernel_rfl
theorem bo81 : Try.prog.bytesOf 81 = 8 := by kernel_rfl
theorem tk82 : tk Try.prog 82 = some (TK.int IntKind.i32) := by kernel_rfl
theorem tsz82 : tsz Try.prog 82 = 1 := by kernel_rfl
theorem tz82 : tz Try.prog 82 = some [C.v (Value.int IntKind.i32 0)] := by kernel_rfl
theorem bo82 : Try.prog.bytesOf 82 = 4 := by kernel_rfl
theorem tk83 : tk Try.prog 83 = some (TK.int IntKind.i32) := by kernel_rfl
theorem tsz83 : tsz Try.prog 83 = 1 := by kernel_rfl
theorem tz83 : tz Try.prog 83 = some [C.v (Value.int IntKind.i32 0)] := by kernel_rfl
theorem bo83 : Try.prog.bytesOf 83 = 4 := by kernel_rfl
theorem tk84 : tk Try.prog 84 = some (TK.st [(12, 0), (12, 1), (60, 2), (78, 3), (5, 4), (5, 5), (79, 6), (80, 7), (81, 8), (82, 9), (83, 10)]) := by kernel_rfl
theorem tsz84 : tsz Try.prog 84 = 11 := by kernel_rfl
theorem tz84 : tz Try.prog 84 = some [C.v (Value.int IntKind.u64 0), C.v (Value.int IntKind.u64 0), C.v (Value.int IntKind.u32 0), C.v (Value.int IntKind.u8 0), C.v (Value.int IntKind.u8 0), C.v (Value.int IntKind.u8 0), C.v (Value.int IntKind.u8 0), C.v Value.nilFunc, C.v (Value.pointer none), C.v (Value.int IntKind.i32 0), C.v (Value.int IntKind.i32 0)] := by kernel_rfl
theorem bo84 : Try.prog.bytesOf 84 = 48 := by kernel_rfl
theorem tk85 : tk Try.prog 85 = some (TK.st [(12, 0), (12, 1), (60, 2), (78, 3), (5, 4), (5, 5), (79, 6), (80, 7), (81, 8), (82, 9), (83, 10)]) := by kernel_rfl
theorem tsz85 : tsz Try.prog 85 = 11 := by kernel_rfl
theorem tz85 : tz Try.prog 85 = some [C.v (Value.int IntKind.u64 0), C.v (Value.int IntKind.u64 0), C.v (Value.int IntKind.u32 0), C.v (Value.int IntKind.u8 0), C.v (Value.int IntKind.u8 0), C.v (Value.int IntKind.u8 0), C.v (Value.int IntKind.u8 0), C.v Value.nilFunc, C.v (Value.pointer none), C.v (Value.int IntKind.i32 0), C.v (Value.int IntKind.i32 0)] := by kernel_rfl
theorem bo85 : Try.prog.bytesOf 85 = 48 := by kernel_rfl
theorem tk86 : tk Try.prog 86 = some TK.other := by kernel_rfl
theorem tsz86 : tsz Try.prog 86 = 1 := by kernel_rfl
theorem tz86 : tz Try.prog 86 = some [C.v (Value.pointer none)] := by kernel_rfl
theorem bo86 : Try.prog.bytesOf 86 = 8 := by kernel_rfl
theorem mixed : Try.prog.follows .mixedOrders = true := by kernel_rfl

end Go.Dl
