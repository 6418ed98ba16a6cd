/- 'Dl': the types of this program, as far as they are asked; What the walks share: no function known; numbers and texts as cells; 'Dl', part Zk: a call that is handed rows of the caller's own, by handle; 'Dl', part Zl: a call that is handed a function with what it captured; own rows that stay from then on; an own slice cut short. -/
import Derived.Test.YtbefgbljlmnfoaaE06
import Derived.Test.YtbefgbljlmnfoaaProg
namespace Go.Dl
open Go.RowKit
open Go.Proofs

theorem tk0 : tk Try.prog 0 = some TK.other := by kernel_rfl
theorem tsz0 : tsz Try.prog 0 = 1 := by kernel_rfl
theorem bo0 : Try.prog.bytesOf 0 = 0 := by kernel_rfl
theorem tk1 : tk Try.prog 1 = some TK.func := by kernel_rfl
theorem tsz1 : tsz Try.prog 1 = 1 := by kernel_rfl
theorem tz1 : tz Try.prog 1 = some [C.v Value.nilFunc] := by kernel_rfl
theorem bo1 : Try.prog.bytesOf 1 = 8 := by kernel_rfl
theorem tk2 : tk Try.prog 2 = some (TK.int IntKind.i64) := by kernel_rfl
theorem tsz2 : tsz Try.prog 2 = 1 := by kernel_rfl
theorem tz2 : tz Try.prog 2 = some [C.v (Value.int IntKind.i64 0)] := by kernel_rfl
theorem bo2 : Try.prog.bytesOf 2 = 8 := by kernel_rfl
theorem tk3 : tk Try.prog 3 = some (TK.int IntKind.i64) := by kernel_rfl
theorem tsz3 : tsz Try.prog 3 = 1 := by kernel_rfl
theorem tz3 : tz Try.prog 3 = some [C.v (Value.int IntKind.i64 0)] := by kernel_rfl
theorem bo3 : Try.prog.bytesOf 3 = 8 := by kernel_rfl
theorem tk4 : tk Try.prog 4 = some TK.bool := by kernel_rfl
theorem tsz4 : tsz Try.prog 4 = 1 := by kernel_rfl
theorem tz4 : tz Try.prog 4 = some [C.v (Value.bool false)] := by kernel_rfl
theorem bo4 : Try.prog.bytesOf 4 = 1 := by kernel_rfl
theorem tk5 : tk Try.prog 5 = some (TK.int IntKind.u8) := by kernel_rfl
theorem tsz5 : tsz Try.prog 5 = 1 := by kernel_rfl
theorem tz5 : tz Try.prog 5 = some [C.v (Value.int IntKind.u8 0)] := by kernel_rfl
theorem bo5 : Try.prog.bytesOf 5 = 1 := by kernel_rfl
theorem tk6 : tk Try.prog 6 = some (TK.int IntKind.u8) := by kernel_rfl
theorem tsz6 : tsz Try.prog 6 = 1 := by kernel_rfl
theorem tz6 : tz Try.prog 6 = some [C.v (Value.int IntKind.u8 0)] := by kernel_rfl
theorem bo6 : Try.prog.bytesOf 6 = 1 := by kernel_rfl
theorem tk7 : tk Try.prog 7 = some (TK.st [(2, 0), (3, 1), (4, 2), (6, 3)]) := by kernel_rfl
theorem tsz7 : tsz Try.prog 7 = 4 := by kernel_rfl
theorem tz7 : tz Try.prog 7 = some [C.v (Value.int IntKind.i64 0), C.v (Value.int IntKind.i64 0), C.v (Value.bool false), C.v (Value.int IntKind.u8 0)] := by kernel_rfl
theorem bo7 : Try.prog.bytesOf 7 = 24 := by kernel_rfl
theorem tk8 : tk Try.prog 8 = some (TK.st [(2, 0), (3, 1), (4, 2), (6, 3)]) := by kernel_rfl
theorem tsz8 : tsz Try.prog 8 = 4 := by kernel_rfl
theorem tz8 : tz Try.prog 8 = some [C.v (Value.int IntKind.i64 0), C.v (Value.int IntKind.i64 0), C.v (Value.bool false), C.v (Value.int IntKind.u8 0)] := by kernel_rfl
theorem bo8 : Try.prog.bytesOf 8 = 24 := by kernel_rfl
theorem tk9 : tk Try.prog 9 = some TK.str := by kernel_rfl
theorem tsz9 : tsz Try.prog 9 = 1 := by kernel_rfl
theorem tz9 : tz Try.prog 9 = some [C.v (Value.string ⟨#[]⟩)] := by kernel_rfl
theorem bo9 : Try.prog.bytesOf 9 = 16 := by kernel_rfl
theorem tk10 : tk Try.prog 10 = some TK.str := by kernel_rfl
theorem tsz10 : tsz Try.prog 10 = 1 := by kernel_rfl
theorem tz10 : tz Try.prog 10 = some [C.v (Value.string ⟨#[]⟩)] := by kernel_rfl
theorem bo10 : Try.prog.bytesOf 10 = 16 := by kernel_rfl
theorem tk11 : tk Try.prog 11 = some TK.str := by kernel_rfl
theorem tsz11 : tsz Try.prog 11 = 1 := by kernel_rfl
theorem tz11 : tz Try.prog 11 = some [C.v (Value.string ⟨#[]⟩)] := by kernel_rfl
theorem bo11 : Try.prog.bytesOf 11 = 16 := by kernel_rfl
theorem tk12 : tk Try.prog 12 = some (TK.int IntKind.u64) := by kernel_rfl
theorem tsz12 : tsz Try.prog 12 = 1 := by kernel_rfl
theorem tz12 : tz Try.prog 12 = some [C.v (Value.int IntKind.u64 0)] := by kernel_rfl
theorem bo12 : Try.prog.bytesOf 12 = 8 := by kernel_rfl
theorem tk13 : tk Try.prog 13 = some (TK.st [(9, 0), (12, 1)]) := by kernel_rfl
theorem tsz13 : tsz Try.prog 13 = 2 := by kernel_rfl
theorem tz13 : tz Try.prog 13 = some [C.v (Value.string ⟨#[]⟩), C.v (Value.int IntKind.u64 0)] := by kernel_rfl
theorem bo13 : Try.prog.bytesOf 13 = 24 := by kernel_rfl
theorem tk14 : tk Try.prog 14 = some (TK.st [(9, 0), (12, 1)]) := by kernel_rfl
theorem tsz14 : tsz Try.prog 14 = 2 := by kernel_rfl
theorem tz14 : tz Try.prog 14 = some [C.v (Value.string ⟨#[]⟩), C.v (Value.int IntKind.u64 0)] := by kernel_rfl
theorem bo14 : Try.prog.bytesOf 14 = 24 := by kernel_rfl
theorem tk15 : tk Try.prog 15 = some (TK.ptr 120) := by kernel_rfl
theorem tsz15 : tsz Try.prog 15 = 1 := by kernel_rfl
theorem tz15 : tz Try.prog 15 = some [C.v (Value.pointer none)] := by kernel_rfl
theorem bo15 : Try.prog.bytesOf 15 = 8 := by kernel_rfl
theorem tk16 : tk Try.prog 16 = some (TK.ptr 123) := by kernel_rfl
theorem tsz16 : tsz Try.prog 16 = 1 := by kernel_rfl
theorem tz16 : tz Try.prog 16 = some [C.v (Value.pointer none)] := by kernel_rfl
theorem bo16 : Try.prog.bytesOf 16 = 8 := by kernel_rfl
theorem tk17 : tk Try.prog 17 = some (TK.ptr 131) := by kernel_rfl
theorem tsz17 : tsz Try.prog 17 = 1 := by kernel_rfl
theorem tz17 : tz Try.prog 17 = some [C.v (Value.pointer none)] := by kernel_rfl
theorem bo17 : Try.prog.bytesOf 17 = 8 := by kernel_rfl
theorem tk18 : tk Try.prog 18 = some (TK.st [(17, 0)]) := by kernel_rfl
theorem tsz18 : tsz Try.prog 18 = 1 := by kernel_rfl
theorem tz18 : tz Try.prog 18 = some [C.v (Value.pointer none)] := by kernel_rfl
theorem bo18 : Try.prog.bytesOf 18 = 8 := by kernel_rfl
theorem tk19 : tk Try.prog 19 = some (TK.st [(17, 0)]) := by kernel_rfl
theorem tsz19 : tsz Try.prog 19 = 1 := by kernel_rfl
theorem tz19 : tz Try.prog 19 = some [C.v (Value.pointer none)] := by kernel_rfl
theorem bo19 : Try.prog.bytesOf 19 = 8 := by kernel_rfl
theorem tk20 : tk Try.prog 20 = some TK.other := by kernel_rfl
theorem tsz20 : tsz Try.prog 20 = 1 := by kernel_rfl
theorem tz20 : tz Try.prog 20 = some [C.v Value.nilIface] := by kernel_rfl
theorem bo20 : Try.prog.bytesOf 20 = 16 := by kernel_rfl
theorem tk21 : tk Try.prog 21 = some (TK.int IntKind.i32) := by kernel_rfl
theorem tsz21 : tsz Try.prog 21 = 1 := by kernel_rfl
theorem tz21 : tz Try.prog 21 = some [C.v (Value.int IntKind.i32 0)] := by kernel_rfl
theorem bo21 : Try.prog.bytesOf 21 = 4 := by kernel_rfl
theorem tk22 : tk Try.prog 22 = some TK.func := by kernel_rfl
theorem tsz22 : tsz Try.prog 22 = 1 := by kernel_rfl
theorem tz22 : tz Try.prog 22 = some [C.v Value.nilFunc] := by kernel_rfl
theorem bo22 : Try.prog.bytesOf 22 = 8 := by kernel_rfl
theorem tk23 : tk Try.prog 23 = some (TK.slice 33) := by kernel_rfl
theorem tsz23 : tsz Try.prog 23 = 1 := by kernel_rfl
theorem tz23 : tz Try.prog 23 = some [C.s true 0 []] := by kernel_rfl
theorem bo23 : Try.prog.bytesOf 23 = 24 := by kernel_rfl
theorem tk24 : tk Try.prog 24 = some (TK.int IntKind.i64) := by kernel_rfl
theorem tsz24 : tsz Try.prog 24 = 1 := by kernel_rfl
theorem tz24 : tz Try.prog 24 = some [C.v (Value.int IntKind.i64 0)] := by kernel_rfl
theorem bo24 : Try.prog.bytesOf 24 = 8 := by kernel_rfl
theorem tk25 : tk Try.prog 25 = some TK.other := by kernel_rfl
theorem tsz25 : tsz Try.prog 25 = 1 := by kernel_rfl
theorem bo25 : Try.prog.bytesOf 25 = 0 := by kernel_rfl
theorem tk26 : tk Try.prog 26 = some TK.func := by kernel_rfl
theorem tsz26 : tsz Try.prog 26 = 1 := by kernel_rfl
theorem tz26 : tz Try.prog 26 = some [C.v Value.nilFunc] := by kernel_rfl
theorem bo26 : Try.prog.bytesOf 26 = 8 := by kernel_rfl
theorem tk27 : tk Try.prog 27 = some (TK.slice 3) := by kernel_rfl
theorem tsz27 : tsz Try.prog 27 = 1 := by kernel_rfl
theorem tz27 : tz Try.prog 27 = some [C.s true 0 []] := by kernel_rfl
theorem bo27 : Try.prog.bytesOf 27 = 24 := by kernel_rfl
theorem tk28 : tk Try.prog 28 = some (TK.slice 9) := by kernel_rfl
theorem tsz28 : tsz Try.prog 28 = 1 := by kernel_rfl
theorem tz28 : tz Try.prog 28 = some [C.s true 0 []] := by kernel_rfl
theorem bo28 : Try.prog.bytesOf 28 = 24 := by kernel_rfl
theorem tk29 : tk Try.prog 29 = some TK.other := by kernel_rfl
theorem tsz29 : tsz Try.prog 29 = 1 := by kernel_rfl
theorem bo29 : Try.prog.bytesOf 29 = 0 := by kernel_rfl
theorem tk30 : tk Try.prog 30 = some TK.func := by kernel_rfl
theorem tsz30 : tsz Try.prog 30 = 1 := by kernel_rfl
theorem tz30 : tz Try.prog 30 = some [C.v Value.nilFunc] := by kernel_rfl
theorem bo30 : Try.prog.bytesOf 30 = 8 := by kernel_rfl
theorem tk31 : tk Try.prog 31 = some TK.func := by kernel_rfl
theorem tsz31 : tsz Try.prog 31 = 1 := by kernel_rfl
theorem tz31 : tz Try.prog 31 = some [C.v Value.nilFunc] := by kernel_rfl
theorem bo31 : Try.prog.bytesOf 31 = 8 := by kernel_rfl
theorem tk32 : tk Try.prog 32 = some (TK.st [(3, 0), (9, 1), (3, 2)]) := by kernel_rfl
theorem tsz32 : tsz Try.prog 32 = 3 := by kernel_rfl
theorem tz32 : tz Try.prog 32 = some [C.v (Value.int IntKind.i64 0), C.v (Value.string ⟨#[]⟩), C.v (Value.int IntKind.i64 0)] := by kernel_rfl
theorem bo32 : Try.prog.bytesOf 32 = 32 := by kernel_rfl
theorem tk33 : tk Try.prog 33 = some (TK.st [(3, 0), (9, 1), (3, 2)]) := by kernel_rfl
theorem tsz33 : tsz Try.prog 33 = 3 := by kernel_rfl
theorem tz33 : tz Try.prog 33 = some [C.v (Value.int IntKind.i64 0), C.v (Value.string ⟨#[]⟩), C.v (Value.int IntKind.i64 0)] := by kernel_rfl
theorem bo33 : Try.prog.bytesOf 33 = 32 := by kernel_rfl
theorem tk34 : tk Try.prog 34 = some TK.func := by kernel_rfl
theorem tsz34 : tsz Try.prog 34 = 1 := by kernel_rfl
theorem tz34 : tz Try.prog 34 = some [C.v Value.nilFunc] := by kernel_rfl
theorem bo34 : Try.prog.bytesOf 34 = 8 := by kernel_rfl
theorem tk35 : tk Try.prog 35 = some (TK.slice 5) := by kernel_rfl
theorem tsz35 : tsz Try.prog 35 = 1 := by kernel_rfl
theorem tz35 : tz Try.prog 35 = some [C.s true 0 []] := by kernel_rfl
theorem bo35 : Try.prog.bytesOf 35 = 24 := by kernel_rfl
theorem tk36 : tk Try.prog 36 = some TK.func := by kernel_rfl
theorem tsz36 : tsz Try.prog 36 = 1 := by kernel_rfl
theorem tz36 : tz Try.prog 36 = some [C.v Value.nilFunc] := by kernel_rfl
theorem bo36 : Try.prog.bytesOf 36 = 8 := by kernel_rfl
theorem tk37 : tk Try.prog 37 = some (TK.int IntKind.u64) := by kernel_rfl
theorem tsz37 : tsz Try.prog 37 = 1 := by kernel_rfl
theorem tz37 : tz Try.prog 37 = some [C.v (Value.int IntKind.u64 0)] := by kernel_rfl
theorem bo37 : Try.prog.bytesOf 37 = 8 := by kernel_rfl
theorem tk38 : tk Try.prog 38 = some (TK.st [(3, 0), (4, 1), (2, 2), (37, 3), (9, 4)]) := by kernel_rfl
theorem tsz38 : tsz Try.prog 38 = 5 := by kernel_rfl
theorem tz38 : tz Try.prog 38 = some [C.v (Value.int IntKind.i64 0), C.v (Value.bool false), C.v (Value.int IntKind.i64 0), C.v (Value.int IntKind.u64 0), C.v (Value.string ⟨#[]⟩)] := by kernel_rfl
theorem bo38 : Try.prog.bytesOf 38 = 48 := by kernel_rfl
theorem tk39 : tk Try.prog 39 = some (TK.st [(3, 0), (4, 1), (2, 2), (37, 3), (9, 4)]) := by kernel_rfl
theorem tsz39 : tsz Try.prog 39 = 5 := by kernel_rfl
theorem tz39 : tz Try.prog 39 = some [C.v (Value.int IntKind.i64 0), C.v (Value.bool false), C.v (Value.int IntKind.i64 0), C.v (Value.int IntKind.u64 0), C.v (Value.string ⟨#[]⟩)] := by kernel_rfl
theorem bo39 : Try.prog.bytesOf 39 = 48 := by kernel_rfl
theorem tk40 : tk Try.prog 40 = some TK.func := by kernel_rfl
theorem tsz40 : tsz Try.prog 40 = 1 := by kernel_rfl
theorem tz40 : tz Try.prog 40 = some [C.v Value.nilFunc] := by kernel_rfl
theorem bo40 : Try.prog.bytesOf 40 = 8 := by kernel_rfl
theorem tk41 : tk Try.prog 41 = some TK.other := by kernel_rfl
theorem tsz41 : tsz Try.prog 41 = 1 := by kernel_rfl
theorem bo41 : Try.prog.bytesOf 41 = 0 := by kernel_rfl
theorem tk42 : tk Try.prog 42 = some TK.func := by kernel_rfl
theorem tsz42 : tsz Try.prog 42 = 1 := by kernel_rfl
theorem tz42 : tz Try.prog 42 = some [C.v Value.nilFunc] := by kernel_rfl
theorem bo42 : Try.prog.bytesOf 42 = 8 := by kernel_rfl
theorem tk43 : tk Try.prog 43 = some TK.func := by kernel_rfl
theorem tsz43 : tsz Try.prog 43 = 1 := by kernel_rfl
theorem tz43 : tz Try.prog 43 = some [C.v Value.nilFunc] := by kernel_rfl
theorem bo43 : Try.prog.bytesOf 43 = 8 := by kernel_rfl
theorem tk44 : tk Try.prog 44 = some TK.func := by kernel_rfl
theorem tsz44 : tsz Try.prog 44 = 1 := by kernel_rfl
theorem tz44 : tz Try.prog 44 = some [C.v Value.nilFunc] := by kernel_rfl
theorem bo44 : Try.prog.bytesOf 44 = 8 := by kernel_rfl
theorem tk45 : tk Try.prog 45 = some (TK.slice 50) := by kernel_rfl
theorem tsz45 : tsz Try.prog 45 = 1 := by kernel_rfl
theorem tz45 : tz Try.prog 45 = some [C.s true 0 []] := by kernel_rfl
theorem bo45 : Try.prog.bytesOf 45 = 24 := by kernel_rfl
theorem tk46 : tk Try.prog 46 = some (TK.slice 91) := by kernel_rfl
theorem tsz46 : tsz Try.prog 46 = 1 := by kernel_rfl
theorem tz46 : tz Try.prog 46 = some [C.s true 0 []] := by kernel_rfl
theorem bo46 : Try.prog.bytesOf 46 = 24 := by kernel_rfl
theorem tk47 : tk Try.prog 47 = some (TK.st [(9, 0), (3, 1), (46, 2)]) := by kernel_rfl
theorem tsz47 : tsz Try.prog 47 = 3 := by kernel_rfl
theorem tz47 : tz Try.prog 47 = some [C.v (Value.string ⟨#[]⟩), C.v (Value.int IntKind.i64 0), C.s true 0 []] := by kernel_rfl
theorem bo47 : Try.prog.bytesOf 47 = 48 := by kernel_rfl
theorem tk48 : tk Try.prog 48 = some (TK.st [(9, 0), (3, 1), (46, 2)]) := by kernel_rfl
theorem tsz48 : tsz Try.prog 48 = 3 := by kernel_rfl
theorem tz48 : tz Try.prog 48 = some [C.v (Value.string ⟨#[]⟩), C.v (Value.int IntKind.i64 0), C.s true 0 []] := by kernel_rfl
theorem bo48 : Try.prog.bytesOf 48 = 48 := by kernel_rfl
theorem tk49 : tk Try.prog 49 = some (TK.st [(3, 0), (48, 1), (9, 4), (9, 5), (28, 6), (9, 7), (3, 8), (3, 9), (37, 10), (3, 11)]) := by kernel_rfl
theorem tsz49 : tsz Try.prog 49 = 12 := by kernel_rfl
theorem tz49 : tz Try.prog 49 = some [C.v (Value.int IntKind.i64 0), C.v (Value.string ⟨#[]⟩), C.v (Value.int IntKind.i64 0), C.s true 0 [], C.v (Value.string ⟨#[]⟩), C.v (Value.string ⟨#[]⟩), C.s true 0 [], C.v (Value.string ⟨#[]⟩), C.v (Value.int IntKind.i64 0), C.v (Value.int IntKind.i64 0), C.v (Value.int IntKind.u64 0), C.v (Value.int IntKind.i64 0)] := by kernel_rfl
theorem bo49 : Try.prog.bytesOf 49 = 160 := by kernel_rfl
theorem tk50 : tk Try.prog 50 = some (TK.st [(3, 0), (48, 1), (9, 4), (9, 5), (28, 6), (9, 7), (3, 8), (3, 9), (37, 10), (3, 11)]) := by kernel_rfl
theorem tsz50 : tsz Try.prog 50 = 12 := by kernel_rfl
theorem tz50 : tz Try.prog 50 = some [C.v (Value.int IntKind.i64 0), C.v (Value.string ⟨#[]⟩), C.v (Value.int IntKind.i64 0), C.s true 0 [], C.v (Value.string ⟨#[]⟩), C.v (Value.string ⟨#[]⟩), C.s true 0 [], C.v (Value.string ⟨#[]⟩), C.v (Value.int IntKind.i64 0), C.v (Value.int IntKind.i64 0), C.v (Value.int IntKind.u64 0), C.v (Value.int IntKind.i64 0)] := by kernel_rfl
theorem bo50 : Try.prog.bytesOf 50 = 160 := by kernel_rfl
theorem tk51 : tk Try.prog 51 = some TK.func := by kernel_rfl
theorem tsz51 : tsz Try.prog 51 = 1 := by kernel_rfl
theorem tz51 : tz Try.prog 51 = some [C.v Value.nilFunc] := by kernel_rfl
theorem bo51 : Try.prog.bytesOf 51 = 8 := by kernel_rfl
theorem tk52 : tk Try.prog 52 = some TK.func := by kernel_rfl
theorem tsz52 : tsz Try.prog 52 = 1 := by kernel_rfl
theorem tz52 : tz Try.prog 52 = some [C.v Value.nilFunc] := by kernel_rfl
theorem bo52 : Try.prog.bytesOf 52 = 8 := by kernel_rfl
theorem tk53 : tk Try.prog 53 = some TK.other := by kernel_rfl
theorem tsz53 : tsz Try.prog 53 = 1 := by kernel_rfl
theorem bo53 : Try.prog.bytesOf 53 = 0 := by kernel_rfl
theorem tk54 : tk Try.prog 54 = some TK.func := by kernel_rfl
theorem tsz54 : tsz Try.prog 54 = 1 := by kernel_rfl
theorem tz54 : tz Try.prog 54 = some [C.v Value.nilFunc] := by kernel_rfl
theorem bo54 : Try.prog.bytesOf 54 = 8 := by kernel_rfl
theorem tk55 : tk Try.prog 55 = some TK.func := by kernel_rfl
theorem tsz55 : tsz Try.prog 55 = 1 := by kernel_rfl
theorem tz55 : tz Try.prog 55 = some [C.v Value.nilFunc] := by kernel_rfl
theorem bo55 : Try.prog.bytesOf 55 = 8 := by kernel_rfl
theorem tk56 : tk Try.prog 56 = some TK.func := by kernel_rfl
theorem tsz56 : tsz Try.prog 56 = 1 := by kernel_rfl
theorem tz56 : tz Try.prog 56 = some [C.v Value.nilFunc] := by kernel_rfl
theorem bo56 : Try.prog.bytesOf 56 = 8 := by kernel_rfl
theorem tk57 : tk Try.prog 57 = some TK.func := by kernel_rfl
theorem tsz57 : tsz Try.prog 57 = 1 := by kernel_rfl
theorem tz57 : tz Try.prog 57 = some [C.v Value.nilFunc] := by kernel_rfl
theorem bo57 : Try.prog.bytesOf 57 = 8 := by kernel_rfl
theorem tk58 : tk Try.prog 58 = some TK.func := by kernel_rfl
theorem tsz58 : tsz Try.prog 58 = 1 := by kernel_rfl
theorem tz58 : tz Try.prog 58 = some [C.v Value.nilFunc] := by kernel_rfl
theorem bo58 : Try.prog.bytesOf 58 = 8 := by kernel_rfl
theorem tk59 : tk Try.prog 59 = some (TK.ptr 61) := by kernel_rfl
theorem tsz59 : tsz Try.prog 59 = 1 := by kernel_rfl
theorem tz59 : tz Try.prog 59 = some [C.v (Value.pointer none)] := by kernel_rfl
theorem bo59 : Try.prog.bytesOf 59 = 8 := by kernel_rfl
theorem tk60 : tk Try.prog 60 = some (TK.st [(9, 0), (3, 1)]) := by kernel_rfl
theorem tsz60 : tsz Try.prog 60 = 2 := by kernel_rfl
theorem tz60 : tz Try.prog 60 = some [C.v (Value.string ⟨#[]⟩), C.v (Value.int IntKind.i64 0)] := by kernel_rfl
theorem bo60 : Try.prog.bytesOf 60 = 24 := by kernel_rfl
theorem tk61 : tk Try.prog 61 = some (TK.st [(9, 0), (3, 1)]) := by kernel_rfl
theorem tsz61 : tsz Try.prog 61 = 2 := by kernel_rfl
theorem tz61 : tz Try.prog 61 = some [C.v (Value.string ⟨#[]⟩), C.v (Value.int IntKind.i64 0)] := by kernel_rfl
theorem bo61 : Try.prog.bytesOf 61 = 24 := by kernel_rfl
theorem tk62 : tk Try.prog 62 = some TK.other := by kernel_rfl
theorem tsz62 : tsz Try.prog 62 = 1 := by kernel_rfl
theorem bo62 : Try.prog.bytesOf 62 = 0 := by kernel_rfl
theorem tk63 : tk Try.prog 63 = some TK.func := by kernel_rfl
theorem tsz63 : tsz Try.prog 63 = 1 := by kernel_rfl
theorem tz63 : tz Try.prog 63 = some [C.v Value.nilFunc] := by kernel_rfl
theorem bo63 : Try.prog.bytesOf 63 = 8 := by kernel_rfl
theorem tk64 : tk Try.prog 64 = some TK.func := by kernel_rfl
theorem tsz64 : tsz Try.prog 64 = 1 := by kernel_rfl
theorem tz64 : tz Try.prog 64 = some [C.v Value.nilFunc] := by kernel_rfl
theorem bo64 : Try.prog.bytesOf 64 = 8 := by kernel_rfl
theorem tk65 : tk Try.prog 65 = some TK.other := by kernel_rfl
theorem tsz65 : tsz Try.prog 65 = 1 := by kernel_rfl
theorem bo65 : Try.prog.bytesOf 65 = 0 := by kernel_rfl
theorem tk66 : tk Try.prog 66 = some TK.func := by kernel_rfl
theorem tsz66 : tsz Try.prog 66 = 1 := by kernel_rfl
theorem tz66 : tz Try.prog 66 = some [C.v Value.nilFunc] := by kernel_rfl
theorem bo66 : Try.prog.bytesOf 66 = 8 := by kernel_rfl
theorem tk67 : tk Try.prog 67 = some (TK.ptr 69) := by kernel_rfl
theorem tsz67 : tsz Try.prog 67 = 1 := by kernel_rfl
theorem tz67 : tz Try.prog 67 = some [C.v (Value.pointer none)] := by kernel_rfl
theorem bo67 : Try.prog.bytesOf 67 = 8 := by kernel_rfl
theorem tk68 : tk Try.prog 68 = some (TK.st [(67, 0), (35, 1)]) := by kernel_rfl
theorem tsz68 : tsz Try.prog 68 = 2 := by kernel_rfl
theorem tz68 : tz Try.prog 68 = some [C.v (Value.pointer none), C.s true 0 []] := by kernel_rfl
theorem bo68 : Try.prog.bytesOf 68 = 32 := by kernel_rfl
theorem tk69 : tk Try.prog 69 = some (TK.st [(67, 0), (35, 1)]) := by kernel_rfl
theorem tsz69 : tsz Try.prog 69 = 2 := by kernel_rfl
theorem tz69 : tz Try.prog 69 = some [C.v (Value.pointer none), C.s true 0 []] := by kernel_rfl
theorem bo69 : Try.prog.bytesOf 69 = 32 := by kernel_rfl
theorem tk70 : tk Try.prog 70 = some TK.other := by kernel_rfl
theorem tsz70 : tsz Try.prog 70 = 1 := by kernel_rfl
theorem tz70 : tz Try.prog 70 = some [C.v Value.nilIface] := by kernel_rfl
theorem bo70 : Try.prog.bytesOf 70 = 16 := by kernel_rfl
theorem tk71 : tk Try.prog 71 = some TK.other := by kernel_rfl
theorem tsz71 : tsz Try.prog 71 = 1 := by kernel_rfl
theorem tz71 : tz Try.prog 71 = some [C.v Value.nilIface] := by kernel_rfl
theorem bo71 : Try.prog.bytesOf 71 = 16 := by kernel_rfl
theorem tk72 : tk Try.prog 72 = some TK.func := by kernel_rfl
theorem tsz72 : tsz Try.prog 72 = 1 := by kernel_rfl
theorem tz72 : tz Try.prog 72 = some [C.v Value.nilFunc] := by kernel_rfl
theorem bo72 : Try.prog.bytesOf 72 = 8 := by kernel_rfl
theorem tk73 : tk Try.prog 73 = some TK.other := by kernel_rfl
theorem tsz73 : tsz Try.prog 73 = 1 := by kernel_rfl
theorem bo73 : Try.prog.bytesOf 73 = 0 := by kernel_rfl
theorem tk74 : tk Try.prog 74 = some TK.func := by kernel_rfl
theorem tsz74 : tsz Try.prog 74 = 1 := by kernel_rfl
theorem tz74 : tz Try.prog 74 = some [C.v Value.nilFunc] := by kernel_rfl
theorem bo74 : Try.prog.bytesOf 74 = 8 := by kernel_rfl
theorem tk75 : tk Try.prog 75 = some (TK.int IntKind.u64) := by kernel_rfl
theorem tsz75 : tsz Try.prog 75 = 1 := by kernel_rfl
theorem tz75 : tz Try.prog 75 = some [C.v (Value.int IntKind.u64 0)] := by kernel_rfl
theorem bo75 : Try.prog.bytesOf 75 = 8 := by kernel_rfl
theorem tk76 : tk Try.prog 76 = some TK.func := by kernel_rfl
theorem tsz76 : tsz Try.prog 76 = 1 := by kernel_rfl
theorem tz76 : tz Try.prog 76 = some [C.v Value.nilFunc] := by kernel_rfl
theorem bo76 : Try.prog.bytesOf 76 = 8 := by kernel_rfl
theorem tk77 : tk Try.prog 77 = some TK.func := by kernel_rfl
theorem tsz77 : tsz Try.prog 77 = 1 := by kernel_rfl
theorem tz77 : tz Try.prog 77 = some [C.v Value.nilFunc] := by kernel_rfl
theorem bo77 : Try.prog.bytesOf 77 = 8 := by kernel_rfl
theorem tk78 : tk Try.prog 78 = some (TK.ptr 80) := by kernel_rfl
theorem tsz78 : tsz Try.prog 78 = 1 := by kernel_rfl
theorem tz78 : tz Try.prog 78 = some [C.v (Value.pointer none)] := by kernel_rfl
theorem bo78 : Try.prog.bytesOf 78 = 8 := by kernel_rfl
theorem tk79 : tk Try.prog 79 = some (TK.st [(23, 0), (3, 1), (3, 2), (3, 3)]) := by kernel_rfl
theorem tsz79 : tsz Try.prog 79 = 4 := by kernel_rfl
theorem tz79 : tz Try.prog 79 = some [C.s true 0 [], C.v (Value.int IntKind.i64 0), C.v (Value.int IntKind.i64 0), C.v (Value.int IntKind.i64 0)] := by kernel_rfl
theorem bo79 : Try.prog.bytesOf 79 = 48 := by kernel_rfl
theorem tk80 : tk Try.prog 80 = some (TK.st [(23, 0), (3, 1), (3, 2), (3, 3)]) := by kernel_rfl
theorem tsz80 : tsz Try.prog 80 = 4 := by kernel_rfl
theorem tz80 : tz Try.prog 80 = some [C.s true 0 [], C.v (Value.int IntKind.i64 0), C.v (Value.int IntKind.i64 0), C.v (Value.int IntKind.i64 0)] := by kernel_rfl
theorem bo80 : Try.prog.bytesOf 80 = 48 := by kernel_rfl
theorem tk81 : tk Try.prog 81 = some TK.func := by kernel_rfl
theorem tsz81 : tsz Try.prog 81 = 1 := by kernel_rfl
theorem tz81 : tz Try.prog 81 = some [C.v Value.nilFunc] := by kernel_rfl
theorem bo81 : Try.prog.bytesOf 81 = 8 := by kernel_rfl
theorem tk82 : tk Try.prog 82 = some TK.func := by kernel_rfl
theorem tsz82 : tsz Try.prog 82 = 1 := by kernel_rfl
theorem tz82 : tz Try.prog 82 = some [C.v Value.nilFunc] := by kernel_rfl
theorem bo82 : Try.prog.bytesOf 82 = 8 := by kernel_rfl
theorem tk83 : tk Try.prog 83 = some TK.func := by kernel_rfl
theorem tsz83 : tsz Try.prog 83 = 1 := by kernel_rfl
theorem tz83 : tz Try.prog 83 = some [C.v Value.nilFunc] := by kernel_rfl
theorem bo83 : Try.prog.bytesOf 83 = 8 := by kernel_rfl
theorem tk84 : tk Try.prog 84 = some (TK.arr 16 9) := by kernel_rfl
theorem tsz84 : tsz Try.prog 84 = 16 := by kernel_rfl
theorem tz84 : tz Try.prog 84 = some [C.v (Value.string ⟨#[]⟩), C.v (Value.string ⟨#[]⟩), C.v (Value.string ⟨#[]⟩), C.v (Value.string ⟨#[]⟩), C.v (Value.string ⟨#[]⟩), C.v (Value.string ⟨#[]⟩), C.v (Value.string ⟨#[]⟩), C.v (Value.string ⟨#[]⟩), C.v (Value.string ⟨#[]⟩), C.v (Value.string ⟨#[]⟩), C.v (Value.string ⟨#[]⟩), C.v (Value.string ⟨#[]⟩), C.v (Value.string ⟨#[]⟩), C.v (Value.string ⟨#[]⟩), C.v (Value.string ⟨#[]⟩), C.v (Value.string ⟨#[]⟩)] := by kernel_rfl
theorem bo84 : Try.prog.bytesOf 84 = 256 := by kernel_rfl
theorem tk85 : tk Try.prog 85 = some TK.func := by kernel_rfl
theorem tsz85 : tsz Try.prog 85 = 1 := by kernel_rfl
theorem tz85 : tz Try.prog 85 = some [C.v Value.nilFunc] := by kernel_rfl
theorem bo85 : Try.prog.bytesOf 85 = 8 := by kernel_rfl
theorem tk86 : tk Try.prog 86 = some TK.func := by kernel_rfl
theorem tsz86 : tsz Try.prog 86 = 1 := by kernel_rfl
theorem tz86 : tz Try.prog 86 = some [C.v Value.nilFunc] := by kernel_rfl
theorem bo86 : Try.prog.bytesOf 86 = 8 := by kernel_rfl
theorem tk87 : tk Try.prog 87 = some TK.func := by kernel_rfl
theorem tsz87 : tsz Try.prog 87 = 1 := by kernel_rfl
theorem tz87 : tz Try.prog 87 = some [C.v Value.nilFunc] := by kernel_rfl
theorem bo87 : Try.prog.bytesOf 87 = 8 := by kernel_rfl
theorem tk88 : tk Try.prog 88 = some TK.func := by kernel_rfl
theorem tsz88 : tsz Try.prog 88 = 1 := by kernel_rfl
theorem tz88 : tz Try.prog 88 = some [C.v Value.nilFunc] := by kernel_rfl
theorem bo88 : Try.prog.bytesOf 88 = 8 := by kernel_rfl
theorem tk89 : tk Try.prog 89 = some TK.func := by kernel_rfl
theorem tsz89 : tsz Try.prog 89 = 1 := by kernel_rfl
theorem tz89 : tz Try.prog 89 = some [C.v Value.nilFunc] := by kernel_rfl
theorem bo89 : Try.prog.bytesOf 89 = 8 := by kernel_rfl
theorem tk90 : tk Try.prog 90 = some (TK.st [(9, 0), (39, 1)]) := by kernel_rfl
theorem tsz90 : tsz Try.prog 90 = 6 := by kernel_rfl
theorem tz90 : tz Try.prog 90 = some [C.v (Value.string ⟨#[]⟩), C.v (Value.int IntKind.i64 0), C.v (Value.bool false), C.v (Value.int IntKind.i64 0), C.v (Value.int IntKind.u64 0), C.v (Value.string ⟨#[]⟩)] := by kernel_rfl
theorem bo90 : Try.prog.bytesOf 90 = 64 := by kernel_rfl
theorem tk91 : tk Try.prog 91 = some (TK.st [(9, 0), (39, 1)]) := by kernel_rfl
theorem tsz91 : tsz Try.prog 91 = 6 := by kernel_rfl
theorem tz91 : tz Try.prog 91 = some [C.v (Value.string ⟨#[]⟩), C.v (Value.int IntKind.i64 0), C.v (Value.bool false), C.v (Value.int IntKind.i64 0), C.v (Value.int IntKind.u64 0), C.v (Value.string ⟨#[]⟩)] := by kernel_rfl
theorem bo91 : Try.prog.bytesOf 91 = 64 := by kernel_rfl
theorem tk92 : tk Try.prog 92 = some TK.func := by kernel_rfl
theorem tsz92 : tsz Try.prog 92 = 1 := by kernel_rfl
theorem tz92 : tz Try.prog 92 = some [C.v Value.nilFunc] := by kernel_rfl
theorem bo92 : Try.prog.bytesOf 92 = 8 := by kernel_rfl
theorem tk93 : tk Try.prog 93 = some TK.func := by kernel_rfl
theorem tsz93 : tsz Try.prog 93 = 1 := by kernel_rfl
theorem tz93 : tz Try.prog 93 = some [C.v Value.nilFunc] := by kernel_rfl
theorem bo93 : Try.prog.bytesOf 93 = 8 := by kernel_rfl
theorem tk94 : tk Try.prog 94 = some TK.func := by kernel_rfl
theorem tsz94 : tsz Try.prog 94 = 1 := by kernel_rfl
theorem tz94 : tz Try.prog 94 = some [C.v Value.nilFunc] := by kernel_rfl
theorem bo94 : Try.prog.bytesOf 94 = 8 := by kernel_rfl
theorem tk95 : tk Try.prog 95 = some TK.func := by kernel_rfl
theorem tsz95 : tsz Try.prog 95 = 1 := by kernel_rfl
theorem tz95 : tz Try.prog 95 = some [C.v Value.nilFunc] := by kernel_rfl
theorem bo95 : Try.prog.bytesOf 95 = 8 := by kernel_rfl
theorem tk96 : tk Try.prog 96 = some TK.func := by kernel_rfl
theorem tsz96 : tsz Try.prog 96 = 1 := by kernel_rfl
theorem tz96 : tz Try.prog 96 = some [C.v Value.nilFunc] := by kernel_rfl
theorem bo96 : Try.prog.bytesOf 96 = 8 := by kernel_rfl
theorem tk97 : tk Try.prog 97 = some TK.other := by kernel_rfl
theorem tsz97 : tsz Try.prog 97 = 1 := by kernel_rfl
theorem bo97 : Try.prog.bytesOf 97 = 0 := by kernel_rfl
theorem tk98 : tk Try.prog 98 = some TK.func := by kernel_rfl
theorem tsz98 : tsz Try.prog 98 = 1 := by kernel_rfl
theorem tz98 : tz Try.prog 98 = some [C.v Value.nilFunc] := by kernel_rfl
theorem bo98 : Try.prog.bytesOf 98 = 8 := by kernel_rfl
theorem tk99 : tk Try.prog 99 = some TK.func := by kernel_rfl
theorem tsz99 : tsz Try.prog 99 = 1 := by kernel_rfl
theorem tz99 : tz Try.prog 99 = some [C.v Value.nilFunc] := by kernel_rfl
theorem bo99 : Try.prog.bytesOf 99 = 8 := by kernel_rfl
theorem tk100 : tk Try.prog 100 = some TK.func := by kernel_rfl
theorem tsz100 : tsz Try.prog 100 = 1 := by kernel_rfl
theorem tz100 : tz Try.prog 100 = some [C.v Value.nilFunc] := by kernel_rfl
theorem bo100 : Try.prog.bytesOf 100 = 8 := by kernel_rfl
theorem tk101 : tk Try.prog 101 = some (TK.ptr 5) := by kernel_rfl
theorem tsz101 : tsz Try.prog 101 = 1 := by kernel_rfl
theorem tz101 : tz Try.prog 101 = some [C.v (Value.pointer none)] := by kernel_rfl
theorem bo101 : Try.prog.bytesOf 101 = 8 := by kernel_rfl
theorem tk102 : tk Try.prog 102 = some TK.func := by kernel_rfl
theorem tsz102 : tsz Try.prog 102 = 1 := by kernel_rfl
theorem tz102 : tz Try.prog 102 = some [C.v Value.nilFunc] := by kernel_rfl
theorem bo102 : Try.prog.bytesOf 102 = 8 := by kernel_rfl
theorem tk103 : tk Try.prog 103 = some TK.func := by kernel_rfl
theorem tsz103 : tsz Try.prog 103 = 1 := by kernel_rfl
theorem tz103 : tz Try.prog 103 = some [C.v Value.nilFunc] := by kernel_rfl
theorem bo103 : Try.prog.bytesOf 103 = 8 := by kernel_rfl
theorem tk104 : tk Try.prog 104 = some TK.func := by kernel_rfl
theorem tsz104 : tsz Try.prog 104 = 1 := by kernel_rfl
theorem tz104 : tz Try.prog 104 = some [C.v Value.nilFunc] := by kernel_rfl
theorem bo104 : Try.prog.bytesOf 104 = 8 := by kernel_rfl
theorem tk105 : tk Try.prog 105 = some TK.func := by kernel_rfl
theorem tsz105 : tsz Try.prog 105 = 1 := by kernel_rfl
theorem tz105 : tz Try.prog 105 = some [C.v Value.nilFunc] := by kernel_rfl
theorem bo105 : Try.prog.bytesOf 105 = 8 := by kernel_rfl
theorem tk106 : tk Try.prog 106 = some (TK.ptr 50) := by kernel_rfl
theorem tsz106 : tsz Try.prog 106 = 1 := by kernel_rfl
theorem tz106 : tz Try.prog 106 = some [C.v (Value.pointer none)] := by kernel_rfl
theorem bo106 : Try.prog.bytesOf 106 = 8 := by kernel_rfl
theorem tk107 : tk Try.prog 107 = some TK.func := by kernel_rfl
theorem tsz107 : tsz Try.prog 107 = 1 := by kernel_rfl
theorem tz107 : tz Try.prog 107 = some [C.v Value.nilFunc] := by kernel_rfl
theorem bo107 : Try.prog.bytesOf 107 = 8 := by kernel_rfl
theorem tk108 : tk Try.prog 108 = some TK.other := by kernel_rfl
theorem tsz108 : tsz Try.prog 108 = 1 := by kernel_rfl
theorem bo108 : Try.prog.bytesOf 108 = 0 := by kernel_rfl
theorem tk109 : tk Try.prog 109 = some TK.func := by kernel_rfl
theorem tsz109 : tsz Try.prog 109 = 1 := by kernel_rfl
theorem tz109 : tz Try.prog 109 = some [C.v Value.nilFunc] := by kernel_rfl
theorem bo109 : Try.prog.bytesOf 109 = 8 := by kernel_rfl
theorem tk110 : tk Try.prog 110 = some TK.other := by kernel_rfl
theorem tsz110 : tsz Try.prog 110 = 1 := by kernel_rfl
theorem tz110 : tz Try.prog 110 = some [C.v (Value.pointer none)] := by kernel_rfl
theorem bo110 : Try.prog.bytesOf 110 = 8 := by kernel_rfl
theorem tk111 : tk Try.prog 111 = some TK.func := by kernel_rfl
theorem tsz111 : tsz Try.prog 111 = 1 := by kernel_rfl
theorem tz111 : tz Try.prog 111 = some [C.v Value.nilFunc] := by kernel_rfl
theorem bo111 : Try.prog.bytesOf 111 = 8 := by kernel_rfl
theorem tk112 : tk Try.prog 112 = some TK.func := by kernel_rfl
theorem tsz112 : tsz Try.prog 112 = 1 := by kernel_rfl
theorem tz112 : tz Try.prog 112 = some [C.v Value.nilFunc] := by kernel_rfl
theorem bo112 : Try.prog.bytesOf 112 = 8 := by kernel_rfl
theorem tk113 : tk Try.prog 113 = some TK.other := by kernel_rfl
theorem tsz113 : tsz Try.prog 113 = 1 := by kernel_rfl
theorem bo113 : Try.prog.bytesOf 113 = 0 := by kernel_rfl
theorem tk114 : tk Try.prog 114 = some TK.func := by kernel_rfl
theorem tsz114 : tsz Try.prog 114 = 1 := by kernel_rfl
theorem tz114 : tz Try.prog 114 = some [C.v Value.nilFunc] := by kernel_rfl
theorem bo114 : Try.prog.bytesOf 114 = 8 := by kernel_rfl
theorem tk115 : tk Try.prog 115 = some TK.func := by kernel_rfl
theorem tsz115 : tsz Try.prog 115 = 1 := by kernel_rfl
theorem tz115 : tz Try.prog 115 = some [C.v Value.nilFunc] := by kernel_rfl
theorem bo115 : Try.prog.bytesOf 115 = 8 := by kernel_rfl
theorem tk116 : tk Try.prog 116 = some TK.func := by kernel_rfl
theorem tsz116 : tsz Try.prog 116 = 1 := by kernel_rfl
theorem tz116 : tz Try.prog 116 = some [C.v Value.nilFunc] := by kernel_rfl
theorem bo116 : Try.prog.bytesOf 116 = 8 := by kernel_rfl
theorem tk117 : tk Try.prog 117 = some TK.func := by kernel_rfl
theorem tsz117 : tsz Try.prog 117 = 1 := by kernel_rfl
theorem tz117 : tz Try.prog 117 = some [C.v Value.nilFunc] := by kernel_rfl
theorem bo117 : Try.prog.bytesOf 117 = 8 := by kernel_rfl
theorem tk118 : tk Try.prog 118 = some TK.func := by kernel_rfl
theorem tsz118 : tsz Try.prog 118 = 1 := by kernel_rfl
theorem tz118 : tz Try.prog 118 = some [C.v Value.nilFunc] := by kernel_rfl
theorem bo118 : Try.prog.bytesOf 118 = 8 := by kernel_rfl
theorem tk119 : tk Try.prog 119 = some (TK.st [(17, 0), (17, 1), (17, 2), (9, 3)]) := by kernel_rfl
theorem tsz119 : tsz Try.prog 119 = 4 := by kernel_rfl
theorem tz119 : tz Try.prog 119 = some [C.v (Value.pointer none), C.v (Value.pointer none), C.v (Value.pointer none), C.v (Value.string ⟨#[]⟩)] := by kernel_rfl
theorem bo119 : Try.prog.bytesOf 119 = 40 := by kernel_rfl
theorem tk120 : tk Try.prog 120 = some (TK.st [(17, 0), (17, 1), (17, 2), (9, 3)]) := by kernel_rfl
theorem tsz120 : tsz Try.prog 120 = 4 := by kernel_rfl
theorem tz120 : tz Try.prog 120 = some [C.v (Value.pointer none), C.v (Value.pointer none), C.v (Value.pointer none), C.v (Value.string ⟨#[]⟩)] := by kernel_rfl
theorem bo120 : Try.prog.bytesOf 120 = 40 := by kernel_rfl
theorem tk121 : tk Try.prog 121 = some (TK.arr 0 16) := by kernel_rfl
theorem tsz121 : tsz Try.prog 121 = 0 := by kernel_rfl
theorem tz121 : tz Try.prog 121 = some [] := by kernel_rfl
theorem bo121 : Try.prog.bytesOf 121 = 0 := by kernel_rfl
theorem tk122 : tk Try.prog 122 = some (TK.st [(121, 0)]) := by kernel_rfl
theorem tsz122 : tsz Try.prog 122 = 0 := by kernel_rfl
theorem tz122 : tz Try.prog 122 = some [] := by kernel_rfl
theorem bo122 : Try.prog.bytesOf 122 = 0 := by kernel_rfl
theorem tk123 : tk Try.prog 123 = some (TK.st [(121, 0)]) := by kernel_rfl
theorem tsz123 : tsz Try.prog 123 = 0 := by kernel_rfl
theorem tz123 : tz Try.prog 123 = some [] := by kernel_rfl
theorem bo123 : Try.prog.bytesOf 123 = 0 := by kernel_rfl
theorem tk124 : tk Try.prog 124 = some (TK.int IntKind.u32) := by kernel_rfl
theorem tsz124 : tsz Try.prog 124 = 1 := by kernel_rfl
theorem tz124 : tz Try.prog 124 = some [C.v (Value.int IntKind.u32 0)] := by kernel_rfl
theorem bo124 : Try.prog.bytesOf 124 = 4 := by kernel_rfl
theorem tk125 : tk Try.prog 125 = some (TK.int IntKind.u8) := by kernel_rfl
theorem tsz125 : tsz Try.prog 125 = 1 := by kernel_rfl
theorem tz125 : tz Try.prog 125 = some [C.v (Value.int IntKind.u8 0)] := by kernel_rfl
theorem bo125 : Try.prog.bytesOf 125 = 1 := by kernel_rfl
theorem tk126 : tk Try.prog 126 = some (TK.int IntKind.u8) := by kernel_rfl
theorem tsz126 : tsz Try.prog 126 = 1 := by kernel_rfl
theorem tz126 : tz Try.prog 126 = some [C.v (Value.int IntKind.u8 0)] := by kernel_rfl
theorem bo126 : Try.prog.bytesOf 126 = 1 := by kernel_rfl
theorem tk127 : tk Try.prog 127 = some TK.func := by kernel_rfl
theorem tsz127 : tsz Try.prog 127 = 1 := by kernel_rfl
theorem tz127 : tz Try.prog 127 = some [C.v Value.nilFunc] := by kernel_rfl
theorem bo127 : Try.prog.bytesOf 127 = 8 := by kernel_rfl
theorem tk128 : tk Try.prog 128 = some (TK.int IntKind.i32) := by kernel_rfl
theorem tsz128 : tsz Try.prog 128 = 1 := by kernel_rfl
theorem tz128 : tz Try.prog 128 = some [C.v (Value.int IntKind.i32 0)] := by kernel_rfl
theorem bo128 : Try.prog.bytesOf 128 = 4 := by kernel_rfl
theorem tk129 : tk Try.prog 129 = some (TK.int IntKind.i32) := by kernel_rfl
theorem tsz129 : tsz Try.prog 129 = 1 := by kernel_rfl
theorem tz129 : tz Try.prog 129 = some [C.v (Value.int IntKind.i32 0)] := by kernel_rfl
theorem bo129 : Try.prog.bytesOf 129 = 4 := by kernel_rfl
theorem tk130 : tk Try.prog 130 = some (TK.st [(12, 0), (12, 1), (124, 2), (125, 3), (5, 4), (5, 5), (126, 6), (127, 7), (101, 8), (128, 9), (129, 10)]) := by kernel_rfl
theorem tsz130 : tsz Try.prog 130 = 11 := by kernel_rfl
theorem tz130 : tz Try.prog 130 = some [C.v (Value.int IntKind.u64 0), C.v (Value.int IntKind.u64 0), C.v (Value.int IntKind.u32 0), C.v (Value.int IntKind.u8 0), C.v (Value.int IntKind.u8 0), C.v (Value.int IntKind.u8 0), C.v (Value.int IntKind.u8 0), C.v Value.nilFunc, C.v (Value.pointer none), C.v (Value.int IntKind.i32 0), C.v (Value.int IntKind.i32 0)] := by kernel_rfl
theorem bo130 : Try.prog.bytesOf 130 = 48 := by kernel_rfl
theorem tk131 : tk Try.prog 131 = some (TK.st [(12, 0), (12, 1), (124, 2), (125, 3), (5, 4), (5, 5), (126, 6), (127, 7), (101, 8), (128, 9), (129, 10)]) := by kernel_rfl
theorem tsz131 : tsz Try.prog 131 = 11 := by kernel_rfl
theorem tz131 : tz Try.prog 131 = some [C.v (Value.int IntKind.u64 0), C.v (Value.int IntKind.u64 0), C.v (Value.int IntKind.u32 0), C.v (Value.int IntKind.u8 0), C.v (Value.int IntKind.u8 0), C.v (Value.int IntKind.u8 0), C.v (Value.int IntKind.u8 0), C.v Value.nilFunc, C.v (Value.pointer none), C.v (Value.int IntKind.i32 0), C.v (Value.int IntKind.i32 0)] := by kernel_rfl
theorem bo131 : Try.prog.bytesOf 131 = 48 := by kernel_rfl
theorem mixed : Try.prog.follows .mixedOrders = true := by kernel_rfl

end Go.Dl

namespace Go.Dl
open Go.RowKit
open Go.Proofs
set_option linter.unusedSimpArgs false
set_option linter.unusedVariables false

theorem ok0 : FsOK Try.prog Fs.none := ⟨fun _ _ h => (by cases h), fun _ _ h => (by cases h)⟩

theorem wrap_succ (i n : Nat) (h : i < n) (hn : n ≤ maxStr) : IntKind.wrap .i64 ((i : Int) + 1) = ((i + 1 : Nat) : Int) := by
  rw [wrap_i64 _ (by omega) (by unfold maxStr at hn; omega)]; rfl

/-- Numbers. -/
def decNums : List C → Option (List Int)
  | [] => some []
  | .v (.int .i64 n) :: cs => (decNums cs).map (n :: ·)
  | _ => none

def nums (l : List Int) : List C := l.map fun n => .v (.int .i64 n)

theorem decNums_eq : ∀ {cs : List C} {l : List Int}, decNums cs = some l → cs = nums l
  | [], l, h => by cases h; rfl
  | c :: cs, l, h => by
    unfold decNums at h
    split at h
    · rename_i heq; cases heq
    · rename_i n cs' heq
      cases heq
      cases hr : decNums cs with
      | none => rw [hr] at h; cases h
      | some l' => rw [hr] at h; cases h; rw [decNums_eq hr]; rfl
    · cases h

theorem decNums_nums : ∀ l : List Int, decNums (nums l) = some l
  | [] => rfl
  | n :: l => by show (decNums (nums l)).map (n :: ·) = _; rw [decNums_nums l]; rfl

theorem nums_st (H : List (Option Root)) (l : List Int) : (nums l).all (C.st H) = true := by simp [nums, C.st]
theorem nums_cpy (l : List Int) : (nums l).map C.cpy = nums l := by simp only [nums, List.map_map]; rfl
theorem nums_cp (l : List Int) : (nums l).all C.cp = true := by simp [nums, C.cp]
theorem nums_len (l : List Int) : (nums l).length = l.length := by simp [nums]
theorem nums_take (l : List Int) : (nums l).take l.length = nums l := List.take_of_length_le (by simp [nums])
theorem nums_get (l : List Int) (i : Nat) (x : Int) (h : l[i]? = some x) : (nums l)[i]? = some (.v (.int .i64 x)) := by simp [nums, h]
theorem nums_drop (l : List Int) (i : Nat) (x : Int) (h : l[i]? = some x) : ∃ cs, (nums l).drop i = .v (.int .i64 x) :: cs := by
  have hi := lt_len h
  rw [List.getElem?_eq_getElem hi] at h
  cases h
  exact ⟨nums (l.drop (i + 1)), by simp only [nums]; rw [← List.map_drop, List.drop_eq_getElem_cons hi]; rfl⟩

theorem nums_arg (H : List (Option Root)) (ρ : List Nat) : ∀ l : List Int, argCs H ρ (nums l) = some (nums l, [])
  | [] => rfl
  | n :: l => by
    have := nums_arg H ρ l
    simp only [nums, List.map_cons] at this ⊢
    simp only [argCs, this]; rfl

/-- Texts. -/
def decStrs : List (List C) → Option (List ByteArray)
  | [] => some []
  | [.v (.string s)] :: rs => (decStrs rs).map (s :: ·)
  | _ => none

def strs (l : List ByteArray) : List (List C) := l.map fun s => [.v (.string s)]

theorem decStrs_eq : ∀ {rows : List (List C)} {l : List ByteArray}, decStrs rows = some l → rows = strs l
  | [], l, h => by cases h; rfl
  | row :: rs, l, h => by
    unfold decStrs at h
    split at h
    · rename_i heq; cases heq
    · rename_i n rs' heq
      cases heq
      cases hr : decStrs rs with
      | none => rw [hr] at h; cases h
      | some l' => rw [hr] at h; cases h; rw [decStrs_eq hr]; rfl
    · cases h

theorem decStrs_strs : ∀ l : List ByteArray, decStrs (strs l) = some l
  | [] => rfl
  | n :: l => by show (decStrs (strs l)).map (n :: ·) = _; rw [decStrs_strs l]; rfl

theorem strs_len (l : List ByteArray) : (strs l).length = l.length := by simp [strs]
theorem strs_get (l : List ByteArray) (i : Nat) (x : ByteArray) (h : l[i]? = some x) : (strs l)[i]? = some [.v (.string x)] := by simp [strs, h]
theorem strs_take (l : List ByteArray) (n : Nat) : (strs l).take n = strs (l.take n) := by simp [strs]

theorem strs_cps (l : List ByteArray) : ((strs l).all fun row => row.all C.cp) = true := by
  rw [List.all_eq_true]
  intro row h
  obtain ⟨x, _, rfl⟩ := List.mem_map.1 h
  rfl
theorem strs_all (l : List ByteArray) : (strs l).take l.length = strs l := by
  rw [strs_take, List.take_length]

/-- A text's bytes. -/
def B (s : ByteArray) : List UInt8 := s.data.toList

theorem B_append (a b : ByteArray) : B (a ++ b) = B a ++ B b := by
  show (a ++ b).data.toList = a.data.toList ++ b.data.toList
  rw [ByteArray.data_append, Array.toList_append]

theorem B_inj {a b : ByteArray} (h : B a = B b) : a = b := by
  cases a with
  | mk x => cases b with
    | mk y => exact congrArg ByteArray.mk (Array.toList_inj.1 h)

theorem B_length (s : ByteArray) : (B s).length = s.size := by
  show s.data.toList.length = s.data.size
  rw [Array.length_toList]

theorem B_extract (s : ByteArray) (i j : Nat) : B (s.extract i j) = ((B s).drop i).take (j - i) := by
  simp only [B, ByteArray.data_extract, Array.toList_extract, List.extract_eq_take_drop]

theorem strEq_B (a b : ByteArray) : strEq a b = (B a == B b) := by
  unfold strEq
  rw [ByteArray.toList_eq, ByteArray.toList_eq]; rfl

theorem last_get (H : List (Option Root)) (x : Option Root) : (H ++ [x])[H.length]? = some x := by simp

theorem last_set (T : List (Option Root)) (x y : Option Root) : (T ++ [x]).set T.length y = T ++ [y] := by
  rw [List.set_append_right _ _ (Nat.le_refl _), Nat.sub_self]; rfl

end Go.Dl

namespace Go.Dl
open Go.RowKit

section
variable {P : Program} {Φ : Fs}

theorem rr_callD {ops : Array Oper} {o : Oper} {os : List Oper} {A : St} {K : St → Prop} {c : Call} {k : FuncId} {caps : List C} {f : Operand} {ds ds' : List D} {ρ B : List Nat} {objs objs' : List Obj} {spec : Spec} {d : D}
    (hg : o.guard = none) (ho : o.op = .call c) (hop : o.op.operands.toList.all opdOK = true) (hc : c.callee = .value f) (hf : A.ev f = some (.c (.f k caps))) (hk : callable P k = true) (hds : evsA A c.args.toList = some ds)
    (harg : argDs A.H ρ (ds ++ caps.map .c) = some (ds', B)) (hρ : ρ.Nodup) (hobjs : objsAt A.H ρ = some objs) (hm : Meets P k spec) (hs : spec ds' objs (fun d' os' => d' = d ∧ os' = objs'))
    (hB : B = [] ∨ (d.ni = true ∧ ∀ o ∈ objs', Obj.ni o = true)) (h : RunR P ops os (St.put { A with H := (settle (setObjs A.H ρ objs') d).2 } o.dst (settle (setObjs A.H ρ objs') d).1) K) : RunR P ops (o :: os) A K := by
  refine rr_step (R := fun A' => A' = St.put { A with H := (settle (setObjs A.H ρ objs') d).2 } o.dst (settle (setObjs A.H ρ objs') d).1) hg (step_call ho hop hc hf hk hds harg hρ hobjs hm hs ?_) (by rintro _ rfl; exact h)
  rintro _ _ ⟨rfl, rfl⟩ _
  exact ⟨hB, rfl⟩

end
end Go.Dl

namespace Go.Dl
open Go.RowKit

/-- A result that nobody will change. -/
def D.frz : D → D
  | .c (.s true es rows) => if (rows.all fun row => row.all C.cp) = true then .c (.s false es rows) else .c (.s true es rows)
  | d => d

theorem rows_cp {rows : List (List C)} (h : (rows.all fun row => row.all C.cp) = true) : rows.flatten.all C.cp = true := by
  rw [List.all_eq_true]
  intro c hcm
  obtain ⟨row, hrow, hcr⟩ := List.mem_flatten.1 hcm
  exact List.all_eq_true.1 (List.all_eq_true.1 h row hrow) c hcr

theorem left_frz {w w' : World} {S : Nat → Prop} {pls : List Pl} {fps : List (List Nat)} {d : D} {v : Value} {objs' : List Obj} (h : Left w w' S pls fps d v objs') : Left w w' S pls fps d.frz v objs' := by
  unfold D.frz
  split
  · rename_i es rows
    split
    · rename_i hc
      refine ⟨h.size, h.keep, h.os, h.tape, h.output, ?_⟩
      obtain ⟨S', pls', fps', fpd, l1, l2, l3, l4, l5, l6, l7⟩ := h.rest
      have l3' : Rep w' S' [] (.k false (.s true es rows) v) fpd := l3
      cases l3' with
      | nilO => exact ⟨S', pls', fps', [], l1, l2, .nilI, l4, l5, l6, l7⟩
      | own hz hb hc' hl hr =>
        rename_i b off cap fp
        have hfp := cells_cp hr (rows_cp hc)
        subst hfp
        have hb6 := l6 b (by simp)
        refine ⟨fun x => S' x ∨ x = b, pls', fps', [], fun x hx => .inl (l1 x hx), fun x hx => ?_, ?_, ?_, ?_, ?_, l7⟩
        · rcases hx with hx | rfl
          · exact l2 x hx
          · exact ⟨hb6.2.1, .inr hb6.2.2⟩
        · exact .imm (.inr rfl) hc' hl (hr.mono (fun _ h => .inl h) (.refl _ _) (fun _ _ => rfl))
        · obtain ⟨m1, m2, m3⟩ := l4
          refine ⟨m1, m2, fun i ob hob => ?_⟩
          obtain ⟨p, f, k1, k2, k3⟩ := m3 i ob hob
          exact ⟨p, f, k1, k2, k3.mono (fun _ h => .inl h) (.refl _ _) (fun _ _ => rfl)⟩
        · simpa using (List.nodup_append.1 l5).2.1
        · intro x hx
          have hx' : x ∈ fps'.flatten := by simpa using hx
          obtain ⟨q1, q2, q3⟩ := l6 x (List.mem_append_right _ hx')
          refine ⟨?_, q2, q3⟩
          rintro (h | rfl)
          · exact q1 h
          · exact (List.nodup_append.1 l5).2.2 x (by simp) x hx' rfl
    · exact h
  · exact h

theorem meets_frz {P : Program} {k : FuncId} {spec : Spec} (h : Meets P k spec) : Meets P k (fun args objs Q => spec args objs (fun d os => Q d.frz os)) := by
  intro args objs Q hs w S vs pls fps h1 h2 h3 h4 h5 h6
  refine (h args objs _ hs w S vs pls fps h1 h2 h3 h4 h5 h6).mono ?_
  rintro e w' ⟨v, d, os, e1, hq, hl, left⟩
  exact ⟨v, d.frz, os, e1, hq, hl, left_frz left⟩

theorem meets_frzP {P : Program} {k : FuncId} {f : List D → Option D} (h : Meets P k (pureS f)) : Meets P k (pureS fun a => (f a).map D.frz) := by
  intro args objs Q hs
  refine meets_frz h args objs Q ?_
  obtain ⟨h1, d, h2, h3⟩ := hs
  cases hf : f args with
  | none => simp only [hf] at h2; cases h2
  | some d0 => simp only [hf] at h2; cases h2; exact ⟨h1, d0, hf, h3⟩

theorem meets_frzO {P : Program} {k : FuncId} {f : List D → List Obj → Option (D × List Obj)} (h : Meets P k (detS f)) : Meets P k (detS fun a o => (f a o).map fun r => (r.1.frz, r.2)) := by
  intro args objs Q hs
  refine meets_frz h args objs Q ?_
  obtain ⟨d, os, h2, h3⟩ := hs
  cases hf : f args objs with
  | none => simp only [hf] at h2; cases h2
  | some d0 => simp only [hf] at h2; cases h2; exact ⟨d0.1, d0.2, hf, h3⟩

/-- An argument; a function brings what it captured. -/
def argF (H : List (Option Root)) (ρ : List Nat) : D → Option (D × List Nat)
  | .c (.f k caps) => (argCs H ρ caps).map fun r => (.c (.f k r.1), r.2)
  | d => argD H ρ d

def argFs (H : List (Option Root)) (ρ : List Nat) : List D → Option (List D × List Nat)
  | [] => some ([], [])
  | d :: ds => match argF H ρ d, argFs H ρ ds with
    | some (d', l1), some (ds', l2) => some (d' :: ds', l1 ++ l2)
    | _, _ => none

section
variable {P : Program} {g : G} {S : Nat → Prop} {E : Env} {F : List (List Nat)} {A : St} {a : Act} {w : World}

theorem argF_sound (hr : Rel g S E F A a w) {ρ : List Nat} {pls : List Pl} (hp : ∀ (i r : Nat), ρ[i]? = some r → ∃ p, E[r]? = some (some p) ∧ pls[i]? = some p) {d d' : D} {v : Value} {B Bs : List Nat} (h : RepD w S E d v)
    (ha : argF A.H ρ d = some (d', B)) (hB : ∀ r ∈ B, r ∈ Bs) : RepD w (fun b => S b ∨ Lent F Bs b) (pls.map some) d' v ∧ ∀ r ∈ B, r ∉ ρ := by
  unfold argF at ha
  split at ha
  · rename_i k caps
    cases hc : argCs A.H ρ caps with
    | none => rw [hc] at ha; cases ha
    | some r =>
      rw [hc] at ha; cases ha
      cases h with
      | c h =>
        cases h with
        | f _ hh =>
          obtain ⟨h1, h2⟩ := argCs_sound hr hp hh hc hB
          exact ⟨.c (.f (.inl rfl) h1), h2⟩
  · exact argD_sound hr hp h ha hB

theorem argFs_sound (hr : Rel g S E F A a w) {ρ : List Nat} {pls : List Pl} (hp : ∀ (i r : Nat), ρ[i]? = some r → ∃ p, E[r]? = some (some p) ∧ pls[i]? = some p) : ∀ {ds ds' : List D} {vs : List Value} {B Bs : List Nat}, ds.length = vs.length →
    (∀ (i : Nat) (d : D), ds[i]? = some d → RepD w S E d (vs.getD i undef)) → argFs A.H ρ ds = some (ds', B) → (∀ r ∈ B, r ∈ Bs) →
    (ds'.length = ds.length ∧ ∀ (i : Nat) (d : D), ds'[i]? = some d → RepD w (fun b => S b ∨ Lent F Bs b) (pls.map some) d (vs.getD i undef)) ∧ ∀ r ∈ B, r ∉ ρ
  | [], ds', vs, B, Bs, hl, h, ha, hB => by cases ha; exact ⟨⟨rfl, by simp⟩, by simp⟩
  | d :: ds, ds', vs, B, Bs, hl, h, ha, hB => by
    simp only [argFs] at ha
    split at ha
    · rename_i d1 l1 ds1 l2 h1 h2
      cases ha
      cases vs with
      | nil => simp at hl
      | cons v vs =>
        obtain ⟨q1, q2⟩ := argF_sound hr hp (h 0 d rfl) h1 (fun r hr => hB r (List.mem_append_left _ hr))
        obtain ⟨⟨r0, r1⟩, r2⟩ := argFs_sound hr hp (vs := vs) (by simpa using hl) (fun i d hd => by have := h (i + 1) d (by simpa using hd); simpa using this) h2 (fun r hr => hB r (List.mem_append_right _ hr))
        refine ⟨⟨by simp [r0], fun i d' hd => ?_⟩, fun r hr => ?_⟩
        · cases i with
          | zero => simp at hd; subst hd; simpa using q1
          | succ i => have := r1 i d' (by simpa using hd); simpa using this
        · rcases List.mem_append.1 hr with h | h
          · exact q2 r h
          · exact r2 r h
    · cases ha

theorem step_callF {o : Oper} {c : Call} {A : St} {R : St → Prop} {k : FuncId} {caps : List C} {f : Operand} {ds ds' : List D} {ρ B : List Nat} {objs : List Obj} {spec : Spec} {Q : D → List Obj → Prop}
    (ho : o.op = .call c) (hop : o.op.operands.toList.all opdOK = true) (hc : c.callee = .value f) (hf : A.ev f = some (.c (.f k caps))) (hk : callable P k = true) (hds : evsA A c.args.toList = some ds)
    (harg : argFs A.H ρ (ds ++ caps.map .c) = some (ds', B)) (hρ : ρ.Nodup) (hobjs : objsAt A.H ρ = some objs) (hm : Meets P k spec) (hs : spec ds' objs Q)
    (hR : ∀ d objs', Q d objs' → objs'.length = objs.length → (B = [] ∨ (d.ni = true ∧ ∀ o ∈ objs', Obj.ni o = true)) ∧ R (St.put { A with H := (settle (setObjs A.H ρ objs') d).2 } o.dst (settle (setObjs A.H ρ objs') d).1)) :
    Step P o A R := by
  intro g a w ⟨S, E, F, hr⟩ next Q0 hn
  have hopm : ∀ x ∈ c.args.toList, opdOK x = true := fun x hx => List.all_eq_true.1 hop x (by rw [ho]; simp only [Op.operands, Call.operands, Array.toList_append, List.mem_append]; exact .inr hx)
  have hopf : opdOK f = true := List.all_eq_true.1 hop f (by rw [ho]; simp [Op.operands, Call.operands, hc])
  obtain ⟨e1, e2⟩ := evsA_spec hds
  -- the callee
  have hfv := ev_rep hr hopf hf
  have hcs : ∃ cs : Array Value, a.eval f = .func (.func k) #[] cs ∧ Rep w S E (.vs caps cs.toList) [] := by
    generalize a.eval f = vf at hfv
    cases hfv with
    | c h => cases h with
      | f _ hh => exact ⟨_, rfl, hh⟩
  obtain ⟨cs, hfe, hcaps⟩ := hcs
  have hrun : (execOp a.eval o).run P w = .ok (.enter k (c.args.map a.eval ++ cs)) w := by
    have h1 : (execOp a.eval o).run P w = (invoke (.fn (.func k) cs) (#[] ++ c.args.map a.eval)).run P w := by
      simp only [execOp, ho, Sem.run_bind, resolve, hc, Deferred.ofValue, hfe, Sem.run_pure, Result.andThen_ok]
    rw [h1]
    simp only [invoke, Array.empty_append]
    exact run_callFunc hk
  -- the objects
  obtain ⟨ob1, ob2⟩ := objsAt_spec hobjs
  have hρH : ∀ r ∈ ρ, ∃ R p f, A.H[r]? = some (some R) ∧ E[r]? = some (some p) ∧ F[r]? = some f ∧ RootAt w S E R p f := by
    intro r hrm
    obtain ⟨i, hi⟩ := List.getElem?_of_mem hrm
    have hi' := lt_len hi
    obtain ⟨r', R, q1, q2, _⟩ := ob2 i (objs[i]'(by omega)) (List.getElem?_eq_getElem _)
    rw [hi] at q1; cases q1
    obtain ⟨p, f, h1, h2, h3⟩ := hr.root r R q2
    exact ⟨R, p, f, q2, h1, h2, h3⟩
  let pl : Nat → Pl := fun r => ((E[r]?).getD none).getD ⟨none, 0, 0, 0⟩
  let fl : Nat → List Nat := fun r => (F[r]?).getD []
  have hpls : ∀ (i r : Nat), ρ[i]? = some r → ∃ p f, E[r]? = some (some p) ∧ F[r]? = some f ∧ (ρ.map pl)[i]? = some p ∧ (ρ.map fl)[i]? = some f := by
    intro i r hi
    obtain ⟨R, p, f, _, h1, h2, _⟩ := hρH r (List.mem_of_getElem? hi)
    exact ⟨p, f, h1, h2, by simp [pl, hi, h1], by simp [fl, hi, h2]⟩
  -- the arguments
  have hvals : (ds ++ caps.map D.c).length = ((c.args.map a.eval).toList ++ cs.toList).length := by
    have := vs_len hcaps
    simp [e1] at this ⊢
    omega
  have hrep : ∀ (i : Nat) (d : D), (ds ++ caps.map D.c)[i]? = some d → RepD w S E d (((c.args.map a.eval).toList ++ cs.toList).getD i undef) := by
    intro i d hd
    have hla : (c.args.map a.eval).toList.length = ds.length := by simp [e1]
    by_cases hi : i < ds.length
    · rw [List.getElem?_append_left hi] at hd
      obtain ⟨x, k1, k2⟩ := e2 i d hd
      have := ev_rep hr (hopm x (List.mem_of_getElem? k1)) k2
      have hx : ((c.args.map a.eval).toList ++ cs.toList).getD i undef = a.eval x := by
        rw [List.getD_eq_getElem?_getD, List.getElem?_append_left (by omega), Array.toList_map, List.getElem?_map, k1]; rfl
      rw [hx]; exact this
    · rw [List.getElem?_append_right (by omega), List.getElem?_map, Option.map_eq_some_iff] at hd
      obtain ⟨y, k1, rfl⟩ := hd
      obtain ⟨_, k2⟩ := vs_get hcaps
      obtain ⟨v, f, m1, m2, m3⟩ := k2 _ y k1
      have : f = [] := List.eq_nil_iff_forall_not_mem.2 fun x hx => by cases m3 x hx
      subst this
      have hx : ((c.args.map a.eval).toList ++ cs.toList).getD i undef = v := by
        rw [List.getD_eq_getElem?_getD, List.getElem?_append_right (by omega), hla, m1]; rfl
      rw [hx]; exact .c m2
  obtain ⟨⟨n1, n2⟩, n3⟩ := argFs_sound hr (pls := ρ.map pl) (fun i r hi => by obtain ⟨p, f, h1, _, h3, _⟩ := hpls i r hi; exact ⟨p, h1, h3⟩) (vs := (c.args.map a.eval).toList ++ cs.toList) hvals hrep harg (fun r hr => hr)
  have hfl : ∀ b, b ∈ (ρ.map fl).flatten → ∃ r ∈ ρ, ∃ f, F[r]? = some f ∧ b ∈ f := by
    intro b hb
    obtain ⟨f, h1, h2⟩ := List.mem_flatten.1 hb
    obtain ⟨r, h3, rfl⟩ := List.mem_map.1 h1
    obtain ⟨R, p, f', _, _, k2, _⟩ := hρH r h3
    exact ⟨r, h3, f', k2, by simpa [fl, k2] using h2⟩
  have hobjsAt : ObjsAt w (fun b => S b ∨ Lent F B b) objs (ρ.map pl) (ρ.map fl) := by
    refine ⟨by simp [ob1], by simp [ob1], fun i ob hob => ?_⟩
    obtain ⟨r, R, q1, q2, q3, q4⟩ := ob2 i ob hob
    obtain ⟨p, f, h1, h2, h3, h4⟩ := hpls i r q1
    obtain ⟨p0, f0, t1, t2, t3⟩ := hr.root r R q2
    rw [h1] at t1; cases t1
    rw [h2] at t2; cases t2
    refine ⟨p, f, h3, h4, ?_⟩
    subst q4
    obtain ⟨g1, g2, g3, g4, g5⟩ := t3
    refine ⟨g1, g2, g3, g4, ?_⟩
    cases hat : p.at? with
    | none => rw [hat] at g5; exact g5
    | some bo =>
      rw [hat] at g5
      obtain ⟨fr, u1, u2, u3⟩ := g5
      exact ⟨fr, u1, u2, ((u3.ldat (rows_dat q3)).noenv (E' := []) rfl).mono (fun b hb => .inl hb) (.refl _ _) (fun _ _ => rfl)⟩
  have hmeet := hm ds' objs Q hs w (fun b => S b ∨ Lent F B b) (c.args.map a.eval ++ cs) (ρ.map pl) (ρ.map fl) (by rw [n1]; simpa using hvals)
    (fun i d hd => by
      have := n2 i d hd
      rwa [← Array.toList_append, show ((c.args.map a.eval ++ cs).toList.getD i undef) = (c.args.map a.eval ++ cs).getD i undef by
        rw [List.getD_eq_getElem?_getD, Array.getElem?_toList, Array.getD_eq_getD_getElem?]] at this)
    hobjsAt
    (by
      refine nodup_flat ?_ ?_
      · intro f hf
        obtain ⟨r, h3, rfl⟩ := List.mem_map.1 hf
        obtain ⟨R, p, f', _, _, k2, _⟩ := hρH r h3
        simp only [fl, k2, Option.getD_some]
        exact nodup_at hr.nodup k2
      · intro i j f f' x hi hj hx hx'
        rw [List.getElem?_map, Option.map_eq_some_iff] at hi hj
        obtain ⟨ri, i1, rfl⟩ := hi
        obtain ⟨rj, j1, rfl⟩ := hj
        obtain ⟨_, _, fi, _, _, ki, _⟩ := hρH ri (List.mem_of_getElem? i1)
        obtain ⟨_, _, fj, _, _, kj, _⟩ := hρH rj (List.mem_of_getElem? j1)
        have := apart hr ki kj (by simpa [fl, ki] using hx) (by simpa [fl, kj] using hx')
        subst this
        exact (List.getElem?_inj (lt_len i1) hρ).1 (i1.trans j1.symm))
    (by
      intro b hb
      obtain ⟨r, h1, f, h2, h3⟩ := hfl b hb
      refine ⟨?_, (hr.fsz b (flat_get h2 b h3)).1⟩
      rintro (h | ⟨r', m1, f', m2, m3⟩)
      · exact hr.fS b (flat_get h2 b h3) h
      · have := apart hr h2 m2 h3 m3
        subst this
        exact n3 r m1 h1)
    (by
      rintro b (h | ⟨r', m1, f', m2, m3⟩)
      · exact (hr.Ssz b h).1
      · exact (hr.fsz b (flat_get m2 b m3)).1)
  unfold Oper.wp
  rw [hrun, Oper.upon_enter]
  refine hmeet.mono ?_
  rintro e w' ⟨v, d, objs', rfl, hQ, hlo, hleft⟩
  obtain ⟨r1, r2⟩ := hR d objs' hQ hlo
  obtain ⟨S2, E2, F2, t1, t2⟩ := hr.afterCall hρ hobjs ⟨by simp, by simp⟩ hpls n3 hlo hleft r1
  exact hn _ _ _ r2 ⟨S2, E2, F2, t1.put t2⟩


/-- The head of an own row, as an own slice. -/
theorem outC_take (hr : Rel g S E F A a w) {n len : Nat} {N : Root} {v : Value} (hN : A.H[n]? = some (some N)) (c1 : N.dat = true) (c0 : N.es ≠ 0) (hlen : len ≤ N.rows.length) (hcp : (N.rows.all fun row => row.all C.cp) = true)
    (h : Rep w S E (.k false (.h n 0 len) v) []) : ∃ fp, Rep w S [] (.k false (.s true N.es (N.rows.take len)) v) fp ∧ (∀ x ∈ fp, ∃ r ∈ [n], ∃ f, F[r]? = some f ∧ x ∈ f) ∧ fp.Nodup := by
  obtain ⟨p, f, h1, h2, h3, h4⟩ := handle_live hr hN (.c h)
  obtain ⟨g1, g2, g3, g4, g5⟩ := h3
  obtain ⟨k1, k2⟩ := h4
  have hlen' : (N.rows.take len).length = len := by rw [List.length_take]; omega
  cases hat : p.at? with
  | none =>
    rw [hat] at k2 g5
    obtain ⟨ad, rfl⟩ := k2
    obtain ⟨e1, _, _⟩ := g5
    rw [e1, List.take_nil]
    exact ⟨[], .nilO, by simp, by simp⟩
  | some bo =>
    obtain ⟨b, off⟩ := bo
    rw [hat] at k2 g5
    obtain ⟨ad, cap, rfl, q2, q3, q4⟩ := k2
    obtain ⟨fr, rfl, e2, e3⟩ := g5
    by_cases hcap0 : cap = 0
    · subst hcap0
      have : len = 0 := by omega
      subst this
      rw [List.take_zero]
      exact ⟨[], .nilO, by simp, by simp⟩
    · have had : ad = ⟨b, off, none⟩ := by
        rcases q4 with q4 | q4
        · exact absurd q4 hcap0
        · rw [q4]; simp
      subst had
      rw [c1] at e3
      obtain ⟨f1, f2, f3, hff, hr2⟩ := flatten_sub g4 e3 0 len (by omega)
      rw [List.drop_zero] at hr2
      have hr2 : Rep w S E (.l true (N.rows.take len).flatten b off) f2 := by simpa using hr2
      have hf2 : f2 = [] := by
        refine cells_cp hr2 (rows_cp ?_)
        rw [List.all_eq_true]
        intro row hrow
        exact List.all_eq_true.1 hcp row (List.mem_of_mem_take hrow)
      subst hf2
      have := Rep.own (dat := false) (S := S) (w := w) (E := []) (es := N.es) (rows := N.rows.take len) (b := b) (off := off) (cap := cap) (fp := []) c0 (by
          obtain ⟨arr, el, z, m1, m2, m3⟩ := e2
          refine ⟨arr, el, z, m1, ?_, m3⟩
          have := Nat.mul_le_mul_right N.es (show cap ≤ p.m by omega)
          omega) (by rw [hlen']; exact q2) (fun r hr => g4 r (List.mem_of_mem_take hr)) (hr2.noenv rfl)
      rw [hlen'] at this
      exact ⟨[b], this, fun x hx => ⟨n, by simp, _, h2, by rw [List.mem_singleton.1 hx]; exact List.mem_cons_self ..⟩, by simp⟩

def closeT (A : St) (r e c : Nat) : Option St :=
  match A.H[r]? with
  | some (some R) => if R.dat = true then none else match R.rows[e]? with
    | some row => match row[c]? with
      | some (.h n 0 len) => match A.H[n]? with
        | some (some N) => if N.dat = true ∧ N.es ≠ 0 ∧ len ≤ N.rows.length ∧ (N.rows.all fun row => row.all C.cp) = true then
            some ⟨A.sl.map (D.kill n), ((killH n (A.H.set r (some ⟨false, R.es, R.rows.set e (row.set c .x)⟩))).set n none).set r
              (some ⟨false, R.es, ((R.rows.set e (row.set c .x)).map fun row => row.map (C.kill n)).set e (((row.set c .x).map (C.kill n)).set c (.s true N.es (N.rows.take len)))⟩)⟩ else none
        | _ => none
      | _ => none
    | none => none
  | _ => none

theorem closeT_sat {A' : St} {r e c : Nat} (ho : closeT A r e c = some A') (hs : Sat g A a w) : Sat g A' a w := by
  obtain ⟨S, E, F, hr⟩ := hs
  unfold closeT at ho
  split at ho
  · rename_i R hR
    split at ho
    · cases ho
    · rename_i hd
      have hd : R.dat = false := by simpa using hd
      split at ho
      · rename_i row hrow
        split at ho
        · rename_i n len hc
          split at ho
          · rename_i N hN
            split at ho
            · rename_i hcond
              cases ho
              have hnr : n ≠ r := fun h => by
                subst h
                rw [hR] at hN; cases hN
                rw [hd] at hcond; cases hcond.1
              obtain ⟨v, fc, f1, f3, b, p, h1, h2, h3, h4, ⟨off, ha, hv⟩, h5⟩ := hr.cellAt hR hd hrow hc (by simp)
              have hfc : fc = [] := by cases h3; rfl
              subst hfc
              obtain ⟨fp, k1, k2, k3⟩ := outC_take hr hN hcond.1 hcond.2.1 hcond.2.2.1 hcond.2.2.2 h3
              have q1 := hr.refoot (f' := b :: (f1 ++ ([] ++ f3))) hR h1 h2 (h5 .x [] .x) h4 (fun x hx => .inl hx) hd.symm
              rw [set_same h2] at q1
              have q3 := (q1.kill n).dropRoot n
              have hRx : ((St.kill n { A with H := A.H.set r (some ⟨false, R.es, R.rows.set e (row.set c .x)⟩) }).H.set n none)[r]? = some (some ⟨false, R.es, (R.rows.set e (row.set c .x)).map fun row => row.map (C.kill n)⟩) := by
                rw [List.getElem?_set_ne hnr]
                simp only [St.kill, killH, List.getElem?_map]
                rw [List.getElem?_set_self (lt_len hR)]
                rfl
              obtain ⟨v2, fc2, g1, g3, b2, p2, u1, u2, u3, u4, ⟨off2, hb, hv2⟩, u5⟩ := q3.cellAt (r := r) (e := e) (c := c) (c0 := .x) hRx rfl
                (by rw [List.getElem?_map, List.getElem?_set_self (lt_len hrow)]; rfl) (by rw [List.getElem?_map, List.getElem?_set_self (lt_len hc)]; rfl) (by simp)
              cases u3
              rw [List.getElem?_set_ne hnr, h1] at u1
              cases u1
              rw [ha] at hb
              cases hb
              rw [hv] at hv2
              cases hv2
              have hsub : ∀ x ∈ fp, ∃ f, F[n]? = some f ∧ x ∈ f := by
                intro x hx
                obtain ⟨i, hi, f, m1, m2⟩ := k2 x hx
                rw [List.mem_singleton] at hi
                subst hi
                exact ⟨f, m1, m2⟩
              have hout : ∀ x ∈ fp, x ∉ (F.set n []).flatten := by
                intro x hx hm
                obtain ⟨f, m1, m2⟩ := hsub x hx
                obtain ⟨f', m3, m4⟩ := List.mem_flatten.1 hm
                obtain ⟨i, hi⟩ := List.getElem?_of_mem m3
                rw [List.getElem?_set] at hi
                split at hi
                · rename_i hni
                  rw [if_pos (lt_len m1)] at hi
                  cases hi; cases m4
                · rename_i hni
                  exact hni (apart hr m1 hi m2 m4)
              have t5 := q3.refoot (f' := b :: (g1 ++ (fp ++ g3))) hRx (by rw [List.getElem?_set_ne hnr]; exact h1) u2 (u5 (.s true N.es (N.rows.take len)) fp (k1.noenv (.inr rfl))) (by
                have y1 := List.nodup_cons.1 u4
                have y2 := List.nodup_append.1 y1.2
                have sub : ∀ x, x ∈ b :: (g1 ++ ([] ++ g3)) → x ∈ (F.set n []).flatten := flat_get u2
                have no : ∀ x ∈ fp, x ∉ b :: (g1 ++ ([] ++ g3)) := fun x hx h => hout x hx (sub x h)
                refine List.nodup_cons.2 ⟨fun h => ?_, List.nodup_append.2 ⟨y2.1, List.nodup_append.2 ⟨k3, by simpa using y2.2.1, fun x hx y hy hxy => ?_⟩, fun x hx y hy hxy => ?_⟩⟩
                · rcases List.mem_append.1 h with h | h
                  · exact y1.1 (List.mem_append_left _ h)
                  · rcases List.mem_append.1 h with h | h
                    · exact no b h (List.mem_cons_self ..)
                    · exact y1.1 (List.mem_append_right _ (by simpa using h))
                · subst hxy
                  exact no x hx (List.mem_cons_of_mem _ (List.mem_append_right _ (by simpa using hy)))
                · subst hxy
                  rcases List.mem_append.1 hy with h | h
                  · exact no x h (List.mem_cons_of_mem _ (List.mem_append_left _ hx))
                  · exact y2.2.2 x hx x (by simpa using h) rfl) (by
                intro x hx
                rcases List.mem_cons.1 hx with h | h
                · left; rw [h]; exact List.mem_cons_self ..
                · rcases List.mem_append.1 h with h | h
                  · left; exact List.mem_cons_of_mem _ (List.mem_append_left _ h)
                  · rcases List.mem_append.1 h with h | h
                    · right
                      obtain ⟨f, m1, m2⟩ := hsub x h
                      exact ⟨hout x h, hr.fS x (flat_get m1 x m2), hr.fsz x (flat_get m1 x m2)⟩
                    · left; exact List.mem_cons_of_mem _ (List.mem_append_right _ (by simpa using h))) rfl
              exact ⟨S, _, _, t5⟩
            · cases ho
          · cases ho
        · cases ho
      · cases ho
  · cases ho


theorem tri_closeT {code : Code} {Q : Exit → St → Prop} {A' : St} (r e c : Nat) (ho : closeT A r e c = some A') (h : Tri P code A' Q) : Tri P code A Q :=
  Tri.weak (fun _ _ _ hs => closeT_sat ho hs) h

end

section
variable {P : Program} {Φ : Fs}

theorem rr_callF {ops : Array Oper} {o : Oper} {os : List Oper} {A : St} {K : St → Prop} {c : Call} {k : FuncId} {caps : List C} {f : Operand} {ds ds' : List D} {ρ B : List Nat} {objs objs' : List Obj} {spec : Spec} {d : D}
    (hg : o.guard = none) (ho : o.op = .call c) (hop : o.op.operands.toList.all opdOK = true) (hc : c.callee = .value f) (hf : A.ev f = some (.c (.f k caps))) (hk : callable P k = true) (hds : evsA A c.args.toList = some ds)
    (harg : argFs A.H ρ (ds ++ caps.map .c) = some (ds', B)) (hρ : ρ.Nodup) (hobjs : objsAt A.H ρ = some objs) (hm : Meets P k spec) (hs : spec ds' objs (fun d' os' => d' = d ∧ os' = objs'))
    (hB : B = [] ∨ (d.ni = true ∧ ∀ o ∈ objs', Obj.ni o = true)) (h : RunR P ops os (St.put { A with H := (settle (setObjs A.H ρ objs') d).2 } o.dst (settle (setObjs A.H ρ objs') d).1) K) : RunR P ops (o :: os) A K := by
  refine rr_step (R := fun A' => A' = St.put { A with H := (settle (setObjs A.H ρ objs') d).2 } o.dst (settle (setObjs A.H ρ objs') d).1) hg (step_callF ho hop hc hf hk hds harg hρ hobjs hm hs ?_) (by rintro _ rfl; exact h)
  rintro _ _ ⟨rfl, rfl⟩ _
  exact ⟨hB, rfl⟩


/-- A function with what it captures. -/
theorem evs_vs {g : G} {S : Nat → Prop} {E : Env} {F : List (List Nat)} {A : St} {a : Act} {w : World} (hr : Rel g S E F A a w) : ∀ {xs : List Operand} {caps : List C}, (∀ x ∈ xs, opdOK x = true) → evsA A xs = some (caps.map .c) → Rep w S E (.vs caps (xs.map a.eval)) []
  | [], caps, _, h => by
    cases caps with
    | nil => exact .vnil
    | cons c cs => simp [evsA] at h
  | x :: xs, caps, hop, h => by
    simp only [evsA] at h
    split at h
    · rename_i d ds h1 h2
      cases caps with
      | nil => simp at h
      | cons c cs =>
        simp only [Z24, Z3, List.cons.injEq] at h
        obtain ⟨rfl, rfl⟩ := h
        have hx := ev_rep hr (hop x (List.mem_cons_self ..)) h1
        cases hx with
        | c hx => exact .vcons (f1 := []) (f2 := []) hx (evs_vs hr (fun y hy => hop y (List.mem_cons_of_mem _ hy)) h2)
    · cases h

theorem step_makeFunc {o : Oper} {A : St} {k : FuncId} {cap : Array Operand} {caps : List C} (ho : o.op = .makeFunc (.func k) #[] cap) (hop : cap.toList.all opdOK = true) (hd : evsA A cap.toList = some (caps.map .c)) : Step P o A (fun A' => A' = A.put o.dst (.c (.f k caps))) := by
  intro g a w ⟨S, E, F, hr⟩ next Q hn
  have h1 : (execOp a.eval o).run P w = .ok (.value (.func (.func k) #[] (cap.map a.eval))) w := by
    simp [execOp, ho, Instr.makeFunc, Sem.run_bind, Sem.run_pure, Sem.run]
  unfold Oper.wp
  rw [h1]
  refine hn _ _ _ rfl ⟨S, E, F, hr.put (.c (.f (.inl rfl) ?_))⟩
  have := evs_vs hr (fun x hx => List.all_eq_true.1 hop x hx) hd
  simpa using this

theorem rr_makeFunc {ops : Array Oper} {o : Oper} {os : List Oper} {A : St} {K : St → Prop} {k : FuncId} {cap : Array Operand} {caps : List C} (hg : o.guard = none) (ho : o.op = .makeFunc (.func k) #[] cap) (hop : cap.toList.all opdOK = true) (hd : evsA A cap.toList = some (caps.map .c))
    (h : RunR P ops os (A.put o.dst (.c (.f k caps))) K) : RunR P ops (o :: os) A K :=
  rr_step hg (step_makeFunc ho hop hd) (by rintro _ rfl; exact h)

/-- A nil slice in a slot, as an empty slice that is nobody's. -/
def nilS (A : St) (t es : Nat) : Option St :=
  match A.sl[t]? with
  | some (.c (.s true _ [])) => some ⟨A.sl.set t (.c (.s false es [])), A.H⟩
  | _ => none

theorem nilS_sat {g : G} {A A' : St} {a : Act} {w : World} {t es : Nat} (ho : nilS A t es = some A') (hs : Sat g A a w) : Sat g A' a w := by
  obtain ⟨S, E, F, hr⟩ := hs
  unfold nilS at ho
  split at ho
  · rename_i es0 ht
    cases ho
    have hv := hr.sl t _ ht
    generalize hval : a.tmps.getD t undef = v at hv
    have hn : ∃ ad, v = .slice ad 0 0 := by
      cases hv with
      | c h =>
        generalize hfp : ([] : List Nat) = fp at h
        cases h with
        | nilO => exact ⟨_, rfl⟩
        | own _ _ _ _ _ => cases hfp
    obtain ⟨ad, rfl⟩ := hn
    refine ⟨S, E, F, { hr with len := by rw [List.length_set]; exact hr.len, sl := ?_ }⟩
    intro i d hd
    rw [List.getElem?_set] at hd
    split at hd
    · rename_i hti
      subst hti
      rw [if_pos (lt_len ht)] at hd
      cases hd
      rw [hval]; exact .c .nilI
    · exact hr.sl i d hd
  · cases ho

theorem tri_nilS {code : Code} {Q : Exit → St → Prop} {A A' : St} (t es : Nat) (ho : nilS A t es = some A') (h : Tri P code A' Q) : Tri P code A Q :=
  Tri.weak (fun _ _ _ hs => nilS_sat ho hs) h

/-- One piece of code behind another, with what holds between. -/
theorem seq_cut {x z : Code} {A : St} {Q : Exit → St → Prop} (I : St → Prop) (h2 : ∀ A', I A' → Tri P z A' Q) (h1 : Tri P x A (thenQ I Q)) : Tri P (.seq x z) A Q :=
  tri_seq (h1.mono fun e A' h => by cases e <;> first | exact h2 A' h | exact h)

end
end Go.Dl
