/- What the walks share: no function known; numbers and texts as cells. -/
import Derived.Test.YtdhlelineoggkaaDlZj
import Derived.Test.YtdhlelineoggkaaDlTy
namespace Go.Dl
open Go.RowKit
open Go.Proofs
set_option linter.unusedSimpArgs false
set_option linter.unusedVariables false

theorem ok0 : FsOK Try.prog Fs.none := ⟨fun _ _ h => (by cases h), fun _ _ h => (by cases h)⟩

theorem wrap_succ (i n : Nat) (h : i < n) (hn : n ≤ maxStr) : IntKind.wrap .i64 ((i : Int) + 1) = ((i + 1 : Nat) : Int) := by
  rw [wrap_i64 _ (by omega) (by unfold maxStr at hn; omega)]; rfl

/-- Numbers. -/
def decNums : List C → Option (List Int)
  | [] => some []
  | .v (.int .i64 n) :: cs => (decNums cs).map (n :: ·)
  | _ => none

def nums (l : List Int) : List C := l.map fun n => .v (.int .i64 n)

theorem decNums_eq : ∀ {cs : List C} {l : List Int}, decNums cs = some l → cs = nums l
  | [], l, h => by cases h; rfl
  | c :: cs, l, h => by
    unfold decNums at h
    split at h
    · rename_i heq; cases heq
    · rename_i n cs' heq
      cases heq
      cases hr : decNums cs with
      | none => rw [hr] at h; cases h
      | some l' => rw [hr] at h; cases h; rw [decNums_eq hr]; rfl
    · cases h

theorem decNums_nums : ∀ l : List Int, decNums (nums l) = some l
  | [] => rfl
  | n :: l => by show (decNums (nums l)).map (n :: ·) = _; rw [decNums_nums l]; rfl

theorem nums_st (H : List (Option Root)) (l : List Int) : (nums l).all (C.st H) = true := by simp [nums, C.st]
theorem nums_cpy (l : List Int) : (nums l).map C.cpy = nums l := by simp only [nums, List.map_map]; rfl
theorem nums_cp (l : List Int) : (nums l).all C.cp = true := by simp [nums, C.cp]
theorem nums_len (l : List Int) : (nums l).length = l.length := by simp [nums]
theorem nums_take (l : List Int) : (nums l).take l.length = nums l := List.take_of_length_le (by simp [nums])
theorem nums_get (l : List Int) (i : Nat) (x : Int) (h : l[i]? = some x) : (nums l)[i]? = some (.v (.int .i64 x)) := by simp [nums, h]
theorem nums_drop (l : List Int) (i : Nat) (x : Int) (h : l[i]? = some x) : ∃ cs, (nums l).drop i = .v (.int .i64 x) :: cs := by
  have hi := lt_len h
  rw [List.getElem?_eq_getElem hi] at h
  cases h
  exact ⟨nums (l.drop (i + 1)), by simp only [nums]; rw [← List.map_drop, List.drop_eq_getElem_cons hi]; rfl⟩

theorem nums_arg (H : List (Option Root)) (ρ : List Nat) : ∀ l : List Int, argCs H ρ (nums l) = some (nums l, [])
  | [] => rfl
  | n :: l => by
    have := nums_arg H ρ l
    simp only [nums, List.map_cons] at this ⊢
    simp only [argCs, this]; rfl

/-- Texts. -/
def decStrs : List (List C) → Option (List ByteArray)
  | [] => some []
  | [.v (.string s)] :: rs => (decStrs rs).map (s :: ·)
  | _ => none

def strs (l : List ByteArray) : List (List C) := l.map fun s => [.v (.string s)]

theorem decStrs_eq : ∀ {rows : List (List C)} {l : List ByteArray}, decStrs rows = some l → rows = strs l
  | [], l, h => by cases h; rfl
  | row :: rs, l, h => by
    unfold decStrs at h
    split at h
    · rename_i heq; cases heq
    · rename_i n rs' heq
      cases heq
      cases hr : decStrs rs with
      | none => rw [hr] at h; cases h
      | some l' => rw [hr] at h; cases h; rw [decStrs_eq hr]; rfl
    · cases h

theorem decStrs_strs : ∀ l : List ByteArray, decStrs (strs l) = some l
  | [] => rfl
  | n :: l => by show (decStrs (strs l)).map (n :: ·) = _; rw [decStrs_strs l]; rfl

theorem strs_len (l : List ByteArray) : (strs l).length = l.length := by simp [strs]
theorem strs_get (l : List ByteArray) (i : Nat) (x : ByteArray) (h : l[i]? = some x) : (strs l)[i]? = some [.v (.string x)] := by simp [strs, h]
theorem strs_take (l : List ByteArray) (n : Nat) : (strs l).take n = strs (l.take n) := by simp [strs]

theorem strs_cps (l : List ByteArray) : ((strs l).all fun row => row.all C.cp) = true := by
  rw [List.all_eq_true]
  intro row h
  obtain ⟨x, _, rfl⟩ := List.mem_map.1 h
  rfl
theorem strs_all (l : List ByteArray) : (strs l).take l.length = strs l := by
  rw [strs_take, List.take_length]

/-- A text's bytes. -/
def B (s : ByteArray) : List UInt8 := s.data.toList

theorem B_append (a b : ByteArray) : B (a ++ b) = B a ++ B b := by
  show (a ++ b).data.toList = a.data.toList ++ b.data.toList
  rw [ByteArray.data_append, Array.toList_append]

theorem B_inj {a b : ByteArray} (h : B a = B b) : a = b := by
  cases a with
  | mk x => cases b with
    | mk y => exact congrArg ByteArray.mk (Array.toList_inj.1 h)

theorem B_length (s : ByteArray) : (B s).length = s.size := by
  show s.data.toList.length = s.data.size
  rw [Array.length_toList]

theorem B_extract (s : ByteArray) (i j : Nat) : B (s.extract i j) = ((B s).drop i).take (j - i) := by
  simp only [B, ByteArray.data_extract, Array.toList_extract, List.extract_eq_take_drop]

theorem strEq_B (a b : ByteArray) : strEq a b = (B a == B b) := by
  unfold strEq
  rw [ByteArray.toList_eq, ByteArray.toList_eq]; rfl

theorem last_get (H : List (Option Root)) (x : Option Root) : (H ++ [x])[H.length]? = some x := by simp

theorem last_set (T : List (Option Root)) (x y : Option Root) : (T ++ [x]).set T.length y = T ++ [y] := by
  rw [List.set_append_right _ _ (Nat.le_refl _), Nat.sub_self]; rfl

end Go.Dl
