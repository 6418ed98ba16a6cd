/- Plain law: a step cut to few is printed, and read again as it is; Plain law: blanks, breaks and remarks between steps change nothing; what is no step is told at its place; The walk of SayBreaks; What a given step reads as. -/
import Derived.Test.YtbefgbljlmnfoaaT19
import Derived.Test.YtbefgbljlmnfoaaT23
import Derived.Test.YtbefgbljlmnfoaaT25
set_option linter.all false
namespace Go.Dl
open Go.RowKit
open Go.Proofs
set_option linter.unusedVariables false
/-- What any step given is. -/
structure inOk (a : ActM) : Prop where
  few : fewOk a
  kind : inR .i64 a.kind = true
  cls : inR .i64 a.cls = true
  n : inR .i64 a.n = true
  m : inR .i64 a.m = true
  keep : inR .u64 a.keep = true
  tear : inR .i64 a.tear = true
  fld : ∀ f ∈ a.flds.getD [], inR .i64 f.2.2.2.1 = true ∧ inR .u64 f.2.2.2.2.1 = true
theorem cut3_size (s : ByteArray) : (cut3 s).size ≤ 300 := by
  unfold cut3
  split
  · rw [ByteArray.size_extract]; omega
  · omega
theorem cutA_size (s : ByteArray) : (cutA s).size ≤ 500 := by
  unfold cutA
  split
  · rw [ByteArray.size_extract]; omega
  · omega
/-- A step of few. -/
structure fewS (a : ActM) : Prop where
  pid : a.pid.size ≤ 300
  fl : (a.flds.getD []).length ≤ 30
  fld : ∀ f ∈ a.flds.getD [], f.1.size ≤ 300 ∧ f.2.2.2.2.2.size ≤ 300
  id : a.id.size ≤ 500
  name : a.name.size ≤ 500
  nm : (a.names.getD []).length ≤ 20
  nms : ∀ s ∈ a.names.getD [], s.size ≤ 500
  draw : a.draw.size ≤ 500
  say : sayOk a
theorem few_s {a : ActM} (h : inOk a) : fewS (fewA a) := by
  have hfl : ((fewA a).flds.getD []).length ≤ 30 := by
    show (fewL (a.flds.getD [])).length ≤ 30
    unfold fewL
    rw [List.length_map, List.length_take]; omega
  have hfd : ∀ f ∈ (fewA a).flds.getD [], (f.1.size ≤ 300 ∧ f.2.2.2.2.2.size ≤ 300) ∧ inR .i64 f.2.2.2.1 = true ∧ inR .u64 f.2.2.2.2.1 = true := by
    intro f hf
    obtain ⟨x, hx, rfl⟩ := List.mem_map.1 (show f ∈ ((a.flds.getD []).take 30).map fewFld from hf)
    exact ⟨⟨cut3_size _, cut3_size _⟩, h.fld x (List.mem_of_mem_take hx)⟩
  have hnm : ((fewA a).names.getD []).length ≤ 20 := by
    show (((a.names.getD []).take 20).map cutA).length ≤ 20
    rw [List.length_map, List.length_take]; omega
  have hns : ∀ s ∈ (fewA a).names.getD [], s.size ≤ 500 := by
    intro s hs
    obtain ⟨x, hx, rfl⟩ := List.mem_map.1 (show s ∈ ((a.names.getD []).take 20).map cutA from hs)
    exact cutA_size x
  have hp := cut3_size a.pid
  have hi := cutA_size a.id
  have hn := cutA_size a.name
  have hd := cutA_size a.draw
  refine ⟨hp, hfl, fun f hf => (hfd f hf).1, hi, hn, hnm, hns, hd, ⟨⟨⟨by show (cut3 a.pid).size ≤ 100000; omega, h.cls, by show ((fewA a).flds.getD []).length ≤ 200; omega, fun f hf => ?_⟩, by show (cutA a.id).size ≤ 100000; omega, by show (cutA a.name).size ≤ 100000; omega,
    ⟨by omega, fun s hs => by have := hns s hs; omega⟩, by show (cutA a.draw).size ≤ 100000; omega, h.n, h.m, h.keep, h.tear⟩, by omega, by omega⟩⟩
  have hf' := hfd f hf
  exact ⟨by omega, hf'.2.1, hf'.2.2, by omega⟩
theorem cat_le {α : Type} {sep : ByteArray} {B : α → ByteArray} {c : Nat} : ∀ (l : List α), (∀ x ∈ l, (B x).size ≤ c) → (catB (l.map (sep ++ B ·))).size ≤ l.length * (sep.size + c)
  | [], h => Nat.zero_le _
  | x :: r, h => by
    have h1 := h x (List.mem_cons_self ..)
    have h2 := cat_le (sep := sep) r (fun y hy => h y (List.mem_cons_of_mem _ hy))
    rw [List.map_cons, catB, ByteArray.size_append, ByteArray.size_append, List.length_cons, Nat.succ_mul]
    omega
theorem join_le {α : Type} {sep : ByteArray} {B : α → ByteArray} {c : Nat} (l : List α) (h : ∀ x ∈ l, (B x).size ≤ c) : (joinB sep (l.map B)).size ≤ l.length * (sep.size + c) := by
  cases l with
  | nil => exact Nat.zero_le _
  | cons x r =>
    have hE : joinB sep ((x :: r).map B) = B x ++ catB (r.map (sep ++ B ·)) := by rw [List.map_cons, joinB_eq, List.map_map]; rfl
    have h1 := h x (List.mem_cons_self ..)
    have h2 := cat_le (sep := sep) r (fun y hy => h y (List.mem_cons_of_mem _ hy))
    rw [hE, ByteArray.size_append, List.length_cons, Nat.succ_mul]
    omega
theorem value_le3 {v : Val} (hp : v.2.2.2.2.size ≤ 300) : (valueB v).size ≤ 1300 := by
  have hw := wholeB_size v.2.2.1
  have hq := quoted_le v.2.2.2.2
  have hh := quoted_le (hexB v.2.2.2.1.toNat)
  have hx16 : (hexB v.2.2.2.1.toNat).size = 16 := by show ((hexN 16 _).toArray).size = 16; rw [List.size_toArray, hexN_len]
  unfold valueB
  split
  · decide
  split
  · split <;> decide
  split
  · omega
  split
  · rw [ByteArray.size_append, ByteArray.size_append]; show 6 + _ + 1 ≤ 1300; omega
  split
  · omega
  · decide
theorem arg_le {a : ActM} (h : fewS a) (k : Int) : (argB a k).size ≤ 80000 := by
  have q1 := quoted_le a.id
  have q2 := quoted_le a.name
  have q3 := quoted_le a.draw
  have q4 := quoted_le a.pid
  have w1 := wholeB_size a.n
  have w2 := wholeB_size a.m
  have w3 := wholeB_size a.tear
  have w4 := wholeB_size a.cls
  have w5 := decB_size a.keep.toNat
  have i1 := h.id
  have i2 := h.name
  have i3 := h.draw
  have i4 := h.pid
  have n1 : (namesB (a.names.getD [])).size ≤ 80000 := by
    have := join_le (sep := comSp) (B := quotedF) (c := 2002) (a.names.getD []) (fun x hx => by have := quoted_le x; have := h.nms x hx; omega)
    have h2 : (a.names.getD []).length * (comSp.size + 2002) ≤ 20 * 2004 := Nat.mul_le_mul h.nm (Nat.le_refl 2004)
    replace this := Nat.le_trans this h2
    clear h2
    unfold namesB
    rw [ByteArray.size_append, ByteArray.size_append, show (⟨#[91]⟩ : ByteArray).size = 1 from rfl, show (⟨#[93]⟩ : ByteArray).size = 1 from rfl]
    omega
  have n2 : (paperB (a.pid, a.cls, a.flds.getD [])).size ≤ 80000 := by
    have := join_le (sep := comSp) (B := fldB) (c := 2503) (a.flds.getD []) (fun x hx => by
      have h1 := quoted_le x.1
      have h2 := h.fld x hx
      have h3 := value_le3 h2.2
      show (quotedF x.1 ++ (⟨#[61]⟩ : ByteArray) ++ valueB x.2).size ≤ 2503
      rw [ByteArray.size_append, ByteArray.size_append, show (⟨#[61]⟩ : ByteArray).size = 1 from rfl]
      omega)
    have h2 : (a.flds.getD []).length * (comSp.size + 2503) ≤ 30 * 2505 := Nat.mul_le_mul h.fl (Nat.le_refl 2505)
    replace this := Nat.le_trans this h2
    clear h2
    have e1 : (papHead (a.pid, a.cls, a.flds.getD [])).size = (quotedF a.pid).size + 1 + (wholeB a.cls).size + 2 := by
      unfold papHead
      rw [ByteArray.size_append, ByteArray.size_append, ByteArray.size_append]; rfl
    rw [paperB_eq, ByteArray.size_append, ByteArray.size_append, e1, show rpar.size = 1 from rfl]
    dsimp only
    omega
  unfold argB
  repeat' split
  all_goals omega
theorem argsK_le (k : Int) : (argsK k).length ≤ 3 := by
  unfold argsK
  (repeat' split) <;> simp
theorem form_le : ∀ k : Fin 16, (formB k.val).size ≤ 10 := by decide +kernel
theorem print_le {a : ActM} (h : fewS a) : (printB a).size ≤ 1000000 := by
  by_cases hk : 1 ≤ a.kind ∧ a.kind ≤ 15
  · have hB : printB a = formB a.kind.toNat ++ catB ((argsK a.kind).map (sp1 ++ argB a ·)) ++ semi := by
      unfold printB wordsOf
      rw [if_pos hk.1, if_pos hk.2, joinB_eq, List.map_map]; rfl
    have h1 := cat_le (sep := sp1) (B := argB a) (argsK a.kind) (fun x _ => arg_le h x)
    have h2 : (argsK a.kind).length * (sp1.size + 80000) ≤ 3 * 80001 := Nat.mul_le_mul (argsK_le _) (Nat.le_refl 80001)
    replace h1 := Nat.le_trans h1 h2
    clear h2
    have h3 := form_le ⟨a.kind.toNat, by omega⟩
    dsimp only at h3
    rw [hB, ByteArray.size_append, ByteArray.size_append, show semi.size = 1 from rfl]
    omega
  · rw [print_none hk]; decide
theorem same_self (a : ActM) : sameA a a = true := by unfold sameA; simp
theorem rc_len {a : ActM} (h1 : 1 ≤ a.kind) (h2 : a.kind ≤ 15) : (((readA a).flds.getD []).length ≤ (a.flds.getD []).length ∧ ((readA a).names.getD []).length ≤ (a.names.getD []).length) ∧ ((cleanA a).flds.getD []).length ≤ (a.flds.getD []).length ∧ ((cleanA a).names.getD []).length ≤ (a.names.getD []).length := by
  obtain ⟨k, p, c, fl, i, w, nn, d, n, m, q, t⟩ := a
  dsimp only at h1 h2
  have hk : k = 1 ∨ k = 2 ∨ k = 3 ∨ k = 4 ∨ k = 5 ∨ k = 6 ∨ k = 7 ∨ k = 8 ∨ k = 9 ∨ k = 10 ∨ k = 11 ∨ k = 12 ∨ k = 13 ∨ k = 14 ∨ k = 15 := by omega
  rcases hk with rfl | rfl | rfl | rfl | rfl | rfl | rfl | rfl | rfl | rfl | rfl | rfl | rfl | rfl | rfl <;> simp [readA, cleanA, argsK, setA, act0]
end Go.Dl

namespace Go.Dl
open Go.RowKit
open Go.Proofs
set_option linter.unusedVariables false
def remB : ByteArray := ⟨#[32, 9, 35, 32, 97, 32, 114, 101, 109, 97, 114, 107, 59, 32, 116, 105, 99, 107, 10]⟩
def nl1 : ByteArray := ⟨#[10]⟩
def noB : ByteArray := ⟨#[110, 111, 116, 104, 105, 110, 103, 59]⟩
/-- A step behind a remark, on a line. -/
def lineB (a : ActM) : ByteArray := remB ++ printB a ++ nl1
theorem keep_good {a : ActM} (h : fewS a) (h1 : strEq (printB a) ⟨#[]⟩ = false) (h2 : (scriptF (printB a)).2.2 = 0) : goodA a := by
  by_cases hk : 1 ≤ a.kind ∧ a.kind ≤ 15
  · by_cases hz : (printB a).size ≤ 65536
    · refine ⟨h.say, hk.1, hk.2, fun h1 => Classical.byContradiction fun hn => ?_⟩
      rw [print_bad h.say h1 hn hz] at h2
      cases h2
    · rw [script_long (by omega)] at h2
      cases h2
  · rw [print_none hk] at h1
    rw [strEq_same] at h1
    cases h1
theorem catB_snoc (l : List ByteArray) (x : ByteArray) : catB (l ++ [x]) = catB l ++ x := by
  induction l with
  | nil =>
    show x ++ ⟨#[]⟩ = (⟨#[]⟩ : ByteArray) ++ x
    apply dl_ext; rw [dl_app, dl_app]; simp
  | cons y l ih => rw [List.cons_append, catB, ih, catB, ByteArray.append_assoc]
theorem line_snoc (K : List ActM) (a : ActM) : catB (K.map lineB) ++ remB ++ printB a ++ nl1 = catB (K.map lineB ++ [a].map lineB) := by
  rw [show [a].map lineB = [lineB a] from rfl, catB_snoc]
  unfold lineB
  simp only [ByteArray.append_assoc]
theorem good_snoc {K : List ActM} {a : ActM} (h : ∀ x ∈ K, goodA x) (ha : goodA a) : ∀ x ∈ K ++ [a], goodA x := by
  intro x hx
  rcases List.mem_append.1 hx with hx | hx
  · exact h x hx
  · rw [List.mem_singleton.1 hx]; exact ha
theorem cat_mono : ∀ K : List ActM, (catB (K.map printB)).size ≤ (catB (K.map lineB)).size
  | [] => Nat.le_refl _
  | a :: K => by
    have := cat_mono K
    have hz : (lineB a).size = remB.size + (printB a).size + nl1.size := by unfold lineB; rw [ByteArray.size_append, ByteArray.size_append]
    rw [List.map_cons, List.map_cons, catB, catB, ByteArray.size_append, ByteArray.size_append, hz]
    omega
theorem lexK_rem {T : ByteArray} {o : Nat} (hi : inT T o remB) : lexK T o [] (o + remB.size) := by
  have hz : remB.size = 19 := rfl
  have hs := hi.1
  rw [hz] at hs ⊢
  have b0 := inT_byt hi (j := 0) (by decide)
  have b1 := inT_byt hi (j := 1) (by decide)
  have b2 := inT_byt hi (j := 2) (by decide)
  have b18 := inT_byt hi (j := 18) (by decide)
  have l1 := lexes_blank (T := T) (o := o) (by omega) (by rw [show o = o + 0 from rfl, b0]; decide)
  have l2 := lexes_blank (T := T) (o := o + 1) (by omega) (by rw [b1]; decide)
  have hr : runF notNL T (o + 2) = o + 2 + 16 := runAt 16 (o + 2) (by omega) (fun j hj => by
    rw [Nat.add_assoc, inT_byt hi (by rw [hz]; omega)]
    have : ∀ j : Fin 16, notNL (byt remB (2 + j.val)) = true := by decide +kernel
    exact this ⟨j, hj⟩) (fun _ => by rw [show o + 2 + 16 = o + 18 by omega, b18]; decide)
  have l3 := lexes_rem (T := T) (o := o + 2) (by omega) (by rw [b2]; decide)
  rw [hr] at l3
  have l4 := lexes_blank (T := T) (o := o + 2 + 16) (by omega) (by rw [show o + 2 + 16 = o + 18 by omega, b18]; decide)
  refine ⟨[], rfl, ?_⟩
  have := lexes_app l1 (lexes_app l2 (lexes_app l3 l4))
  rw [show o + 2 + 16 + 1 = o + 19 by omega] at this
  exact this
theorem lexK_lineB {T : ByteArray} {a : ActM} (ha : goodA a) (o : Nat) (hi : inT T o (lineB a)) : lexK T o (stepK a) (o + (lineB a).size) := by
  unfold lineB at hi ⊢
  have i1 := inT_l (inT_l hi)
  have i2 := inT_r (inT_l hi)
  have i3 := inT_r hi
  have h1 := lexK_rem i1
  have h2 := lexK_print ha i2
  have hs := i3.1
  have z : nl1.size = 1 := rfl
  rw [ByteArray.size_append] at i3 hs
  have h3 := lexK_blank (T := T) (o := o + remB.size + (printB a).size) (by omega) (by rw [Nat.add_assoc, inT_0 i3 (by decide)]; decide)
  have := lexK_app h1 (lexK_app h2 h3)
  rw [List.append_nil, List.nil_append] at this
  rw [ByteArray.size_append, ByteArray.size_append, z, ← Nat.add_assoc, ← Nat.add_assoc]
  exact this
theorem scriptN_bad0 (l : List Tok) (e : Int) (n i : Nat) (bad : Int) (acc : List ActM) (h : 0 ≤ bad) : scriptN l e n i bad acc = (acc, i, bad) := by
  cases n with
  | zero => rfl
  | succ n => rw [scriptN, if_neg (by omega)]
def nothW : ByteArray := ⟨#[110, 111, 116, 104, 105, 110, 103]⟩
theorem form_nothing : formIx nothW 16 0 = none := by kernel_rfl
theorem noth_word : ∀ j : Fin 7, isWordC (byt nothW j.val) = true := by decide +kernel
theorem noth_let : isLetter (byt nothW 0) = true := by decide +kernel
theorem noth_size : nothW.size = 7 := rfl
theorem noB_eq : noB = nothW ++ semi := by apply ByteArray.ext; rfl
theorem script_no {T N : ByteArray} (hN : N = nothW ++ semi) {ss : List ActM} (hz : T.size ≤ 60000) (hg : ∀ a ∈ ss, goodA a) (h : lexK (T ++ N) 0 (ss.flatMap stepK) T.size) : scriptF (T ++ N) = (none, (T.size : Int), 4) := by
  obtain ⟨l, hl, hx⟩ := h
  have zs : semi.size = 1 := rfl
  have hzN : (T ++ N).size = T.size + 8 := by rw [ByteArray.size_append, hN, ByteArray.size_append, noth_size, zs]
  have hi : inT (T ++ N) T.size (nothW ++ semi) := by
    rw [← hN]
    have := inT_r (X := T) (inT_whole (T ++ N))
    rwa [Nat.zero_add] at this
  generalize hTN : T ++ N = W at hx hzN hi
  have i1 := inT_l hi
  have i2 := inT_r hi
  rw [noth_size] at i2
  have hr : runF isWordC W T.size = T.size + 7 := runAt 7 T.size (by omega) (fun j hj => by
    rw [inT_byt i1 (by rw [noth_size]; exact hj)]
    exact noth_word ⟨j, hj⟩) (fun _ => by rw [inT_0 i2 (by decide)]; decide)
  have h1 := next_word (T := W) (o := T.size) (by omega) (by rw [inT_0 i1 (by decide)]; exact noth_let)
  rw [hr] at h1
  have hw := inT_ext i1
  rw [noth_size] at hw
  rw [hw] at h1
  obtain ⟨l2, hl2, hx2⟩ := lexK_mark i2 rfl (by decide +kernel)
  have hL := lexes_app hx (lexes_app (lexes_one h1) hx2)
  rw [show T.size + 7 + 1 = W.size by omega] at hL
  have ht := toks_whole (by omega) hL
  generalize hLL : l ++ ([((0 : Int), nothW, (T.size : Int))] ++ l2) = LL at ht
  have hlen : l.length = (ss.flatMap stepK).length := by rw [← hl, List.length_map]
  have hLlen : LL.length = l.length + 1 + l2.length := by rw [← hLL]; simp; omega
  have hh : hasK LL 0 (ss.flatMap stepK ++ (((0 : Int), nothW) :: [((3 : Int), semi)])) := by
    refine hasK_0 ?_
    rw [← hLL, List.map_append, List.map_append, hl, hl2]; rfl
  have hle := steps_len ss
  have hat : LL[l.length]? = some ((0 : Int), nothW, (T.size : Int)) := by rw [← hLL]; simp
  generalize (W.size : Int) = e at hh
  have hP : ∀ e : Int, (scriptP LL e).2.2 = (T.size : Int) := by
    intro e
    unfold scriptP
    have := scriptNK (e := e) ss (LL.length + 2 - ss.length) 0 [] hg (Nat.zero_le _) hh
    rw [show LL.length + 2 - ss.length + ss.length = LL.length + 2 by omega, Nat.zero_add, ← hlen, List.nil_append] at this
    rw [this]
    obtain ⟨f, hf⟩ : ∃ f, LL.length + 2 - ss.length = f + 1 := ⟨LL.length + 1 - ss.length, by omega⟩
    have hW : stepW LL l.length e (-1) = (nothW, l.length + 1, -1) := take_hit (by decide) hat rfl
    have hS := stepF_none (l := LL) (i := l.length) (e := e) (bad := -1) (by rw [hW]; exact form_nothing)
    rw [hW] at hS
    have hfl : failF LL l.length e (-1) = (T.size : Int) := by
      unfold failF hereF
      rw [if_pos (by decide), hat]
    dsimp only at hS
    rw [hfl] at hS
    rw [hf, scriptN, if_pos (by decide), if_pos (by omega), hS]
    dsimp only
    rw [scriptN_bad0 _ _ _ _ _ _ (by omega)]
  obtain ⟨r, hr2⟩ : ∃ r, scriptP (toksT W).1 W.size = r := ⟨_, rfl⟩
  have hb : r.2.2 = (T.size : Int) := by rw [← hr2, ht]; exact hP _
  rw [script_bad (by rw [ht]) hr2 (by omega), hb]
theorem breaks_read {K : List ActM} {S T : ByteArray} (hK : ∀ a ∈ K, goodA a) (hS : S = catB (K.map printB)) (hT : T = catB (K.map lineB)) (hz : T.size ≤ 60000) :
    S.size ≤ 60000 ∧ scriptF S = (some (K.map readA), 0, 0) ∧ scriptF T = (some (K.map readA), 0, 0) ∧ scriptF (T ++ noB) = (none, (T.size : Int), 4) := by
  have hm := cat_mono K
  rw [← hS, ← hT] at hm
  have h1 := lexK_parts (T := S) printB stepK K 0 (fun x hx o hi => lexK_print (hK x hx) hi) (by rw [← hS]; exact inT_whole _)
  rw [← hS, Nat.zero_add] at h1
  have h2 := lexK_parts (T := T) lineB stepK K 0 (fun x hx o hi => lexK_lineB (hK x hx) o hi) (by rw [← hT]; exact inT_whole _)
  rw [← hT, Nat.zero_add] at h2
  have h3 := lexK_parts (T := T ++ noB) lineB stepK K 0 (fun x hx o hi => lexK_lineB (hK x hx) o hi) (by rw [← hT]; exact inT_pre T noB)
  rw [← hT, Nat.zero_add] at h3
  exact ⟨by omega, scriptK (by omega) hK h1, scriptK (by omega) hK h2, script_no noB_eq hz hK h3⟩
theorem read_ok {K : List ActM} (hK : ∀ a ∈ K, goodA a) : ∀ a ∈ K.map readA, sameOk (a, a) := by
  intro x hx
  obtain ⟨a, ha, rfl⟩ := List.mem_map.1 hx
  have hg := hK a ha
  obtain ⟨⟨g1, g2⟩, _⟩ := rc_len hg.k1 hg.k2
  have h1 := hg.say.fl
  have h2 := hg.say.nm
  unfold sameOk maxStr
  exact ⟨⟨by dsimp only; omega, by dsimp only; omega⟩, by dsimp only; omega, by dsimp only; omega⟩
end Go.Dl

namespace Go.Dl
open Go.RowKit
open Go.Proofs
set_option linter.unusedSimpArgs false
set_option linter.unusedVariables false
theorem grow_le {a x j : Nat} (h : a ≤ j * 2000000) (hx : x ≤ 1000000) : a + x ≤ (j + 1) * 2000000 := by omega
theorem grow_le3 {a x j : Nat} (h : a ≤ j * 2000000) (hx : x ≤ 1000000) : a + 19 + x + 1 ≤ (j + 1) * 2000000 := by omega
theorem stay_le {a j : Nat} (h : a ≤ j * 2000000) : a ≤ (j + 1) * 2000000 := Nat.le_trans h (Nat.mul_le_mul_right _ (Nat.le_succ j))
theorem top_le {a j : Nat} (h : a ≤ j * 2000000) (hj : j ≤ 8) : a ≤ 16000000 := Nat.le_trans h (Nat.mul_le_mul_right 2000000 hj)
noncomputable def FsJq : Fs := { pure := fun k => if k = 20 then some pFewA else if k = 21 then some pPrint else if k = 22 then some pScriptZ else if k = 23 then some pSame else if k = 13 then some pAwake else none, objs := fun k => none }
theorem okJq : FsOK Try.prog FsJq := by
  refine ⟨fun k f h => ?_, fun k f h => ?_⟩
  · simp only [FsJq] at h
    split at h
    · rename_i hk; subst hk; cases h; exact ⟨by kernel_rfl, meets20Z⟩
    split at h
    · rename_i hk; subst hk; cases h; exact ⟨by kernel_rfl, meets21⟩
    split at h
    · rename_i hk; subst hk; cases h; exact ⟨by kernel_rfl, meets22Z⟩
    split at h
    · rename_i hk; subst hk; cases h; exact ⟨by kernel_rfl, meets23⟩
    split at h
    · rename_i hk; subst hk; cases h; exact ⟨by kernel_rfl, meets13⟩
    · cases h
  · cases h
def breaksOk (x : Nat × List ActM) : Prop := x.2.length ≤ maxStr ∧ (∀ a ∈ x.2, inOk a) ∧ (0 < x.2.length → x.1 = 12)
noncomputable def pSayBreaks : List D → Option D := famP breaksOk (fun x => [.c (.s false x.1 (x.2.map (actC false)))]) (fun _ => dB true)
theorem breaks_law (es : Nat) (l : List ActM) (h : breaksOk (es, l)) : pSayBreaks [.c (.s false es (l.map (actC false)))] = some (.c (.v (.bool true))) := Ym (fun _ _ _ => rfl) (es, l) h rfl
set_option maxRecDepth 100000 in
set_option maxHeartbeats 8000000 in
theorem meets7 : Meets Try.prog 7 (pureS pSayBreaks) := by
  refine Yn (show Try.prog.funcs[7]? = some Try.f7 by kernel_rfl) rfl (n := 128) rfl (rs := [ResultVar.tmp 2]) rfl ?_
  rintro ⟨es, l⟩ ⟨hlm, hin, hes⟩ Q hQ
  dsimp only at hlm hin hes
  have hlx : l.length ≤ 9223372036854775807 := hlm
  have hc0 : ((0 : Nat) : Int) = 0 := rfl
  refine Y3 okJq rfl (by repeat first | with_reducible exact Y2 | refine Y1 (by simp only [Y5, Y4, Y6, qev, St.ev, St.put, Y8, Y7, List.replicate, Nat.reduceSub, ZA]; rfl) ?_) ?_
  refine Y3 okJq rfl (by repeat first | with_reducible exact Y2 | refine Y1 (by simp only [Y5, Y4, Y6, qev, St.ev, St.put, Y8, Y7, ZA]; rfl) ?_) ?_
  refine Y3 okJq rfl (by repeat first | with_reducible exact Y2 | refine Y1 (by simp only [Y5, Y4, Y6, qev, St.ev, St.put, Y8, Y7, ZA]; rfl) ?_) ?_
  refine seq_cut (fun A' => ∃ (K : List ActM) (S T : ByteArray) (n : Nat) (R : List (Option Root)), (∀ a ∈ K, goodA a) ∧ n = K.length ∧ n ≤ 8 ∧ S = catB (K.map printB) ∧ T = catB (K.map lineB) ∧ S.size ≤ 16000000 ∧ T.size ≤ 16000000 ∧ St.Le A' ⟨[.top, .top, .c (.v (.bool false)), .c (.v (.string S)), .c (.v (.string T)), .c (.v (.int .i64 (n : Nat))), .top, .top, .top, .top, .top, .top, .top, .top, .top, .top, .top, .top, .top, .top, .top, .top, .top, .top, .top, .top, .top, .top, .top, .top, .top, .top, .top, .top, .top, .top, .top, .top, .top, .top, .top, .top, .top, .top, .top, .top, .top, .top, .top, .top, .top, .top, .top, .top, .top, .top, .top, .top, .top, .top, .top, .top, .top, .top, .top, .top, .top, .top, .top, .top, .top, .top, .top, .top, .top, .top, .top, .top, .top, .top, .top, .top, .top, .top, .top, .top, .top, .top, .top, .top, .top, .top, .top, .top, .top, .top, .top, .top, .top, .top, .top, .top, .top, .top, .top, .top, .top, .top, .top, .top, .top, .top, .top, .top, .top, .top, .top, .top, .top, .top, .top, .top, .top, .top, .top, .top, .top, .top], R⟩) ?_ ?_
  ·
    rintro A' ⟨K, S, T, n, R, hK, hKl, hn8, hS, hT, hSz, hTz, hle⟩
    refine tri_le hle ?_
    have hA1 : T.size + 8 ≤ maxStr := (by unfold maxStr; omega)
    have hTm : T.size ≤ maxStr := (by unfold maxStr; omega)
    have hzo : (⟨#[110, 111, 116, 104, 105, 110, 103, 59]⟩ : ByteArray).size = 8 := rfl
    have hx := breaks_read hK hS hT
    obtain ⟨ss, hss⟩ : ∃ ss, K.map readA = ss := ⟨_, rfl⟩
    rw [hss] at hx
    have hsl : ss.length = n := (by rw [← hss, List.length_map, hKl])
    have hsn : ((ss.length : Nat) : Int) = ((n : Nat) : Int) := (by omega)
    have h1 : ¬ ((60000 : Int) < ((T.size : Nat) : Int)) → pScriptZ [.c (.v (.string S))] = some (.t [.c (.s false 12 (ss.map (actC false))), .c (.v (.int .i64 0)), .c (.v (.int .i64 0))]) := (fun h => by obtain ⟨x1, x2, x3, x4⟩ := hx (by omega); have := scriptZ_at S (by omega); rw [x2] at this; exact this)
    have h2 : ¬ ((60000 : Int) < ((T.size : Nat) : Int)) → pScriptZ [.c (.v (.string T))] = some (.t [.c (.s false 12 (ss.map (actC false))), .c (.v (.int .i64 0)), .c (.v (.int .i64 0))]) := (fun h => by obtain ⟨x1, x2, x3, x4⟩ := hx (by omega); have := scriptZ_at T (by omega); rw [x3] at this; exact this)
    have h3 : ¬ ((60000 : Int) < ((T.size : Nat) : Int)) → pScriptZ [.c (.v (.string (T ++ ⟨#[110, 111, 116, 104, 105, 110, 103, 59]⟩)))] = some (.t [.c (.s false 0 []), .c (.v (.int .i64 ((T.size : Nat) : Int))), .c (.v (.int .i64 4))]) := (fun h => by obtain ⟨x1, x2, x3, x4⟩ := hx (by omega); have := scriptZ_at (T ++ noB) (by rw [ByteArray.size_append, show noB.size = 8 from rfl]; omega); rw [x4] at this; exact this)
    have hsz : ∀ a ∈ ss, sameOk (a, a) := (by rw [← hss]; exact read_ok hK)
    clear hx hK hS hT hss hKl hle
    refine seq_in ?_
    refine Y3 okJq rfl (by repeat first | with_reducible exact Y2 | refine Y1 (by simp only [Y5, Y4, Y6, qev, St.ev, St.put, qint, Yc, Ya, qbin, qlen, qbuiltin, Y8, Y7, if_true, if_false, eq_self, tk9, ZA]; rfl) ?_) ?_
    refine Yf rfl (fun a0 => ?_) (fun a0 => ?_)
    ·
      simp only [decide_eq_true_eq] at a0
      refine Y3 okJq rfl (by repeat first | with_reducible exact Y2 | refine Y1 (by simp only [Y5, Y4, Y6, evsA, qev, St.ev, St.put, St.with, Nat.reduceEqDiff, if_true, if_false, decide_true, Bool.true_or, callP, Yg, settle, settle1, settleC, dB, FsJq, pAwake, eq_self, a0, ZA]; rfl) ?_) ?_
      refine Yo (Yp (by simp only [outRes, Yi, resD, outD, outC, C.dat, if_true, eq_self, ZA]; rfl) rfl (by simp) (by simp) ?_)
      exact hQ
    ·
      simp only [decide_eq_false_iff_not] at a0
      refine Ye ?_
      refine Y3 okJq rfl (by repeat first | with_reducible exact Y2 | refine Y1 (by simp only [Y5, Y4, Y6, evsA, qev, St.ev, St.put, St.with, C.cpy, qext, C.cp, C.dat, Nat.reduceEqDiff, if_true, if_false, decide_false, Bool.true_or, callP, Yg, argD, argC, settle, settle1, settleC, settleDs, FsJq, eq_self, h1, a0, ZA]; rfl) ?_) ?_
      refine Y3 okJq rfl (by repeat first | with_reducible exact Y2 | refine Y1 (by simp only [Y5, Y4, Y6, evsA, qev, St.ev, St.put, St.with, C.cpy, qext, C.cp, C.dat, Nat.reduceEqDiff, if_true, if_false, Bool.true_or, callP, Yg, argD, argC, settle, settle1, settleC, settleDs, FsJq, eq_self, h2, a0, ZA]; rfl) ?_) ?_
      refine seq_in ?_
      refine Y3 okJq rfl (by repeat first | with_reducible exact Y2 | refine Y1 (by simp only [Y5, Y4, Y6, qev, St.ev, St.put, qpick, qint, Yc, Ya, qbin, qlen, qbuiltin, Y8, Y7, if_true, if_false, decide_true, Bool.not_true, cond_false, eq_self, tk45, List.length_map, hsn, show (ss.length ≤ maxStr) = True from eq_true (by omega), ZA]; rfl) ?_) ?_
      refine Yf (b := false) rfl (fun h => by cases h) (fun _ => ?_)
      refine Ye ?_
      refine seq_in ?_
      refine Y3 okJq rfl (by repeat first | with_reducible exact Y2 | refine Y1 (by simp only [Y5, Y4, Y6, qev, St.ev, St.put, Y8, Y7, ZA]; rfl) ?_) ?_
      refine tri_block ?_
      refine tri_loop_le (fun m A => ∃ (j : Nat), m + j = ss.length ∧ A = ⟨[.top, .top, .c (.v (.bool false)), .top, .c (.v (.string T)), .c (.v (.int .i64 (n : Nat))), .top, .top, .top, .top, .top, .top, .c (.s false 12 (ss.map (actC false))), .top, .top, .c (.s false 12 (ss.map (actC false))), .top, .top, .c (.v (.int .i64 (j : Nat))), .top, .top, .top, .top, .top, .top, .top, .top, .top, .top, .top, .top, .top, .top, .top, .top, .top, .top, .top, .top, .top, .top, .top, .top, .top, .top, .top, .top, .top, .top, .top, .top, .top, .top, .top, .top, .top, .top, .top, .top, .top, .top, .top, .top, .top, .top, .top, .top, .top, .top, .top, .top, .top, .top, .top, .top, .top, .top, .top, .top, .top, .top, .top, .top, .top, .top, .top, .top, .top, .top, .top, .top, .top, .top, .top, .top, .top, .top, .top, .top, .top, .top, .top, .top, .top, .top, .top, .top, .top, .top, .top, .top, .top, .top, .top, .top, .top, .top, .top, .top, .top, .top, .top, .top, .top, .top, .top, .top, .top], R⟩) ss.length (B := ⟨[.top, .top, .c (.v (.bool false)), .top, .c (.v (.string T)), .c (.v (.int .i64 (n : Nat))), .top, .top, .top, .top, .top, .top, .c (.s false 12 (ss.map (actC false))), .top, .top, .c (.s false 12 (ss.map (actC false))), .top, .top, .c (.v (.int .i64 (0 : Nat))), .top, .top, .top, .top, .top, .top, .top, .top, .top, .top, .top, .top, .top, .top, .top, .top, .top, .top, .top, .top, .top, .top, .top, .top, .top, .top, .top, .top, .top, .top, .top, .top, .top, .top, .top, .top, .top, .top, .top, .top, .top, .top, .top, .top, .top, .top, .top, .top, .top, .top, .top, .top, .top, .top, .top, .top, .top, .top, .top, .top, .top, .top, .top, .top, .top, .top, .top, .top, .top, .top, .top, .top, .top, .top, .top, .top, .top, .top, .top, .top, .top, .top, .top, .top, .top, .top, .top, .top, .top, .top, .top, .top, .top, .top, .top, .top, .top, .top, .top, .top, .top, .top, .top, .top, .top, .top, .top, .top, .top], R⟩) ⟨by repeat (first | exact .nil | refine .same ?_ | refine .top ?_), rfl⟩ ⟨0, rfl, rfl⟩ ?_
      rintro m A ⟨j, hm, rfl⟩
      have hj1 : (j : Int) + 1 = ((j + 1 : Nat) : Int) := by omega
      obtain ⟨a, ha⟩ : ∃ a, ss.getD j (act0 0) = a := ⟨_, rfl⟩
      have hg : ((j : Nat) : Int) < ((n : Nat) : Int) → ss[j]? = some a := (by intro h; rw [← ha]; exact get_at _ (by omega))
      have hjl : ((j : Nat) : Int) < ((n : Nat) : Int) → ((j : Nat) : Int) < ((ss.length : Nat) : Int) := (by intro h; omega)
      have hSm : ((j : Nat) : Int) < ((n : Nat) : Int) → pSame [.agg (actC false a), .agg (actC false a)] = some (dB true) := fun h => (by have := same_at a a (hsz a (List.mem_of_getElem? (hg h))); rw [same_self] at this; exact this)
      refine seq_in ?_
      refine Y3 okJq rfl (by repeat first | with_reducible exact Y2 | refine Y1 (by simp only [Y5, Y4, Y6, qev, St.ev, St.put, qint, Yc, Ya, qbin, if_true, if_false, eq_self, ZA]; rfl) ?_) ?_
      refine Yf rfl (fun a1 => ?_) (fun a1 => ?_)
      ·
        simp only [decide_eq_true_eq] at a1
        refine Ye ?_
        refine seq_in (tri_block ?_)
        refine Yj mixed okJq rfl (by kernel_rfl) ?_
        refine ⟨_, (by repeat first | with_reducible exact Y2 | refine Y1 (by simp only [Y5, Y4, Y6, evsA, qev, St.ev, St.put, St.with, D.int, qload, Y9, qmk, C.cpy, TK.agg, qindexAddr, qun, C.cp, Nat.reduceEqDiff, if_true, if_false, decide_true, Bool.not_true, ne_eq, reduceCtorEq, Bool.true_or, callP, Yg, argD, settle, settle1, settleC, dB, FsJq, eq_self, tk50, tsz50, tk45, act_take, act_cpy2, act_arg, act_cp, act_len, Int.toNat_natCast, Int.natCast_nonneg, List.length_map, hg, hSm, List.getElem?_map, hsn, a1, ZA]; rfl) ?_), ?_⟩
        refine Yf (b := false) rfl (fun h => by cases h) (fun _ => ?_)
        refine tri_skip ?_
        show Tri _ _ _ _
        refine Yk okJq rfl (by repeat first | with_reducible exact Y2 | refine Y1 (by simp only [Y5, Y4, Y6, qev, St.ev, St.put, qint, Yc, Ya, qbin, Y8, Y7, if_true, if_false, eq_self, hj1, show IntKind.i64.wrap (↑(j + 1) : Int) = _ from wrap_i64 _ (by omega) (by omega), ZA]; rfl) ?_) ?_
        simp only []
        (first | (exact ⟨m - 1, by omega, ⟨[.top, .top, .c (.v (.bool false)), .top, .c (.v (.string T)), .c (.v (.int .i64 (n : Nat))), .top, .top, .top, .top, .top, .top, .c (.s false 12 (ss.map (actC false))), .top, .top, .c (.s false 12 (ss.map (actC false))), .top, .top, .c (.v (.int .i64 (j + 1 : Nat))), .top, .top, .top, .top, .top, .top, .top, .top, .top, .top, .top, .top, .top, .top, .top, .top, .top, .top, .top, .top, .top, .top, .top, .top, .top, .top, .top, .top, .top, .top, .top, .top, .top, .top, .top, .top, .top, .top, .top, .top, .top, .top, .top, .top, .top, .top, .top, .top, .top, .top, .top, .top, .top, .top, .top, .top, .top, .top, .top, .top, .top, .top, .top, .top, .top, .top, .top, .top, .top, .top, .top, .top, .top, .top, .top, .top, .top, .top, .top, .top, .top, .top, .top, .top, .top, .top, .top, .top, .top, .top, .top, .top, .top, .top, .top, .top, .top, .top, .top, .top, .top, .top, .top, .top, .top, .top, .top, .top, .top], R⟩, ⟨by repeat (first | exact .nil | refine .same ?_ | refine .top ?_), rfl⟩, j + 1, by omega, rfl⟩) | fail)
      ·
        simp only [decide_eq_false_iff_not] at a1
        refine tri_exit ?_
        show Tri _ _ _ _
        refine Y3 okJq rfl (by repeat first | with_reducible exact Y2 | refine Y1 (by simp only [Y5, Y4, Y6, evsA, qev, St.ev, St.put, St.with, C.cpy, qstr, qbin, qext, C.cp, C.dat, Y8, Y7, Nat.reduceEqDiff, if_true, if_false, decide_false, Bool.true_or, callP, Yg, argD, argC, settle, settle1, settleC, settleDs, FsJq, eq_self, hA1, hzo, h3, a0, a1, ZA]; rfl) ?_) ?_
        refine Y3 okJq rfl (by repeat first | with_reducible exact Y2 | refine Y1 (by simp only [Y5, Y4, Y6, evsA, qev, St.ev, St.put, St.with, qpick, qint, Yc, Ya, qbin, qlen, qbuiltin, Y8, Y7, Nat.reduceEqDiff, if_true, if_false, decide_true, cond_true, Bool.true_or, callP, Yg, settle, settle1, settleC, dB, FsJq, pAwake, eq_self, tk9, ZA]; rfl) ?_) ?_
        refine Yo (Yp (by simp only [outRes, Yi, resD, outD, outC, C.dat, if_true, eq_self, ZA]; rfl) rfl (by simp) (by simp) ?_)
        exact hQ
  ·
    refine Y3 okJq rfl (by repeat first | with_reducible exact Y2 | refine Y1 (by simp only [Y5, Y4, Y6, qev, St.ev, St.put, Y8, Y7, ZA]; rfl) ?_) ?_
    refine tri_block ?_
    refine tri_loop_le (fun m A => ∃ (j : Nat) (K : List ActM) (S T : ByteArray) (n : Nat) (R : List (Option Root)), m + j = 8 ∧ (∀ a ∈ K, goodA a) ∧ n = K.length ∧ n ≤ j ∧ S = catB (K.map printB) ∧ T = catB (K.map lineB) ∧ S.size ≤ j * 2000000 ∧ T.size ≤ j * 2000000 ∧ A = ⟨[.c (.s false es (l.map (actC false))), .top, .c (.v (.bool false)), .c (.v (.string (S))), .c (.v (.string (T))), .c (.v (.int .i64 (n : Nat))), .c (.v (.int .i64 (j : Nat))), .top, .top, .top, .top, .top, .top, .top, .top, .top, .top, .top, .top, .top, .top, .top, .top, .top, .top, .top, .top, .top, .top, .top, .top, .top, .top, .top, .top, .top, .top, .top, .top, .top, .top, .top, .top, .top, .top, .top, .top, .top, .top, .top, .top, .top, .top, .top, .top, .top, .top, .top, .top, .top, .top, .top, .top, .top, .top, .top, .top, .top, .top, .top, .top, .top, .top, .top, .top, .top, .top, .top, .top, .top, .top, .top, .top, .top, .top, .top, .top, .top, .top, .top, .top, .top, .top, .top, .top, .top, .top, .top, .top, .top, .top, .top, .top, .top, .top, .top, .top, .top, .top, .top, .top, .top, .top, .top, .top, .top, .top, .top, .top, .top, .top, .top, .top, .top, .top, .top, .top, .top], R⟩) 8 (B := ⟨[.c (.s false es (l.map (actC false))), .top, .c (.v (.bool false)), .c (.v (.string (⟨#[]⟩))), .c (.v (.string (⟨#[]⟩))), .c (.v (.int .i64 (0 : Nat))), .c (.v (.int .i64 (0 : Nat))), .top, .top, .top, .top, .top, .top, .top, .top, .top, .top, .top, .top, .top, .top, .top, .top, .top, .top, .top, .top, .top, .top, .top, .top, .top, .top, .top, .top, .top, .top, .top, .top, .top, .top, .top, .top, .top, .top, .top, .top, .top, .top, .top, .top, .top, .top, .top, .top, .top, .top, .top, .top, .top, .top, .top, .top, .top, .top, .top, .top, .top, .top, .top, .top, .top, .top, .top, .top, .top, .top, .top, .top, .top, .top, .top, .top, .top, .top, .top, .top, .top, .top, .top, .top, .top, .top, .top, .top, .top, .top, .top, .top, .top, .top, .top, .top, .top, .top, .top, .top, .top, .top, .top, .top, .top, .top, .top, .top, .top, .top, .top, .top, .top, .top, .top, .top, .top, .top, .top, .top, .top], []⟩) ⟨by repeat (first | exact .nil | refine .same ?_ | refine .top ?_), rfl⟩ ⟨0, [], ⟨#[]⟩, ⟨#[]⟩, 0, [], rfl, (by intro a ha; cases ha), rfl, Nat.le_refl 0, rfl, rfl, Nat.zero_le _, Nat.zero_le _, rfl⟩ ?_
    rintro m A ⟨j, K, S, T, n, R, hm, hK, hKl, hnj, hS, hT, hSz, hTz, rfl⟩
    have hj1 : (j : Int) + 1 = ((j + 1 : Nat) : Int) := by omega
    have hn1 : (n : Int) + 1 = ((n + 1 : Nat) : Int) := by omega
    have hj8 : j ≤ 8 := by omega
    obtain ⟨a, ha⟩ : ∃ a, l.getD j (act0 0) = a := ⟨_, rfl⟩
    have hg : ((j : Nat) : Int) < ((l.length : Nat) : Int) → l[j]? = some a := (by intro h; rw [← ha]; exact get_at _ (by omega))
    have hE : ((j : Nat) : Int) < ((l.length : Nat) : Int) → es = 12 := fun h => hes (by omega)
    have hia : ((j : Nat) : Int) < ((l.length : Nat) : Int) → inOk a := fun h => hin a (List.mem_of_getElem? (hg h))
    have hF := fun h => few_at a (hia h).few
    have hP := fun h => print_at (fewA a) (few_s (hia h)).say.pre
    have hz := fun h => print_le (few_s (hia h))
    have hSc := fun h => scriptZ_at (printB (fewA a)) (hz h)
    have hok := fun h => keep_good (few_s (hia h))
    obtain ⟨k, p, c, F, i, w, N, d, n0, mm, q, t, hb⟩ : ∃ k p c F i w N d n mm q t, fewA a = ⟨k, p, c, some F, i, w, some N, d, n, mm, q, t⟩ := ⟨_, _, _, _, _, _, _, _, _, _, _, _, rfl⟩
    rw [show actC false (fewA a) = [.v (.int .i64 k), .v (.string p), .v (.int .i64 c), .s false 6 (F.map fldC), .v (.string i), .v (.string w), .s false 1 (N.map strC), .v (.string d), .v (.int .i64 n0), .v (.int .i64 mm), .v (.int .u64 q), .v (.int .i64 t)] from (by rw [hb]; rfl)] at hF hP
    obtain ⟨x, hx⟩ : ∃ x, printB (fewA a) = x := ⟨_, rfl⟩
    rw [hx] at hP hz hSc hok
    obtain ⟨e2, r2, hz2⟩ : ∃ e r, actsZ (scriptF x).1 = .s false e r := ⟨_, _, rfl⟩
    rw [hz2] at hSc
    obtain ⟨a9, ha9⟩ : ∃ a9, (scriptF x).2.1 = a9 := ⟨_, rfl⟩
    obtain ⟨er, her⟩ : ∃ er, (scriptF x).2.2 = er := ⟨_, rfl⟩
    rw [ha9, her] at hSc
    rw [her] at hok
    clear hz2 ha9 her hia
    have hxz : ((j : Nat) : Int) < ((l.length : Nat) : Int) → x.size ≤ 1000000 := hz
    clear hz
    have hA1 : ((j : Nat) : Int) < ((l.length : Nat) : Int) → S.size + x.size ≤ maxStr := (fun h => by have := hxz h; unfold maxStr; omega)
    have hA2 : T.size + 19 ≤ maxStr := (by unfold maxStr; omega)
    have hzr : (⟨#[32, 9, 35, 32, 97, 32, 114, 101, 109, 97, 114, 107, 59, 32, 116, 105, 99, 107, 10]⟩ : ByteArray).size = 19 := rfl
    have hzn : (⟨#[10]⟩ : ByteArray).size = 1 := rfl
    have hA3 : ((j : Nat) : Int) < ((l.length : Nat) : Int) → (T ++ ⟨#[32, 9, 35, 32, 97, 32, 114, 101, 109, 97, 114, 107, 59, 32, 116, 105, 99, 107, 10]⟩).size + x.size ≤ maxStr := (fun h => by have := hxz h; rw [ByteArray.size_append, hzr]; unfold maxStr; omega)
    have hA4 : ((j : Nat) : Int) < ((l.length : Nat) : Int) → (T ++ ⟨#[32, 9, 35, 32, 97, 32, 114, 101, 109, 97, 114, 107, 59, 32, 116, 105, 99, 107, 10]⟩ ++ x).size + 1 ≤ maxStr := (fun h => by have := hxz h; rw [ByteArray.size_append, ByteArray.size_append, hzr]; unfold maxStr; omega)
    refine seq_in ?_
    by_cases a2 : ((↑j : Int) < (↑l.length : Int))
    ·
      refine Y3 okJq rfl (by repeat first | with_reducible exact Y2 | refine Y1 (by simp only [Y5, Y4, Y6, qev, St.ev, St.put, qpick, qint, Yc, Ya, qbin, qlen, qbuiltin, Y8, Y7, if_true, if_false, decide_true, cond_true, hlm, eq_self, tk45, List.length_map, hE, eq_true a2, ZA]; rfl) ?_) ?_
      refine Yf rfl (fun a3 => ?_) (fun a3 => ?_)
      ·
        simp only [decide_eq_true_eq] at a3
        refine Ye ?_
        refine seq_in (tri_block ?_)
        refine Y3 okJq rfl (by repeat first | with_reducible exact Y2 | refine Y1 (by simp only [Y5, Y4, Y6, evsA, qev, St.ev, St.put, St.with, D.cells, D.int, boxA, qload, Y9, qmk, C.cpy, TK.agg, qindexAddr, C.st, C.cp, C.dat, storeA, putCells, Nat.reduceAdd, Nat.reduceEqDiff, if_true, if_false, decide_true, ne_eq, reduceCtorEq, Nat.le_refl, implies_true, Bool.true_or, callP, Yg, argD, settle, settle1, settleC, Yl, FsJq, eq_self, tk50, tsz50, tz50, tk45, act_take, act_cpy2, act_arg, act_cp, act_len, Int.toNat_natCast, Int.natCast_nonneg, List.length_map, hg, hF, last_get, last_set, List.getElem?_map, eq_true a2, a3, ZA]; rfl) ?_) ?_
        refine Y3 okJq rfl (by repeat first | with_reducible exact Y2 | refine Y1 (by simp only [Y5, Y4, Y6, evsA, qev, St.ev, St.put, St.with, qload, Y9, qmk, C.cpy, TK.agg, C.cp, C.dat, Nat.reduceAdd, Nat.reduceEqDiff, if_true, if_false, Bool.true_or, callP, Yg, argD, argC, argCs, settle, settle1, settleC, FsJq, eq_self, tk50, tsz50, hP, last_get, eq_true a2, ZA]; rfl) ?_) ?_
        refine Y3 okJq rfl (by repeat first | with_reducible exact Y2 | refine Y1 (by simp only [Y5, Y4, Y6, evsA, qev, St.ev, St.put, St.with, C.cpy, qext, C.cp, C.dat, Nat.reduceEqDiff, if_true, if_false, Bool.true_or, callP, Yg, argD, argC, settle, settle1, settleC, settleDs, FsJq, eq_self, hSc, eq_true a2, ZA]; rfl) ?_) ?_
        refine seq_in ?_
        by_cases a4 : ((strEq x { data := #[] }) = true)
        ·
          refine Y3 okJq rfl (by repeat first | with_reducible exact Y2 | refine Y1 (by simp only [Y5, Y4, Y6, qev, St.ev, St.put, qpick, qstr, isEq, qeq, qbin, Y8, Y7, if_false, cond_true, reduceCtorEq, a4, ZA]; rfl) ?_) ?_
          refine Yf (b := true) rfl (fun _ => ?_) (fun h => by cases h)
          refine tri_exit ?_
          show Tri _ _ _ _
          refine Yk okJq rfl (by repeat first | with_reducible exact Y2 | refine Y1 (by simp only [Y5, Y4, Y6, qev, St.ev, St.put, qint, Yc, Ya, qbin, Y8, Y7, if_true, if_false, eq_self, hj1, show IntKind.i64.wrap (↑(j + 1) : Int) = _ from wrap_i64 _ (by omega) (by omega), ZA]; rfl) ?_) ?_
          simp only []
          (first | (exact ⟨m - 1, by omega, ⟨[.c (.s false es (l.map (actC false))), .top, .c (.v (.bool false)), .c (.v (.string (S))), .c (.v (.string (T))), .c (.v (.int .i64 (n : Nat))), .c (.v (.int .i64 (j + 1 : Nat))), .top, .top, .top, .top, .top, .top, .top, .top, .top, .top, .top, .top, .top, .top, .top, .top, .top, .top, .top, .top, .top, .top, .top, .top, .top, .top, .top, .top, .top, .top, .top, .top, .top, .top, .top, .top, .top, .top, .top, .top, .top, .top, .top, .top, .top, .top, .top, .top, .top, .top, .top, .top, .top, .top, .top, .top, .top, .top, .top, .top, .top, .top, .top, .top, .top, .top, .top, .top, .top, .top, .top, .top, .top, .top, .top, .top, .top, .top, .top, .top, .top, .top, .top, .top, .top, .top, .top, .top, .top, .top, .top, .top, .top, .top, .top, .top, .top, .top, .top, .top, .top, .top, .top, .top, .top, .top, .top, .top, .top, .top, .top, .top, .top, .top, .top, .top, .top, .top, .top, .top, .top], _⟩, ⟨(by (try rw [hE (by omega)]); repeat (first | exact .nil | refine .same ?_ | refine .top ?_)), (by (try rw [hE (by omega)]); try rfl)⟩, j + 1, K, S, T, n, _, by omega, hK, hKl, by omega, hS, hT, stay_le hSz, stay_le hTz, rfl⟩) | fail)
        ·
          refine Y3 okJq rfl (by repeat first | with_reducible exact Y2 | refine Y1 (by simp only [Y5, Y4, Y6, qev, St.ev, St.put, qpick, qint, Yc, qstr, Ya, qbin, Y8, Y7, if_true, if_false, cond_false, eq_self, eq_false_of_ne_true a4, ZA]; rfl) ?_) ?_
          refine Yf rfl (fun a5 => ?_) (fun a5 => ?_)
          ·
            simp only [decide_eq_false_iff_not, Bool.not_eq_true'] at a5
            refine tri_exit ?_
            show Tri _ _ _ _
            refine Yk okJq rfl (by repeat first | with_reducible exact Y2 | refine Y1 (by simp only [Y5, Y4, Y6, qev, St.ev, St.put, qint, Yc, Ya, qbin, Y8, Y7, if_true, if_false, decide_false, Bool.not_false, eq_self, hj1, a5, show IntKind.i64.wrap (↑(j + 1) : Int) = _ from wrap_i64 _ (by omega) (by omega), ZA]; rfl) ?_) ?_
            simp only []
            (first | (exact ⟨m - 1, by omega, ⟨[.c (.s false es (l.map (actC false))), .top, .c (.v (.bool false)), .c (.v (.string (S))), .c (.v (.string (T))), .c (.v (.int .i64 (n : Nat))), .c (.v (.int .i64 (j + 1 : Nat))), .top, .top, .top, .top, .top, .top, .top, .top, .top, .top, .top, .top, .top, .top, .top, .top, .top, .top, .top, .top, .top, .top, .top, .top, .top, .top, .top, .top, .top, .top, .top, .top, .top, .top, .top, .top, .top, .top, .top, .top, .top, .top, .top, .top, .top, .top, .top, .top, .top, .top, .top, .top, .top, .top, .top, .top, .top, .top, .top, .top, .top, .top, .top, .top, .top, .top, .top, .top, .top, .top, .top, .top, .top, .top, .top, .top, .top, .top, .top, .top, .top, .top, .top, .top, .top, .top, .top, .top, .top, .top, .top, .top, .top, .top, .top, .top, .top, .top, .top, .top, .top, .top, .top, .top, .top, .top, .top, .top, .top, .top, .top, .top, .top, .top, .top, .top, .top, .top, .top, .top, .top], _⟩, ⟨(by (try rw [hE (by omega)]); repeat (first | exact .nil | refine .same ?_ | refine .top ?_)), (by (try rw [hE (by omega)]); try rfl)⟩, j + 1, K, S, T, n, _, by omega, hK, hKl, by omega, hS, hT, stay_le hSz, stay_le hTz, rfl⟩) | fail)
          ·
            simp only [decide_eq_true_eq, Bool.not_eq_false'] at a5
            refine Ye ?_
            refine Y3 okJq rfl (by repeat first | with_reducible exact Y2 | refine Y1 (by simp only [Y5, Y4, Y6, qev, St.ev, St.put, qstr, qbin, if_true, decide_true, Bool.not_true, eq_self, hA1, eq_true a2, a5, ZA]; rfl) ?_) ?_
            refine Y3 okJq rfl (by repeat first | with_reducible exact Y2 | refine Y1 (by simp only [Y5, Y4, Y6, qev, St.ev, St.put, qstr, qbin, Y8, Y7, if_true, hA2, hzr, hzn, hA3, hA4, eq_true a2, ZA]; rfl) ?_) ?_
            refine Yk okJq rfl (by repeat first | with_reducible exact Y2 | refine Y1 (by simp only [Y5, Y4, Y6, qev, St.ev, St.put, qint, Yc, Ya, qbin, Y8, Y7, if_true, if_false, eq_self, hn1, show IntKind.i64.wrap (↑(n + 1) : Int) = _ from wrap_i64 _ (by omega) (by omega), ZA]; rfl) ?_) ?_
            show Tri _ _ _ _
            refine Yk okJq rfl (by repeat first | with_reducible exact Y2 | refine Y1 (by simp only [Y5, Y4, Y6, qev, St.ev, St.put, qint, Yc, Ya, qbin, Y8, Y7, if_true, if_false, eq_self, hj1, show IntKind.i64.wrap (↑(j + 1) : Int) = _ from wrap_i64 _ (by omega) (by omega), ZA]; rfl) ?_) ?_
            simp only []
            (first | (have hgd : goodA (fewA a) := hok (by omega) (Bool.eq_false_iff.2 (by assumption)) (by assumption); have hxx := hxz (by omega); exact ⟨m - 1, by omega, ⟨[.c (.s false es (l.map (actC false))), .top, .c (.v (.bool false)), .c (.v (.string (S ++ x))), .c (.v (.string (T ++ ⟨#[32, 9, 35, 32, 97, 32, 114, 101, 109, 97, 114, 107, 59, 32, 116, 105, 99, 107, 10]⟩ ++ x ++ ⟨#[10]⟩))), .c (.v (.int .i64 (n + 1 : Nat))), .c (.v (.int .i64 (j + 1 : Nat))), .top, .top, .top, .top, .top, .top, .top, .top, .top, .top, .top, .top, .top, .top, .top, .top, .top, .top, .top, .top, .top, .top, .top, .top, .top, .top, .top, .top, .top, .top, .top, .top, .top, .top, .top, .top, .top, .top, .top, .top, .top, .top, .top, .top, .top, .top, .top, .top, .top, .top, .top, .top, .top, .top, .top, .top, .top, .top, .top, .top, .top, .top, .top, .top, .top, .top, .top, .top, .top, .top, .top, .top, .top, .top, .top, .top, .top, .top, .top, .top, .top, .top, .top, .top, .top, .top, .top, .top, .top, .top, .top, .top, .top, .top, .top, .top, .top, .top, .top, .top, .top, .top, .top, .top, .top, .top, .top, .top, .top, .top, .top, .top, .top, .top, .top, .top, .top, .top, .top, .top, .top], _⟩, ⟨(by (try rw [hE (by omega)]); repeat (first | exact .nil | refine .same ?_ | refine .top ?_)), (by (try rw [hE (by omega)]); try rfl)⟩, j + 1, K ++ [fewA a], S ++ x, T ++ ⟨#[32, 9, 35, 32, 97, 32, 114, 101, 109, 97, 114, 107, 59, 32, 116, 105, 99, 107, 10]⟩ ++ x ++ ⟨#[10]⟩, n + 1, _, by omega, good_snoc hK hgd, (by rw [hKl]; simp), by omega, (by rw [hS, List.map_append, ← hx]; exact (catB_snoc _ _).symm), (by rw [hT, List.map_append, ← hx]; exact line_snoc _ _), (by rw [ByteArray.size_append]; exact grow_le hSz hxx), (by rw [ByteArray.size_append, ByteArray.size_append, ByteArray.size_append, hzr, hzn]; exact grow_le3 hTz hxx), rfl⟩) | fail)
      ·
        simp only [decide_eq_false_iff_not] at a3
        refine tri_exit ?_
        simp only []
        (first | (exact ⟨K, S, T, n, R, hK, hKl, by omega, hS, hT, top_le hSz hj8, top_le hTz hj8, ⟨by repeat (first | exact .nil | refine .same ?_ | refine .top ?_), rfl⟩⟩) | fail)
    ·
      have a2n : (l)[j]? = none := List.getElem?_eq_none (by omega)
      refine Y3 okJq rfl (by repeat first | with_reducible exact Y2 | refine Y1 (by simp only [Y5, Y4, Y6, qev, St.ev, St.put, qpick, qint, Yc, isEq, Ya, qbin, qlen, qbuiltin, Y8, Y7, if_true, if_false, decide_false, cond_false, hlm, eq_self, tk45, List.length_map, eq_false a2, ZA]; rfl) ?_) ?_
      refine Yf (b := false) rfl (fun h => by cases h) (fun _ => ?_)
      refine tri_exit ?_
      simp only []
      (first | (exact ⟨K, S, T, n, R, hK, hKl, by omega, hS, hT, top_le hSz hj8, top_le hTz hj8, ⟨by repeat (first | exact .nil | refine .same ?_ | refine .top ?_), rfl⟩⟩) | fail)
end Go.Dl

namespace Go.Dl
open Go.RowKit
open Go.Proofs
set_option linter.unusedVariables false
theorem ty_int {t : TypeId} {cs : List C} {k : IntKind} (hk : tk Try.prog t = some (.int k)) (h : Ty Try.prog t cs) : ∃ n, cs = [.v (.int k n)] ∧ inR k n = true := by
  cases h with
  | int h1 hn => rw [hk] at h1; cases h1; exact ⟨_, rfl, hn⟩
  | bool h1 => rw [hk] at h1; cases h1
  | str h1 _ => rw [hk] at h1; cases h1
  | slice h1 _ _ _ => rw [hk] at h1; cases h1
  | arr h1 _ _ => rw [hk] at h1; cases h1
  | st h1 _ => rw [hk] at h1; cases h1
theorem ty_bool {t : TypeId} {cs : List C} (hk : tk Try.prog t = some .bool) (h : Ty Try.prog t cs) : ∃ b, cs = [.v (.bool b)] := by
  cases h with
  | int h1 hn => rw [hk] at h1; cases h1
  | bool h1 => exact ⟨_, rfl⟩
  | str h1 _ => rw [hk] at h1; cases h1
  | slice h1 _ _ _ => rw [hk] at h1; cases h1
  | arr h1 _ _ => rw [hk] at h1; cases h1
  | st h1 _ => rw [hk] at h1; cases h1
theorem ty_str {t : TypeId} {cs : List C} (hk : tk Try.prog t = some .str) (h : Ty Try.prog t cs) : ∃ s, cs = [.v (.string s)] ∧ s.size ≤ maxStr := by
  cases h with
  | int h1 hn => rw [hk] at h1; cases h1
  | bool h1 => rw [hk] at h1; cases h1
  | str h1 hs => exact ⟨_, rfl, hs⟩
  | slice h1 _ _ _ => rw [hk] at h1; cases h1
  | arr h1 _ _ => rw [hk] at h1; cases h1
  | st h1 _ => rw [hk] at h1; cases h1
theorem ty_slice {t e : TypeId} {cs : List C} (hk : tk Try.prog t = some (.slice e)) (h : Ty Try.prog t cs) : ∃ rows, cs = [.s false (tsz Try.prog e) rows] ∧ (∀ r, r ∈ rows → Ty Try.prog e r) ∧ rows.length ≤ maxStr := by
  cases h with
  | int h1 hn => rw [hk] at h1; cases h1
  | bool h1 => rw [hk] at h1; cases h1
  | str h1 hs => rw [hk] at h1; cases h1
  | slice h1 h2 _ h4 => rw [hk] at h1; cases h1; exact ⟨_, rfl, h2, h4⟩
  | arr h1 _ _ => rw [hk] at h1; cases h1
  | st h1 _ => rw [hk] at h1; cases h1
theorem ty_st {t : TypeId} {cs : List C} {fs : List (TypeId × Nat)} (hk : tk Try.prog t = some (.st fs)) (h : Ty Try.prog t cs) : ∃ css, cs = css.flatten ∧ TyL Try.prog fs css := by
  cases h with
  | int h1 hn => rw [hk] at h1; cases h1
  | bool h1 => rw [hk] at h1; cases h1
  | str h1 hs => rw [hk] at h1; cases h1
  | slice h1 _ _ _ => rw [hk] at h1; cases h1
  | arr h1 _ _ => rw [hk] at h1; cases h1
  | st h1 hf => rw [hk] at h1; cases h1; exact ⟨_, rfl, hf⟩
theorem tyL_cons {x : TypeId × Nat} {xs : List (TypeId × Nat)} {css : List (List C)} (h : TyL Try.prog (x :: xs) css) : ∃ c cs, css = c :: cs ∧ Ty Try.prog x.1 c ∧ TyL Try.prog xs cs := by
  cases h with
  | cons h1 h2 => exact ⟨_, _, rfl, h1, h2⟩
theorem tyL_nil {css : List (List C)} (h : TyL Try.prog [] css) : css = [] := by cases h; rfl
theorem rows_map {α : Type} {B : α → List C} {p : α → Prop} : ∀ rows : List (List C), (∀ r ∈ rows, ∃ x, r = B x ∧ p x) → ∃ l : List α, rows = l.map B ∧ ∀ x ∈ l, p x
  | [], h => ⟨[], rfl, by intro x hx; cases hx⟩
  | r :: rows, h => by
    obtain ⟨x, hx, px⟩ := h r (List.mem_cons_self ..)
    obtain ⟨l, hl, pl⟩ := rows_map rows (fun y hy => h y (List.mem_cons_of_mem _ hy))
    refine ⟨x :: l, by rw [hx, hl]; rfl, ?_⟩
    intro y hy
    rcases List.mem_cons.1 hy with rfl | hy
    · exact px
    · exact pl y hy
def valOk (v : Val) : Prop := inR .i64 v.2.2.1 = true ∧ inR .u64 v.2.2.2.1 = true ∧ v.2.2.2.2.size ≤ maxStr
theorem ty_val {cs : List C} (h : Ty Try.prog 39 cs) : ∃ v : Val, cs = valC v ∧ valOk v := by
  obtain ⟨css, rfl, u1⟩ := ty_st tk39 h
  obtain ⟨c1, _, rfl, g1, u2⟩ := tyL_cons u1
  obtain ⟨c2, _, rfl, g2, u3⟩ := tyL_cons u2
  obtain ⟨c3, _, rfl, g3, u4⟩ := tyL_cons u3
  obtain ⟨c4, _, rfl, g4, u5⟩ := tyL_cons u4
  obtain ⟨c5, _, rfl, g5, u6⟩ := tyL_cons u5
  obtain rfl := tyL_nil u6
  obtain ⟨a, rfl, _⟩ := ty_int tk3 g1
  obtain ⟨b, rfl⟩ := ty_bool tk4 g2
  obtain ⟨c, rfl, hc⟩ := ty_int tk2 g3
  obtain ⟨d, rfl, hd⟩ := ty_int tk37 g4
  obtain ⟨e, rfl, he⟩ := ty_str tk9 g5
  exact ⟨(a, b, c, d, e), rfl, hc, hd, he⟩
theorem ty_fld {cs : List C} (h : Ty Try.prog 91 cs) : ∃ f : Fld, cs = fldC f ∧ f.1.size ≤ maxStr ∧ valOk f.2 := by
  obtain ⟨css, rfl, u7⟩ := ty_st tk91 h
  obtain ⟨c1, _, rfl, g1, u8⟩ := tyL_cons u7
  obtain ⟨c2, _, rfl, g2, u9⟩ := tyL_cons u8
  obtain rfl := tyL_nil u9
  obtain ⟨a, rfl, ha⟩ := ty_str tk9 g1
  obtain ⟨v, rfl, hv⟩ := ty_val g2
  exact ⟨(a, v), rfl, ha, hv⟩
theorem ty_act {cs : List C} (h : Ty Try.prog 50 cs) : ∃ a : ActM, cs = actC false a ∧ inOk a := by
  obtain ⟨css, rfl, u10⟩ := ty_st tk50 h
  obtain ⟨c1, _, rfl, g1, u11⟩ := tyL_cons u10
  obtain ⟨c2, _, rfl, g2, u12⟩ := tyL_cons u11
  obtain ⟨c3, _, rfl, g3, u13⟩ := tyL_cons u12
  obtain ⟨c4, _, rfl, g4, u14⟩ := tyL_cons u13
  obtain ⟨c5, _, rfl, g5, u15⟩ := tyL_cons u14
  obtain ⟨c6, _, rfl, g6, u16⟩ := tyL_cons u15
  obtain ⟨c7, _, rfl, g7, u17⟩ := tyL_cons u16
  obtain ⟨c8, _, rfl, g8, u18⟩ := tyL_cons u17
  obtain ⟨c9, _, rfl, g9, u19⟩ := tyL_cons u18
  obtain ⟨c10, _, rfl, g10, u20⟩ := tyL_cons u19
  obtain rfl := tyL_nil u20
  obtain ⟨k, rfl, hk⟩ := ty_int tk3 g1
  obtain ⟨css, rfl, u21⟩ := ty_st tk48 g2
  obtain ⟨d1, _, rfl, p1, u22⟩ := tyL_cons u21
  obtain ⟨d2, _, rfl, p2, u23⟩ := tyL_cons u22
  obtain ⟨d3, _, rfl, p3, u24⟩ := tyL_cons u23
  obtain rfl := tyL_nil u24
  obtain ⟨pid, rfl, hpid⟩ := ty_str tk9 p1
  obtain ⟨cls, rfl, hcls⟩ := ty_int tk3 p2
  obtain ⟨rows, rfl, hrows, hlen⟩ := ty_slice tk46 p3
  obtain ⟨fs, rfl, hfs⟩ := rows_map (B := fldC) (p := fun f => f.1.size ≤ maxStr ∧ valOk f.2) rows (fun r hr => ty_fld (hrows r hr))
  obtain ⟨id, rfl, hid⟩ := ty_str tk9 g3
  obtain ⟨nm, rfl, hnm⟩ := ty_str tk9 g4
  obtain ⟨rows, rfl, hrows2, hlen2⟩ := ty_slice tk28 g5
  obtain ⟨ns, rfl, hns⟩ := rows_map (B := strC) (p := fun s => s.size ≤ maxStr) rows (fun r hr => by
    obtain ⟨s, rfl, hs⟩ := ty_str tk9 (hrows2 r hr)
    exact ⟨s, rfl, hs⟩)
  obtain ⟨dr, rfl, hdr⟩ := ty_str tk9 g6
  obtain ⟨n, rfl, hn⟩ := ty_int tk3 g7
  obtain ⟨m, rfl, hm⟩ := ty_int tk3 g8
  obtain ⟨kp, rfl, hkp⟩ := ty_int tk37 g9
  obtain ⟨te, rfl, hte⟩ := ty_int tk3 g10
  rw [List.length_map] at hlen hlen2
  refine ⟨⟨k, pid, cls, some fs, id, nm, some ns, dr, n, m, kp, te⟩, ?_, ⟨⟨hpid, hlen, fun f hf => ⟨(hfs f hf).1, (hfs f hf).2.2.2⟩, hid, hnm, hdr, hlen2, hns⟩, hk, hcls, hn, hm, hkp, hte, fun f hf => ⟨(hfs f hf).2.1, (hfs f hf).2.2.1⟩⟩⟩
  rw [tsz91, tsz9]
  rfl
theorem ty_acts {c : C} (h : Ty Try.prog 45 [c]) : ∃ l : List ActM, c = .s false 12 (l.map (actC false)) ∧ l.length ≤ maxStr ∧ ∀ a ∈ l, inOk a := by
  obtain ⟨rows, hc, hrows, hlen⟩ := ty_slice tk45 h
  obtain ⟨l, rfl, hl⟩ := rows_map (B := actC false) (p := inOk) rows (fun r hr => ty_act (hrows r hr))
  rw [List.length_map] at hlen
  rw [tsz50] at hc
  exact ⟨l, (List.cons.inj hc).1, hlen, hl⟩
end Go.Dl
