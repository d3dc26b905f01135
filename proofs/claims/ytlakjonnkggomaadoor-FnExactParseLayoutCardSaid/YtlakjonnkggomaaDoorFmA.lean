/-
  Texts of numbers: strconv.Itoa, strings.Join; the program's spaced and FormatLayout.
-/
import Derived.BigRegion
import Derived.Shelf.Strconv.Itoa3
import Derived.Shelf.Strings.Builder1
import Derived.Shelf.Strings.Builder2
import Derived.Shelf.Strings.OnBuilder
import Derived.Lib.ItoaLen
import Derived.Lib.AppendIntMem
import Derived.Lib.SmallJoins
import Derived.Test.YtlakjonnkggomaaDoorProg
import Derived.Shelf.SlGeneric
import Derived.Test.YtlakjonnkggomaaDoorWMore
namespace Go.Proofs.YtlakjonnkggomaaDoorW.PrintMore
set_option linter.unusedVariables false
set_option linter.unusedSimpArgs false
open Go.Proofs Go.Deep Go.Shelf
open Go.RowKit Go.Proofs.YtlakjonnkggomaaDoorW.PrintWords Go.Proofs.YtlakjonnkggomaaDoorW.PrintLast Go.Proofs.YtlakjonnkggomaaDoorW.PrintMore
def fm_itoaL_ren : Go.Shelf.Ren := ⟨fun | 171 => 41 | 243 => 56 | 246 => 74 | 283 => 88 | 284 => 89 | 285 => 90 | 286 => 91 | 129 => 103 | 317 => 102 | 318 => 104 | 319 => 105 | 320 => 106 | 337 => 109 | 338 => 110 | n => n, fun | 3 => 3 | 9 => 9 | 2 => 2 | 4 => 4 | 171 => 133 | 0 => 0 | 53 => 123 | 37 => 81 | 5 => 5 | 173 => 136 | 212 => 150 | 51 => 94 | 20 => 20 | 213 => 151 | 46 => 126 | 232 => 159 | 233 => 160 | n => n, fun | 17 => 5 | 18 => 8 | 19 => 9 | n => n⟩
theorem fm_itoaL : Go.Proofs.LaysM.n171 Tryd.prog fm_itoaL_ren := {
  mixed := by kernel_rfl
  f129 := Tryd.func103.trans (congrArg some (by kernel_rfl))
  f171 := Tryd.func41.trans (congrArg some (by kernel_rfl))
  f243 := Tryd.func56.trans (congrArg some (by kernel_rfl))
  f246 := Tryd.func74.trans (congrArg some (by kernel_rfl))
  f283 := Tryd.func88.trans (congrArg some (by kernel_rfl))
  f284 := Tryd.func89.trans (congrArg some (by kernel_rfl))
  f285 := Tryd.func90.trans (congrArg some (by kernel_rfl))
  f286 := Tryd.func91.trans (congrArg some (by kernel_rfl))
  f317 := Tryd.func102.trans (congrArg some (by kernel_rfl))
  f318 := Tryd.func104.trans (congrArg some (by kernel_rfl))
  f319 := Tryd.func105.trans (congrArg some (by kernel_rfl))
  f320 := Tryd.func106.trans (congrArg some (by kernel_rfl))
  f337 := Tryd.func109.trans (congrArg some (by kernel_rfl))
  f338 := Tryd.func110.trans (congrArg some (by kernel_rfl))
  t0 := Tryd.underlying0
  a0 := Tryd.isAgg0
  z0 := Tryd.sizeOf0
  v0 := Tryd.zeroValue0
  t2 := Tryd.underlying2
  a2 := Tryd.isAgg2
  z2 := Tryd.sizeOf2
  v2 := Tryd.zeroValue2
  t3 := Tryd.underlying3
  a3 := Tryd.isAgg3
  z3 := Tryd.sizeOf3
  v3 := Tryd.zeroValue3
  t4 := Tryd.underlying4
  a4 := Tryd.isAgg4
  z4 := Tryd.sizeOf4
  v4 := Tryd.zeroValue4
  t5 := Tryd.underlying5
  a5 := Tryd.isAgg5
  z5 := Tryd.sizeOf5
  v5 := Tryd.zeroValue5
  t9 := Tryd.underlying9
  a9 := Tryd.isAgg9
  z9 := Tryd.sizeOf9
  v9 := Tryd.zeroValue9
  t20 := Tryd.underlying20
  a20 := Tryd.isAgg20
  z20 := Tryd.sizeOf20
  v20 := Tryd.zeroValue20
  t37 := Tryd.underlying81
  a37 := Tryd.isAgg81
  z37 := Tryd.sizeOf81
  v37 := Tryd.zeroValue81
  t46 := Tryd.underlying126
  a46 := Tryd.isAgg126
  z46 := Tryd.sizeOf126
  v46 := Tryd.zeroValue126
  t51 := Tryd.underlying94
  a51 := Tryd.isAgg94
  z51 := Tryd.sizeOf94
  v51 := Tryd.zeroValue94
  t53 := Tryd.underlying123
  a53 := Tryd.isAgg123
  z53 := Tryd.sizeOf123
  v53 := Tryd.zeroValue123
  t171 := Tryd.underlying133
  a171 := Tryd.isAgg133
  z171 := Tryd.sizeOf133
  v171 := Tryd.zeroValue133
  t173 := Tryd.underlying136
  a173 := Tryd.isAgg136
  z173 := Tryd.sizeOf136
  v173 := Tryd.zeroValue136
  t212 := Tryd.underlying150
  a212 := Tryd.isAgg150
  z212 := Tryd.sizeOf150
  v212 := Tryd.zeroValue150
  t213 := Tryd.underlying151
  a213 := Tryd.isAgg151
  z213 := Tryd.sizeOf151
  t232 := Tryd.underlying159
  a232 := Tryd.isAgg159
  z232 := Tryd.sizeOf159
  v232 := Tryd.zeroValue159
  t233 := Tryd.underlying160
  a233 := Tryd.isAgg160
  z233 := Tryd.sizeOf160
  v233 := Tryd.zeroValue160
  g17 := by kernel_rfl
  g18 := by kernel_rfl
  g19 := by kernel_rfl
  i0 := by kernel_rfl
  i2 := by kernel_rfl
  i3 := by kernel_rfl
  i4 := by kernel_rfl
  i5 := by kernel_rfl
  i9 := by kernel_rfl
  i20 := by kernel_rfl
  i37 := by kernel_rfl
  i46 := by kernel_rfl
  i51 := by kernel_rfl
  i53 := by kernel_rfl
  i171 := by kernel_rfl
  i173 := by kernel_rfl
  i212 := by kernel_rfl
  i232 := by kernel_rfl
  i233 := by kernel_rfl
  m17 := by kernel_rfl
  m18 := by kernel_rfl
  m19 := by kernel_rfl }
def fm_joinL_ren : Go.Shelf.Ren := ⟨fun | 156 => 42 | 165 => 57 | 166 => 58 | 169 => 59 | 240 => 75 | 241 => 76 | 276 => 92 | 277 => 93 | n => n, fun | 31 => 46 | 9 => 9 | 3 => 3 | 4 => 4 | 0 => 0 | 20 => 20 | 72 => 84 | 76 => 51 | 70 => 82 | 37 => 81 | 75 => 50 | 127 => 107 | 164 => 138 | 5 => 5 | 80 => 86 | n => n, fun | n => n⟩
theorem fm_joinL : Go.Proofs.Lays.n156 Tryd.prog fm_joinL_ren := {
  mixed := by kernel_rfl
  f156 := Tryd.func42.trans (congrArg some (by kernel_rfl))
  f165 := Tryd.func57.trans (congrArg some (by kernel_rfl))
  f166 := Tryd.func58.trans (congrArg some (by kernel_rfl))
  f169 := Tryd.func59.trans (congrArg some (by kernel_rfl))
  f240 := Tryd.func75.trans (congrArg some (by kernel_rfl))
  f241 := Tryd.func76.trans (congrArg some (by kernel_rfl))
  f276 := Tryd.func92.trans (congrArg some (by kernel_rfl))
  f277 := Tryd.func93.trans (congrArg some (by kernel_rfl))
  t0 := Tryd.underlying0
  a0 := Tryd.isAgg0
  z0 := Tryd.sizeOf0
  v0 := Tryd.zeroValue0
  t3 := Tryd.underlying3
  a3 := Tryd.isAgg3
  z3 := Tryd.sizeOf3
  v3 := Tryd.zeroValue3
  t4 := Tryd.underlying4
  a4 := Tryd.isAgg4
  z4 := Tryd.sizeOf4
  v4 := Tryd.zeroValue4
  t9 := Tryd.underlying9
  a9 := Tryd.isAgg9
  z9 := Tryd.sizeOf9
  v9 := Tryd.zeroValue9
  t20 := Tryd.underlying20
  a20 := Tryd.isAgg20
  z20 := Tryd.sizeOf20
  v20 := Tryd.zeroValue20
  t31 := Tryd.underlying46
  a31 := Tryd.isAgg46
  z31 := Tryd.sizeOf46
  v31 := Tryd.zeroValue46
  t37 := Tryd.underlying81
  a37 := Tryd.isAgg81
  z37 := Tryd.sizeOf81
  v37 := Tryd.zeroValue81
  t70 := Tryd.underlying82
  a70 := Tryd.isAgg82
  z70 := Tryd.sizeOf82
  v70 := Tryd.zeroValue82
  t72 := Tryd.underlying84
  a72 := Tryd.isAgg84
  z72 := Tryd.sizeOf84
  v72 := Tryd.zeroValue84
  t75 := Tryd.underlying50
  a75 := Tryd.isAgg50
  z75 := Tryd.sizeOf50
  v75 := Tryd.zeroValue50
  t76 := Tryd.underlying51
  a76 := Tryd.isAgg51
  z76 := Tryd.sizeOf51
  v76 := Tryd.zeroValue51
  t127 := Tryd.underlying107
  a127 := Tryd.isAgg107
  z127 := Tryd.sizeOf107
  v127 := Tryd.zeroValue107
  t164 := Tryd.underlying138
  a164 := Tryd.isAgg138
  z164 := Tryd.sizeOf138
  v164 := Tryd.zeroValue138 }
theorem fm_joinX : Builder.Extra Tryd.prog fm_joinL_ren := {
  sizeBuilder := by kernel_rfl
  liesBuilder := by kernel_rfl
  t5 := Tryd.underlying5
  a5 := Tryd.isAgg5
  z5 := Tryd.sizeOf5
  v5 := Tryd.zeroValue5
  infoByte := by kernel_rfl
  cellsByte := by kernel_rfl
  sizeByte := by kernel_rfl
  neB5 := by decide }
/-- The table that strconv.Itoa reads. -/
def Pow (w : World) : Prop := Lib.TabIs Tryd.prog w "internal/strconv.uint64pow10" .u64 Lib.pow10Tab
theorem Pow.keep {w w' : World} {B : Nat} (h : Pow w) (hb : Below B w w') (hB : w.heap.size ≤ B) : Pow w' :=
  Joins.tab_stays (g := 5) (by kernel_rfl) h hb hB
/-- A number's decimal text. -/
def dec (n : Int) : ByteArray := ⟨(Lib.itoa n).toArray⟩
theorem dec_list (n : Int) : (dec n).data.toList = Lib.itoa n := by unfold dec; simp
theorem dec_size (n : Int) (h0 : -9223372036854775808 ≤ n) (h1 : n ≤ 9223372036854775807) : (dec n).size ≤ 21 := by
  have := Lib.itoa_length_le n h0 h1
  show (Lib.itoa n).toArray.size ≤ 21
  simpa using this
theorem itoa_ne (n : Int) : Lib.itoa n ≠ [] := by
  unfold Lib.itoa
  by_cases h : n < 0
  · rw [if_pos h]; exact List.cons_ne_nil _ _
  · rw [if_neg h]
    intro e
    have := Lib.decDigits_length n.toNat
    have := Lib.nDigits_pos n.toNat
    rw [e] at *
    simp at *
    omega
theorem fm_Itoa (n : Int) (h0 : -9223372036854775808 ≤ n) (h1 : n ≤ 9223372036854775807) (w : World) (ht : Pow w) :
    Calls Tryd.prog 41 #[.int .i64 n] w fun e w' => e = .returned (.string (dec n)) ∧ Below w.heap.size w w' := by
  refine (Any.strconv_Itoa fm_itoaL n h0 h1 w ht).mono ?_
  rintro e w' ⟨rfl, k, os, rfl⟩
  exact ⟨rfl, Lib.below_grow _ w (Nat.le_refl _) k os⟩
/-- Texts with another one between them. -/
def joinB (xs : List ByteArray) (sep : ByteArray) : ByteArray := ⟨(Lib.join (xs.map (·.data.toList)) sep.data.toList).toArray⟩
theorem fm_Join (v : Value) (base : Nat) (xs : List ByteArray) (sep : ByteArray) (w : World) (h : Kd.R Kd.string 9 w base (fun _ => True) v xs) (h0 : 0 < xs.length) (hN : xs.length ≤ 2000000) (hl : (joinB xs sep).size ≤ 140737488355328) :
    Calls Tryd.prog 42 #[v, .string sep] w fun e w' => e = .returned (.string (joinB xs sep)) ∧ Below w.heap.size w w' := by
  have hl' : (Lib.join (xs.map (·.data.toList)) sep.data.toList).length ≤ 140737488355328 := by
    have : (joinB xs sep).size = (Lib.join (xs.map (·.data.toList)) sep.data.toList).length := by show (Lib.join (xs.map (·.data.toList)) sep.data.toList).toArray.size = _; simp
    omega
  have ho := Kd.own_of_R h
  rcases ho.2 with ⟨rfl, hn⟩ | ⟨g, cap, cur, rfl, hg, hh, hle, hrest⟩
  · omega
  · refine Any.strings_Join fm_joinL fm_joinX g 0 cap xs sep w (fun j x hx => ?_) (blk_lt hh) (by omega) ?_ hl'
    · have hj : j < xs.length := (List.getElem?_eq_some_iff.1 hx).1
      have := (Kd.R_celln (⟨#[]⟩ : ByteArray) h (j : Int) (by omega) (by omega)).1
      rw [show (0 : Nat) + j = ((j : Nat) : Int).toNat from by omega, this]
      unfold rdOf
      rw [List.getD_eq_getElem?_getD, show ((j : Nat) : Int).toNat = j from by omega, hx]
      rfl
    · exact hle
/-- Numbers' texts with another one between them. -/
def decs (l : List Int) (c : UInt8) : ByteArray := joinB (l.map dec) ⟨#[c]⟩
def InR (l : List Int) : Prop := ∀ n ∈ l, -9223372036854775808 ≤ n ∧ n ≤ 9223372036854775807
theorem join_snoc (xs : List (List UInt8)) (x sep : List UInt8) (h : xs ≠ []) : Lib.join (xs ++ [x]) sep = Lib.join xs sep ++ sep ++ x := by
  cases xs with
  | nil => exact absurd rfl h
  | cons y r =>
    rw [List.cons_append, Lib.join_cons, Lib.join_cons]
    unfold Lib.joinTail
    rw [List.map_append, List.flatten_append]
    simp [List.append_assoc]
theorem ba_ext {a b : ByteArray} (h : a.data.toList = b.data.toList) : a = b := by
  cases a; cases b
  simp only at h
  congr 1
  exact Array.ext' h
theorem ba_app (a b : ByteArray) : (a ++ b).data.toList = a.data.toList ++ b.data.toList := by
  first | rfl | (rw [ByteArray.data_append, Array.toList_append]) | (simp; done) | (simp; rfl)
theorem rev_ind {α : Type} {P : List α → Prop} (h0 : P []) (h1 : ∀ l a, P l → P (l ++ [a])) : ∀ l, P l := by
  intro l
  have h : ∀ k : List α, P k.reverse := by
    intro k
    induction k with
    | nil => exact h0
    | cons a t ih => rw [List.reverse_cons]; exact h1 _ _ ih
  have := h l.reverse
  rwa [List.reverse_reverse] at this
theorem decs_nil (c : UInt8) : decs [] c = ⟨#[]⟩ := rfl
theorem decs_one (n : Int) (c : UInt8) : decs [n] c = dec n := by
  apply ba_ext
  show (Lib.join [(dec n).data.toList] [c]).toArray.toList = _
  rw [Lib.join_one]
theorem decs_snoc (l : List Int) (n : Int) (c : UInt8) (h : l ≠ []) : decs (l ++ [n]) c = decs l c ++ ⟨#[c]⟩ ++ dec n := by
  apply ba_ext
  rw [ba_app, ba_app]
  show (Lib.join ((l ++ [n]).map dec |>.map (·.data.toList)) [c]).toArray.toList = (Lib.join (l.map dec |>.map (·.data.toList)) [c]).toArray.toList ++ [c] ++ (dec n).data.toList
  rw [List.map_append, List.map_append]
  have := join_snoc ((l.map dec).map (·.data.toList)) (dec n).data.toList [c] (by cases l with | nil => exact absurd rfl h | cons a b => simp)
  simp only [List.map_cons, List.map_nil] at this ⊢
  rw [this]
theorem decs_size (l : List Int) (c : UInt8) (h : InR l) : (decs l c).size ≤ 22 * l.length := by
  revert h
  refine rev_ind (P := fun l => InR l → (decs l c).size ≤ 22 * l.length) (fun _ => Nat.le_refl _) ?_ l
  · intro l n ih h
    have h1 := ih fun m hm => h m (List.mem_append_left _ hm)
    have h2 := h n (List.mem_append_right _ (List.mem_singleton.2 rfl))
    have h3 := dec_size n h2.1 h2.2
    by_cases hl : l = []
    · subst hl
      rw [List.nil_append, decs_one]
      simp
      omega
    · rw [decs_snoc l n c hl, ByteArray.size_append, ByteArray.size_append, List.length_append, List.length_singleton]
      have : (⟨#[c]⟩ : ByteArray).size = 1 := rfl
      omega
theorem decs_ne (l : List Int) (c : UInt8) (h : l ≠ []) : (decs l c).size ≠ 0 := by
  have hd : ∀ n, (dec n).size ≠ 0 := by
    intro n e
    have := itoa_ne n
    have h2 : (dec n).data.toList.length = 0 := by simpa using e
    rw [dec_list] at h2
    exact this (List.length_eq_zero_iff.1 h2)
  revert h
  refine rev_ind (P := fun l => l ≠ [] → (decs l c).size ≠ 0) (fun h => absurd rfl h) ?_ l
  · intro l n ih h
    have h3 := hd n
    by_cases hl : l = []
    · subst hl
      rw [List.nil_append, decs_one]
      exact h3
    · rw [decs_snoc l n c hl, ByteArray.size_append, ByteArray.size_append]
      omega
/-- What 'spaced' gives. -/
def spB (l : List Int) : ByteArray := if l = [] then ⟨#[45]⟩ else decs l 32
theorem spB_size (l : List Int) (h : InR l) : (spB l).size ≤ 22 * l.length + 1 := by
  unfold spB
  by_cases hl : l = []
  · rw [if_pos hl]; show (1 : Nat) ≤ _; omega
  · rw [if_neg hl]; have := decs_size l 32 h; omega
theorem str_info : (Tryd.prog.info? 9).map (fun i => (i.zero, i.size, i.bytes)) = some (some (.string ⟨#[]⟩), 1, 16) := by kernel_rfl
theorem InR.take {l : List Int} (h : InR l) (i : Nat) : InR (l.take i) := fun n hn => h n (List.mem_of_mem_take hn)
theorem cat_ok (a b : ByteArray) (h : a.size + b.size ≤ 9223372036854775807) : (9223372036854775807 < a.size + b.size) = False := eq_false (by omega)
end Go.Proofs.YtlakjonnkggomaaDoorW.PrintMore
