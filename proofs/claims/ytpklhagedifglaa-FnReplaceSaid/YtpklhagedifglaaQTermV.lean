/-
  Cut to what this claim uses.
-/
import Derived.BigRegion
import Derived.Shelf.Strings.Builder1
import Derived.Shelf.Strings.Builder2
import Derived.Shelf.Strings.OnBuilder
import Derived.Test.YtpklhagedifglaaQTermT
import Derived.Test.YtpklhagedifglaaQTermU
namespace Go.Proofs.YtpklhagedifglaaW.PrintMore
set_option linter.unusedVariables false
set_option linter.unusedSimpArgs false
open Go.Proofs Go.Deep Go.Shelf
open Go.RowKit Go.Proofs.YtpklhagedifglaaW.PrintWords Go.Proofs.YtpklhagedifglaaW.PrintLast Go.Proofs.YtpklhagedifglaaW.PrintMore
def tm_join_ren : Go.Shelf.Ren := ⟨fun | 156 => 26 | 165 => 49 | 166 => 50 | 169 => 51 | 240 => 67 | 241 => 68 | 276 => 75 | 277 => 76 | n => n, fun | 31 => 27 | 9 => 9 | 3 => 3 | 4 => 4 | 0 => 0 | 20 => 20 | 72 => 87 | 76 => 91 | 70 => 85 | 37 => 22 | 75 => 90 | 127 => 101 | 164 => 108 | 5 => 5 | 80 => 59 | n => n, fun | n => n⟩
theorem tm_join : Go.Proofs.Lays.n156 Try.prog tm_join_ren := {
  mixed := by kernel_rfl
  f156 := Try.func26.trans (congrArg some (by kernel_rfl))
  f165 := Try.func49.trans (congrArg some (by kernel_rfl))
  f166 := Try.func50.trans (congrArg some (by kernel_rfl))
  f169 := Try.func51.trans (congrArg some (by kernel_rfl))
  f240 := Try.func67.trans (congrArg some (by kernel_rfl))
  f241 := Try.func68.trans (congrArg some (by kernel_rfl))
  f276 := Try.func75.trans (congrArg some (by kernel_rfl))
  f277 := Try.func76.trans (congrArg some (by kernel_rfl))
  t0 := Try.underlying0
  a0 := Try.isAgg0
  z0 := Try.sizeOf0
  v0 := Try.zeroValue0
  t3 := Try.underlying3
  a3 := Try.isAgg3
  z3 := Try.sizeOf3
  v3 := Try.zeroValue3
  t4 := Try.underlying4
  a4 := Try.isAgg4
  z4 := Try.sizeOf4
  v4 := Try.zeroValue4
  t9 := Try.underlying9
  a9 := Try.isAgg9
  z9 := Try.sizeOf9
  v9 := Try.zeroValue9
  t20 := Try.underlying20
  a20 := Try.isAgg20
  z20 := Try.sizeOf20
  v20 := Try.zeroValue20
  t31 := Try.underlying27
  a31 := Try.isAgg27
  z31 := Try.sizeOf27
  v31 := Try.zeroValue27
  t37 := Try.underlying22
  a37 := Try.isAgg22
  z37 := Try.sizeOf22
  v37 := Try.zeroValue22
  t70 := Try.underlying85
  a70 := Try.isAgg85
  z70 := Try.sizeOf85
  v70 := Try.zeroValue85
  t72 := Try.underlying87
  a72 := Try.isAgg87
  z72 := Try.sizeOf87
  v72 := Try.zeroValue87
  t75 := Try.underlying90
  a75 := Try.isAgg90
  z75 := Try.sizeOf90
  v75 := Try.zeroValue90
  t76 := Try.underlying91
  a76 := Try.isAgg91
  z76 := Try.sizeOf91
  v76 := Try.zeroValue91
  t127 := Try.underlying101
  a127 := Try.isAgg101
  z127 := Try.sizeOf101
  v127 := Try.zeroValue101
  t164 := Try.underlying108
  a164 := Try.isAgg108
  z164 := Try.sizeOf108
  v164 := Try.zeroValue108 }
theorem tm_joinX : Builder.Extra Try.prog tm_join_ren := {
  sizeBuilder := by kernel_rfl
  liesBuilder := by kernel_rfl
  t5 := Try.underlying5
  a5 := Try.isAgg5
  z5 := Try.sizeOf5
  v5 := Try.zeroValue5
  infoByte := by kernel_rfl
  cellsByte := by kernel_rfl
  sizeByte := by kernel_rfl
  neB5 := by decide }
/-- Texts with another one between them. -/
def joinB (xs : List ByteArray) (sep : ByteArray) : ByteArray := ⟨(Lib.join (xs.map (·.data.toList)) sep.data.toList).toArray⟩
theorem tm_Join (v : Value) (base : Nat) (xs : List ByteArray) (sep : ByteArray) (w : World) (h : Kd.R Kd.string 9 w base (fun _ => True) v xs) (h0 : 0 < xs.length) (hN : xs.length ≤ 1000) (hl : (Lib.join (xs.map (·.data.toList)) sep.data.toList).length ≤ 140737488355328) :
    Calls Try.prog 26 #[v, .string sep] w fun e w' => e = .returned (.string (joinB xs sep)) ∧ Below w.heap.size w w' := by
  have ho := Kd.own_of_R h
  rcases ho.2 with ⟨rfl, hn⟩ | ⟨g, cap, cur, rfl, hg, hh, hle, hrest⟩
  · omega
  · refine Any.strings_Join tm_join tm_joinX g 0 cap xs sep w (fun j x hx => ?_) (blk_lt hh) (by omega) ?_ hl
    · have hj : j < xs.length := (List.getElem?_eq_some_iff.1 hx).1
      have := (Kd.R_celln (⟨#[]⟩ : ByteArray) h (j : Int) (by omega) (by omega)).1
      rw [show (0 : Nat) + j = ((j : Nat) : Int).toNat from by omega, this]
      unfold rdOf
      rw [List.getD_eq_getElem?_getD, show ((j : Nat) : Int).toNat = j from by omega, hx]
      rfl
    · exact hle
theorem cs_len : ∀ (t : Tm), 1 ≤ t.cs.length ∧ t.cs.length ≤ t.tx.size := by
  intro t
  induction t with
  | leaf c => exact ⟨Nat.le_refl _, Nat.le_refl _⟩
  | un c x ih => simp only [Tm.cs, Tm.tx, List.length_append, List.length_singleton, ByteArray.size_append]; have : (ch c).size = 1 := rfl; omega
  | bin c x y ih1 ih2 => simp only [Tm.cs, Tm.tx, List.length_append, List.length_singleton, ByteArray.size_append]; have : (ch c).size = 1 := rfl; omega
  | loop c u x y ih1 ih2 =>
    simp only [Tm.cs, Tm.tx, List.length_append, List.length_singleton, ByteArray.size_append]
    have h1 : (ch c).size = 1 := rfl
    have h2 : (ch u).size = 1 := rfl
    have h3 : (ch (c + 2)).size = 1 := rfl
    have h4 : (⟨#[58]⟩ : ByteArray).size = 1 := rfl
    omega
end Go.Proofs.YtpklhagedifglaaW.PrintMore
