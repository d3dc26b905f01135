/-
  CodeOf answers as the reference, for all arguments.
-/
import Derived.Test.YtjelhemaohjkdaaVc0
import Derived.Test.YtjelhemaohjkdaaVc1
import Derived.Test.YtjelhemaohjkdaaVc2
import Derived.Test.YtjelhemaohjkdaaVc3
import Derived.Test.YtjelhemaohjkdaaVc4
import Derived.Test.YtjelhemaohjkdaaLibFnExactCodeOf
namespace Go.Proofs.Ytjelhemaohjkdaa.Pure
open Go.RowKit Go.Proofs.Ytjelhemaohjkdaa.Vc Go.Proofs.YtjelhemaohjkdaaW.PrintWords Go.Proofs.YtjelhemaohjkdaaW.PrintLast Go.Proofs.YtjelhemaohjkdaaW.PrintMore
set_option linter.unusedVariables false
set_option linter.unusedSimpArgs false
/-- Texts, each behind a blank. -/
def jt : List ByteArray → ByteArray
  | [] => ⟨#[]⟩
  | x :: r => (⟨#[32]⟩ ++ x) ++ jt r
theorem ba_list (a : ByteArray) : (⟨a.data.toList.toArray⟩ : ByteArray) = a := by cases a; rfl
theorem ba_app (a b : List UInt8) : (⟨(a ++ b).toArray⟩ : ByteArray) = ⟨a.toArray⟩ ++ ⟨b.toArray⟩ := by
  apply ByteArray.ext
  simp [ByteArray.data_append]
theorem jt_eq : ∀ r : List ByteArray, jt r = ⟨(Lib.joinTail [32] (r.map (·.data.toList))).toArray⟩
  | [] => rfl
  | x :: r => by
    rw [jt, jt_eq r]
    have : Lib.joinTail [32] ((x :: r).map (·.data.toList)) = ([32] ++ x.data.toList) ++ Lib.joinTail [32] (r.map (·.data.toList)) := by simp [Lib.joinTail]
    rw [this, ba_app, ba_app, ba_list]
theorem joinB_cons (x : ByteArray) (r : List ByteArray) : joinB (x :: r) ⟨#[32]⟩ = x ++ jt r := by
  unfold joinB
  rw [List.map_cons, Lib.join_cons, ba_app, ba_list, jt_eq]
theorem l7_tail (l : List ByteArray) (hz : ∀ x ∈ l, x.size ≤ 2) (hl : l.length ≤ 1000) : ∀ (d i k : Nat) (acc : ByteArray), d = l.length - i → 1 ≤ i → i ≤ l.length → d < k → acc.size ≤ 10 * i → spec_l7Text.l0 k acc l (l.length : Int) (i : Int) = some (acc ++ jt (l.drop i)) := by
  intro d
  induction d with
  | zero =>
    intro i k acc hd h1 hi hk _
    obtain ⟨k, rfl⟩ : ∃ j, k = j + 1 := ⟨k - 1, by omega⟩
    rw [spec_l7Text.l0, if_neg (by omega), show i = l.length from by omega, List.drop_length]
    congr 1
    apply ByteArray.ext
    simp [jt, ByteArray.data_append]
  | succ d ih =>
    intro i k acc hd h1 hi hk ha
    obtain ⟨k, rfl⟩ : ∃ j, k = j + 1 := ⟨k - 1, by omega⟩
    have hlt : i < l.length := by omega
    have hx : rdOf ByteArray.empty l (i : Int) = l[i] := by
      unfold rdOf
      rw [List.getD_eq_getElem?_getD, show ((i : Nat) : Int).toNat = i from by omega, List.getElem?_eq_getElem hlt]
      rfl
    have hxz := hz _ (List.getElem_mem hlt)
    have h32 : (⟨#[32]⟩ : ByteArray).size = 1 := rfl
    rw [spec_l7Text.l0, if_pos (by omega), if_pos (by omega), if_pos (by omega), if_pos (by omega), if_pos (by omega), hx, if_pos (by rw [ByteArray.size_append]; omega), show wrap64 ((i : Int) + 1) = ((i + 1 : Nat) : Int) from by unfold wrap64; omega,
      ih (i + 1) k _ (by omega) (by omega) (by omega) (by omega) (by rw [ByteArray.size_append, ByteArray.size_append]; omega), List.drop_eq_getElem_cons hlt, jt]
    congr 1
    apply ByteArray.ext
    simp [ByteArray.data_append, Array.append_assoc]
theorem l7_text (x : ByteArray) (r : List ByteArray) (k : Nat) (hz : ∀ y ∈ x :: r, y.size ≤ 2) (hl : (x :: r).length ≤ 1000) (hk : 1001 < k) : spec_l7Text.f k (x :: r) = some (joinB (x :: r) ⟨#[32]⟩) := by
  obtain ⟨k, rfl⟩ : ∃ j, k = j + 1 := ⟨k - 1, by omega⟩
  have h0 : (⟨#[]⟩ : ByteArray).size = 0 := rfl
  have hx := hz x List.mem_cons_self
  have hr : rdOf ByteArray.empty (x :: r) 0 = x := rfl
  have hlen : (x :: r).length = r.length + 1 := rfl
  unfold spec_l7Text.f
  rw [spec_l7Text.l0, if_pos (by omega), if_pos (by omega), if_pos (by omega), if_neg (by omega), hr, if_pos (by omega), show wrap64 ((0 : Int) + 1) = ((1 : Nat) : Int) from by unfold wrap64; omega,
    l7_tail (x :: r) hz hl _ 1 k _ rfl (by omega) (by omega) (by omega) (by rw [ByteArray.size_append]; omega), joinB_cons]
  congr 1
theorem s1 (c : UInt8) : strOfNums [(c.toNat : Int)] = ch c := by
  apply ByteArray.ext
  have := c.toNat_lt
  simp [strOfNums, ch]
theorem s2 (c : UInt8) : strOfNums [((c.toNat : Int) + 2) % 256] = ch (c + 2) := by
  have : ((c.toNat : Int) + 2) % 256 = ((c + 2).toNat : Int) := by rw [UInt8.toNat_add]; simp
  rw [this, s1]
theorem rd0 (x : S38) (l : List S38) : rd_T38 (x :: l) 0 = x := rfl
theorem rd1 (x y : S38) (l : List S38) : rd_T38 (x :: y :: l) 1 = y := rfl
theorem l7_list : ∀ (t : Tm) (k : Nat), t.wf → t.tx.size ≤ 500 → t.cs.length ≤ k → spec_l7List.f k (tm38 t).f0 (tm38 t).f1 (tm38 t).f2 = some t.cs := by
  intro t
  induction t with
  | leaf c =>
    intro k _ _ hk
    obtain ⟨k, rfl⟩ : ∃ j, k = j + 1 := ⟨k - 1, by simp [Tm.cs] at hk; omega⟩
    rw [spec_l7List.f]
    simp only [tm38, Option.bind_some, List.length_nil, Int.natCast_zero, if_true, Tm.cs, s1]
  | un c x ih =>
    intro k hw hz hk
    obtain ⟨k, rfl⟩ : ∃ j, k = j + 1 := ⟨k - 1, by simp [Tm.cs] at hk; omega⟩
    have h1 := cs_len x
    simp only [Tm.cs, List.length_append, List.length_singleton] at hk
    simp only [Tm.tx, ByteArray.size_append] at hz
    have hi := ih k hw (by omega) (by omega)
    rw [spec_l7List.f]
    simp only [tm38, Option.bind_some, List.length_singleton, rd0, hi, Tm.cs, s1]
    rw [if_neg (by decide), if_pos (by decide), if_pos (by decide), if_pos (by omega)]
  | bin c x y ih1 ih2 =>
    intro k hw hz hk
    obtain ⟨k, rfl⟩ : ∃ j, k = j + 1 := ⟨k - 1, by simp [Tm.cs] at hk; omega⟩
    have h1 := cs_len x
    have h2 := cs_len y
    simp only [Tm.cs, List.length_append, List.length_singleton] at hk
    simp only [Tm.tx, ByteArray.size_append] at hz
    have hi := ih1 k hw.1 (by omega) (by omega)
    have hj := ih2 k hw.2 (by omega) (by omega)
    rw [spec_l7List.f]
    simp only [tm38, Option.bind_some, List.length_cons, List.length_nil, rd0, rd1, hi, hj, Tm.cs, s1]
    rw [if_neg (by decide), if_neg (by decide), if_pos (by decide), if_pos (by decide), if_pos (by decide), if_pos (by omega), if_pos (by rw [List.length_append]; omega)]
  | loop c u x y ih1 ih2 =>
    intro k hw hz hk
    obtain ⟨k, rfl⟩ : ∃ j, k = j + 1 := ⟨k - 1, by simp [Tm.cs] at hk; omega⟩
    have h1 := cs_len x
    have h2 := cs_len y
    simp only [Tm.cs, List.length_append, List.length_singleton] at hk
    simp only [Tm.tx, ByteArray.size_append] at hz
    have hi := ih1 k hw.2.2.1 (by omega) (by omega)
    have hj := ih2 k hw.2.2.2 (by omega) (by omega)
    have z1 : (ch c).size = 1 := rfl
    have z2 : (ch u).size = 1 := rfl
    rw [spec_l7List.f]
    simp only [tm38, Option.bind_some, List.length_cons, List.length_nil, rd0, rd1, hi, hj, Tm.cs, s1, s2]
    rw [if_neg (by decide), if_neg (by decide), if_pos (by decide), if_neg hw.2.1, if_pos (by omega), if_pos (by omega), if_pos (by decide), if_pos (by simp only [List.length_append, List.length_cons, List.length_nil]; omega), if_pos (by simp only [List.length_append, List.length_cons, List.length_nil]; omega)]
theorem FnExactCodeOf : laws_FnExactCodeOf.Pure := by
  intro c _
  refine ⟨2000, ?_⟩
  unfold laws_FnExactCodeOf.f
  by_cases hs : (c.size : Int) > 1048576
  · rw [if_pos hs]
  rw [if_neg hs]
  unfold spec_CodeOf.f impl_CodeOf.f
  rw [if_pos (by omega)]
  cases ht : tmOf c.data.toList with
  | none => simp only [Option.elim_none, Option.bind_some]; rfl
  | some t =>
    have hz := (tmOf_tx ht).2
    have hcl := cs_len t
    simp only [Option.elim_some]
    rw [l7_list t 2000 (tmOf_wf ht) (by omega) (by omega)]
    simp only [Option.bind_some]
    cases hc : t.cs with
    | nil => rw [hc] at hcl; simp at hcl
    | cons x r =>
      rw [l7_text x r 2000 (fun y hy => cs_sz t y (hc ▸ hy)) (by rw [← hc]; omega) (by omega)]
      simp only [Option.bind_some, if_true, bne_self_eq_false]
      rfl
end Go.Proofs.Ytjelhemaohjkdaa.Pure
