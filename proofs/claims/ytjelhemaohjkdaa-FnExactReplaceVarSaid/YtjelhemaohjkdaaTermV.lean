/-
  The instructions of a term, joined: the program's CodeOf. (The laying of strings.Join's closure: plain text by the shelf's own tool, at seat r4.)
-/
import Derived.BigRegion
import Derived.Shelf.Strings.Builder1
import Derived.Shelf.Strings.Builder2
import Derived.Shelf.Strings.OnBuilder
import Derived.Test.YtjelhemaohjkdaaTermU
import Derived.Test.YtjelhemaohjkdaaTermT
namespace Go.Proofs.YtjelhemaohjkdaaW.PrintMore
set_option linter.unusedVariables false
set_option linter.unusedSimpArgs false
open Go.Proofs Go.Deep Go.Shelf
open Go.RowKit Go.Proofs.YtjelhemaohjkdaaW.PrintWords Go.Proofs.YtjelhemaohjkdaaW.PrintLast Go.Proofs.YtjelhemaohjkdaaW.PrintMore
def tm_join_ren : Go.Shelf.Ren := ⟨fun | 156 => 53 | 165 => 70 | 166 => 71 | 169 => 72 | 240 => 92 | 241 => 93 | 276 => 103 | 277 => 104 | n => n, fun | 31 => 25 | 9 => 9 | 3 => 3 | 4 => 4 | 0 => 0 | 20 => 20 | 72 => 80 | 76 => 84 | 70 => 78 | 37 => 33 | 75 => 83 | 127 => 104 | 164 => 111 | 5 => 5 | 80 => 49 | n => n, fun | n => n⟩
theorem tm_join : Go.Proofs.Lays.n156 Try.prog tm_join_ren := {
  mixed := by kernel_rfl
  f156 := Try.func53.trans (congrArg some (by kernel_rfl))
  f165 := Try.func70.trans (congrArg some (by kernel_rfl))
  f166 := Try.func71.trans (congrArg some (by kernel_rfl))
  f169 := Try.func72.trans (congrArg some (by kernel_rfl))
  f240 := Try.func92.trans (congrArg some (by kernel_rfl))
  f241 := Try.func93.trans (congrArg some (by kernel_rfl))
  f276 := Try.func103.trans (congrArg some (by kernel_rfl))
  f277 := Try.func104.trans (congrArg some (by kernel_rfl))
  t0 := Try.underlying0
  a0 := Try.isAgg0
  z0 := Try.sizeOf0
  v0 := Try.zeroValue0
  t3 := Try.underlying3
  a3 := Try.isAgg3
  z3 := Try.sizeOf3
  v3 := Try.zeroValue3
  t4 := Try.underlying4
  a4 := Try.isAgg4
  z4 := Try.sizeOf4
  v4 := Try.zeroValue4
  t9 := Try.underlying9
  a9 := Try.isAgg9
  z9 := Try.sizeOf9
  v9 := Try.zeroValue9
  t20 := Try.underlying20
  a20 := Try.isAgg20
  z20 := Try.sizeOf20
  v20 := Try.zeroValue20
  t31 := Try.underlying25
  a31 := Try.isAgg25
  z31 := Try.sizeOf25
  v31 := Try.zeroValue25
  t37 := Try.underlying33
  a37 := Try.isAgg33
  z37 := Try.sizeOf33
  v37 := Try.zeroValue33
  t70 := Try.underlying78
  a70 := Try.isAgg78
  z70 := Try.sizeOf78
  v70 := Try.zeroValue78
  t72 := Try.underlying80
  a72 := Try.isAgg80
  z72 := Try.sizeOf80
  v72 := Try.zeroValue80
  t75 := Try.underlying83
  a75 := Try.isAgg83
  z75 := Try.sizeOf83
  v75 := Try.zeroValue83
  t76 := Try.underlying84
  a76 := Try.isAgg84
  z76 := Try.sizeOf84
  v76 := Try.zeroValue84
  t127 := Try.underlying104
  a127 := Try.isAgg104
  z127 := Try.sizeOf104
  v127 := Try.zeroValue104
  t164 := Try.underlying111
  a164 := Try.isAgg111
  z164 := Try.sizeOf111
  v164 := Try.zeroValue111 }
theorem tm_joinX : Builder.Extra Try.prog tm_join_ren := {
  sizeBuilder := by kernel_rfl
  liesBuilder := by kernel_rfl
  t5 := Try.underlying5
  a5 := Try.isAgg5
  z5 := Try.sizeOf5
  v5 := Try.zeroValue5
  infoByte := by kernel_rfl
  cellsByte := by kernel_rfl
  sizeByte := by kernel_rfl
  neB5 := by decide }
/-- Texts with another one between them. -/
def joinB (xs : List ByteArray) (sep : ByteArray) : ByteArray := ⟨(Lib.join (xs.map (·.data.toList)) sep.data.toList).toArray⟩
theorem tm_Join (v : Value) (base : Nat) (xs : List ByteArray) (sep : ByteArray) (w : World) (h : Kd.R Kd.string 9 w base (fun _ => True) v xs) (h0 : 0 < xs.length) (hN : xs.length ≤ 1000) (hl : (Lib.join (xs.map (·.data.toList)) sep.data.toList).length ≤ 140737488355328) :
    Calls Try.prog 53 #[v, .string sep] w fun e w' => e = .returned (.string (joinB xs sep)) ∧ Below w.heap.size w w' := by
  have ho := Kd.own_of_R h
  rcases ho.2 with ⟨rfl, hn⟩ | ⟨g, cap, cur, rfl, hg, hh, hle, hrest⟩
  · omega
  · refine Any.strings_Join tm_join tm_joinX g 0 cap xs sep w (fun j x hx => ?_) (blk_lt hh) (by omega) ?_ hl
    · have hj : j < xs.length := (List.getElem?_eq_some_iff.1 hx).1
      have := (Kd.R_celln (⟨#[]⟩ : ByteArray) h (j : Int) (by omega) (by omega)).1
      rw [show (0 : Nat) + j = ((j : Nat) : Int).toNat from by omega, this]
      unfold rdOf
      rw [List.getD_eq_getElem?_getD, show ((j : Nat) : Int).toNat = j from by omega, hx]
      rfl
    · exact hle
theorem cs_len : ∀ (t : Tm), 1 ≤ t.cs.length ∧ t.cs.length ≤ t.tx.size := by
  intro t
  induction t with
  | leaf c => exact ⟨Nat.le_refl _, Nat.le_refl _⟩
  | un c x ih => simp only [Tm.cs, Tm.tx, List.length_append, List.length_singleton, ByteArray.size_append]; have : (ch c).size = 1 := rfl; omega
  | bin c x y ih1 ih2 => simp only [Tm.cs, Tm.tx, List.length_append, List.length_singleton, ByteArray.size_append]; have : (ch c).size = 1 := rfl; omega
  | loop c u x y ih1 ih2 =>
    simp only [Tm.cs, Tm.tx, List.length_append, List.length_singleton, ByteArray.size_append]
    have h1 : (ch c).size = 1 := rfl
    have h2 : (ch u).size = 1 := rfl
    have h3 : (ch (c + 2)).size = 1 := rfl
    have h4 : (⟨#[58]⟩ : ByteArray).size = 1 := rfl
    omega
theorem cs_sz : ∀ (t : Tm), ∀ x, x ∈ t.cs → x.size ≤ 2 := by
  intro t
  induction t with
  | leaf c => intro x hx; simp only [Tm.cs, List.mem_singleton] at hx; subst hx; show (1 : Nat) ≤ 2; omega
  | un c x ih =>
    intro z hz
    simp only [Tm.cs, List.mem_append, List.mem_singleton] at hz
    rcases hz with hz | rfl
    · exact ih _ hz
    · show (1 : Nat) ≤ 2; omega
  | bin c x y ih1 ih2 =>
    intro z hz
    simp only [Tm.cs, List.mem_append, List.mem_singleton] at hz
    rcases hz with (hz | hz) | rfl
    · exact ih1 _ hz
    · exact ih2 _ hz
    · show (1 : Nat) ≤ 2; omega
  | loop c u x y ih1 ih2 =>
    intro z hz
    simp only [Tm.cs, List.mem_append, List.mem_singleton] at hz
    rcases hz with ((hz | rfl) | hz) | rfl
    · exact ih1 _ hz
    · rw [ByteArray.size_append]; show (1 : Nat) + 1 ≤ 2; omega
    · exact ih2 _ hz
    · show (1 : Nat) ≤ 2; omega
theorem lens_le : ∀ (l : List ByteArray), (∀ x, x ∈ l → x.size ≤ 2) → Lib.lens (l.map (·.data.toList)) ≤ 2 * l.length := by
  intro l
  induction l with
  | nil => intro _; simp [Lib.lens]
  | cons a l ih =>
    intro h
    have h1 := ih fun x hx => h x (List.mem_cons_of_mem _ hx)
    have h2 := h a List.mem_cons_self
    rw [size_list] at h2
    simp only [Lib.lens, List.map_cons, List.sum_cons, List.length_cons] at h1 ⊢
    omega
theorem join_le (t : Tm) (h : t.tx.size ≤ 500) : (Lib.join (t.cs.map (·.data.toList)) [32]).length ≤ 140737488355328 := by
  have h1 := cs_len t
  have h2 := lens_le t.cs (cs_sz t)
  cases hc : t.cs with
  | nil => rw [hc] at h1; simp at h1
  | cons x r =>
    rw [hc] at h1 h2
    rw [List.map_cons, Lib.join_cons, List.length_append, Lib.joinTail_length, show ([32] : List UInt8).length = 1 from rfl, Nat.one_mul]
    simp only [Lib.lens, List.map_cons, List.sum_cons, List.length_cons, List.length_map, List.length_singleton] at h1 h2 ⊢
    omega
def itL (f : Nat → List ByteArray → List ByteArray) : Nat → List ByteArray
  | 0 => []
  | n + 1 => f n (itL f n)
set_option maxHeartbeats 1000000 in
theorem instr_walk : ∀ (t : Tm) (q : Nat) (w : World), t.wf → t.tx.size ≤ 500 → TmAt w (.pointer (some ⟨q, 0, none⟩)) t → Calls Try.prog 54 #[.pointer (some ⟨q, 0, none⟩)] w fun e w' => ∃ v, e = .returned v ∧ Kd.R Kd.string 9 w' w.heap.size (fun _ => True) v t.cs ∧ Below w.heap.size w w' := by
  intro t
  induction t with
  | leaf c =>
    rintro q w hw hz ⟨p, hp, h0, h1, h2⟩
    obtain rfl : q = p := by injection hp with h; injection h with h; injection h
    exact instr_node w q none 0 0 (itL fun j s => (if j = 1 ∧ false = true then s ++ [ch c ++ ⟨#[]⟩] else s) ++ []) (fun _ => []) (ch c) ⟨#[]⟩ (ch c) false (by omega) h0 h1 h2 (by first | (show (1 : Nat) + 0 ≤ 1000; decide) | (show (1 : Nat) + 1 ≤ 1000; decide)) (fun W h => loop_no W q h) (fun h => by cases h) (fun _ => rfl) (fun j h => by omega) rfl (fun j hj => (by
      have : j = 0 := by omega
      subst this
      simp [itL])) (fun j => rfl)
  | un c x ih =>
    rintro q w hw hz ⟨p, a, xv, k, hp, h0, h1, h2, h3, h4, h5⟩
    obtain rfl : q = p := by injection hp with h; injection h with h; injection h
    obtain ⟨r, rfl⟩ := tm_ptr0 h5
    have l1 := cs_len x
    simp only [Tm.tx, ByteArray.size_append] at hz
    exact instr_node w q (some a) 1 k (itL fun j s => (if j = 1 ∧ false = true then s ++ [ch c ++ ⟨#[]⟩] else s) ++ x.cs) (fun j => x.cs) (ch c) ⟨#[]⟩ (ch c) false (by omega) h0 h1 h2 (by first | (show (1 : Nat) + 0 ≤ 1000; decide) | (show (1 : Nat) + 1 ≤ 1000; decide)) (fun W h => loop_no W q h) (fun h => by cases h) (fun _ => rfl) (fun j h => by
      have : j = 0 := by omega
      subst this
      exact ⟨by omega, a, r, rfl, h4, fun W hb => ih r W hw (by omega) (tm_below hb h5)⟩) rfl (fun j hj => by
      have : j = 0 ∨ j = 1 := by omega
      rcases this with rfl | rfl <;> simp [itL]
      omega) (fun j => rfl)
  | bin c x y ih1 ih2 =>
    rintro q w hw hz ⟨p, a, xv, yv, k, hp, h0, h1, h2, h3, h4, h5, h6, h7⟩
    obtain rfl : q = p := by injection hp with h; injection h with h; injection h
    obtain ⟨r, rfl⟩ := tm_ptr0 h6
    obtain ⟨r2, rfl⟩ := tm_ptr0 h7
    have l1 := cs_len x
    have l2 := cs_len y
    simp only [Tm.tx, ByteArray.size_append] at hz
    have := instr_node w q (some a) 2 k (itL fun j s => (if j = 1 ∧ false = true then s ++ [ch c ++ ⟨#[]⟩] else s) ++ (if j = 0 then x.cs else y.cs)) (fun j => if j = 0 then x.cs else y.cs) (ch c) ⟨#[]⟩ (ch c) false (by omega) h0 h1 h2 (by first | (show (1 : Nat) + 0 ≤ 1000; decide) | (show (1 : Nat) + 1 ≤ 1000; decide)) (fun W h => loop_no W q h) (fun h => by cases h) (fun _ => rfl) (fun j h => by
      have : j = 0 ∨ j = 1 := by omega
      rcases this with rfl | rfl
      · exact ⟨by show x.cs.length ≤ 1000; omega, a, r, rfl, h4, fun W hb => ih1 r W hw.1 (by omega) (tm_below hb h6)⟩
      · exact ⟨by show y.cs.length ≤ 1000; omega, a, r2, rfl, h5, fun W hb => ih2 r2 W hw.2 (by omega) (tm_below hb h7)⟩) rfl (fun j hj => by
      have : j = 0 ∨ j = 1 ∨ j = 2 := by omega
      rcases this with rfl | rfl | rfl <;> simp [itL] <;> omega) (fun j => rfl)
    simpa [itL, Tm.cs] using this
  | loop c u x y ih1 ih2 =>
    rintro q w hw hz ⟨p, a, xv, yv, k, hp, h0, h1, h2, h3, h4, h5, h6, h7⟩
    obtain rfl : q = p := by injection hp with h; injection h with h; injection h
    obtain ⟨r, rfl⟩ := tm_ptr0 h6
    obtain ⟨r2, rfl⟩ := tm_ptr0 h7
    have l1 := cs_len x
    have l2 := cs_len y
    simp only [Tm.tx, ByteArray.size_append] at hz
    have := instr_node w q (some a) 2 k (itL fun j s => (if j = 1 ∧ true = true then s ++ [ch c ++ ch u] else s) ++ (if j = 0 then x.cs else y.cs)) (fun j => if j = 0 then x.cs else y.cs) (ch c) (ch u) (ch (c + 2)) true (by omega) h0 h1 h2 (by first | (show (1 : Nat) + 0 ≤ 1000; decide) | (show (1 : Nat) + 1 ≤ 1000; decide)) (fun W h => loop_yes W q u h) (fun _ W => tm_ends c hw.1 W) (fun h => by cases h) (fun j h => by
      have : j = 0 ∨ j = 1 := by omega
      rcases this with rfl | rfl
      · exact ⟨by show x.cs.length ≤ 1000; omega, a, r, rfl, h4, fun W hb => ih1 r W hw.2.2.1 (by omega) (tm_below hb h6)⟩
      · exact ⟨by show y.cs.length ≤ 1000; omega, a, r2, rfl, h5, fun W hb => ih2 r2 W hw.2.2.2 (by omega) (tm_below hb h7)⟩) rfl (fun j hj => by
      have : j = 0 ∨ j = 1 ∨ j = 2 := by omega
      rcases this with rfl | rfl | rfl <;> simp [itL] <;> omega) (fun j => rfl)
    simpa [itL, Tm.cs] using this
set_option maxHeartbeats 1000000 in
theorem impl_CodeOf_walk (s : ByteArray) (w : World) : Calls Try.prog 30 #[.string s] w fun e w' => e = .returned ((tmOf s.data.toList).elim (.tuple #[.string ⟨#[]⟩, .bool false]) fun t => .tuple #[.string (joinB t.cs ⟨#[32]⟩), .bool true]) ∧ Below w.heap.size w w' := by
  go_enter Try.func30, Try.ntmps30
  go_wp2_with fail
  refine (termOf_walk s _).mono ?_
  rintro e w1 ⟨v, rfl, hb, hres⟩
  have HB := Aside0.mk hb
  clear hb
  rcases hres with ⟨t, hp, hat⟩ | ⟨hp, rfl⟩
  · obtain ⟨p, rfl⟩ := tm_ptr0 hat
    have HP := Aside0.mk hp
    have HA := Aside0.mk hat
    have HZ := Aside0.mk (show t.tx.size ≤ 500 from by
      have := (tmOf_tx hp).2
      omega)
    clear hp hat
    go_wp2_with fail
    refine (instr_walk t p _ (tmOf_wf HP.out) HZ.out HA.out).mono ?_
    rintro e w2 ⟨v2, rfl, hr, hb2⟩
    have HR := Aside0.mk hr
    have HB2 := Aside0.mk (HB.out.trans (hb2.mono HB.out.size))
    clear hb2 hr
    go_wp2_with fail
    refine (tm_Join v2 _ t.cs ⟨#[32]⟩ _ HR.out (cs_len t).1 (by have := (cs_len t).2; have := HZ.out; omega) (join_le t HZ.out)).mono ?_
    rintro e w3 ⟨rfl, hb3⟩
    have HB3 := Aside0.mk (HB2.out.trans (hb3.mono HB2.out.size))
    clear hb3
    go_wp2
    refine bodyPost_ret (results_tmp2 rfl _ _ _) rfl ⟨by rw [HP.out]; rfl, HB3.out⟩
  · have HP := Aside0.mk hp
    clear hp
    go_wp2
    refine bodyPost_ret (results_tmp2 rfl _ _ _) rfl ⟨by rw [HP.out]; rfl, HB.out⟩
end Go.Proofs.YtjelhemaohjkdaaW.PrintMore
