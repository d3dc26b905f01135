/-
  Cut to what this claim uses.
-/
import Derived.Test.YtjelhemaohjkdaaQTermC
namespace Go.Proofs.YtjelhemaohjkdaaW.PrintMore
set_option linter.unusedVariables false
set_option linter.unusedSimpArgs false
open Go.Proofs Go.Deep
open Go.RowKit Go.Proofs.YtjelhemaohjkdaaW.PrintWords
set_option maxHeartbeats 4000000 in
set_option maxRecDepth 100000 in
theorem size_node (w : World) (p : Nat) (A : Option Nat) (n k : Nat) (S c : Nat → Int) (hn : n ≤ 2) (h2 : w.cell? ⟨p, 2, none⟩ = some (.slice (A.map fun a => ⟨a, 0, none⟩) n k))
    (hk : ∀ j, j < n → ∃ a xv, A = some a ∧ w.cell? ⟨a, j, none⟩ = some xv ∧ ∀ W, Below w.heap.size w W → Calls Try.prog 42 #[xv] W fun e w' => e = .returned (.int .i64 (c j)) ∧ Below W.heap.size W w')
    (hS0 : S 0 = 1) (hS : ∀ j, S (j + 1) = wrap64 (S j + c j)) :
    Calls Try.prog 42 #[.pointer (some ⟨p, 0, none⟩)] w fun e w' => e = .returned (.int .i64 (S n)) ∧ Below w.heap.size w w' := by
  have HK := Aside0.mk hk
  have HS := Aside0.mk (And.intro hS0 hS)
  have HN := Aside0.mk hn
  clear hk hS0 hS hn
  go_enter Try.func42, Try.ntmps42
  go_wp2
  go_loopg [3, 11] n (fun kq v3 v11 w' => ∃ i : Nat, v3 = .int .i64 (S i) ∧ v11 = .int .i64 (i : Int) ∧ Aside0 (kq + i = n) ∧ Aside0 (Below w.heap.size w w'))
  case atStart => exact ⟨0, by rw [HS.out.1], rfl, ⟨by omega⟩, ⟨Below.refl _ _⟩⟩
  case round =>
    obtain ⟨i, rfl, rfl, HI, HB⟩ := hrel
    by_cases hi : i < n
    · have h1 : (i : Int) < (n : Int) := by omega
      have h0 : (0 : Int) ≤ (i : Int) := by omega
      obtain ⟨a, xv, rfl, hc, hcall⟩ := HK.out i hi
      have hc' : wr.cell? ⟨a, i, none⟩ = some xv := cell_keep HB.out _ _ hc
      have HC := Aside0.mk hcall
      have HH := Aside0.mk hi
      clear hcall hc hi
      go_wp2_with fail
      refine (HC.out wr HB.out).mono ?_
      rintro e w2 ⟨rfl, hb2⟩
      have HB2 := Aside0.mk (HB.out.trans (hb2.mono HB.out.size))
      have hw := HS.out.2 i
      have HW := Aside0.mk hw
      clear hb2 hc' hw
      go_wp2
      go_roundg (gk - 1)
      case measure => have := HI.out; have := HH.out; omega
      case rel =>
        refine ⟨i + 1, ?_, ?_, ⟨by have := HI.out; have := HH.out; omega⟩, HB2⟩
        · first | (rw [HW.out]; done) | (rw [HW.out]; rfl) | (rw [HW.out, wrap64]; rfl) | (rw [HW.out]; simp; done)
        · have := HN.out; have := HH.out
          have e1 : IntKind.i64.wrap ((i : Int) + 1) = ((i + 1 : Nat) : Int) := by rw [IntKind.wrap_i64]; omega
          have e2 : wrap64 ((i : Int) + 1) = ((i + 1 : Nat) : Int) := by rw [wrap64]; omega
          first | (rw [← e1]; done) | (rw [← e2]; done) | (simp [e1]; done) | (simp [e2]; done) | (show Value.int .i64 _ = _; rw [e1]; done) | (show Value.int .i64 _ = _; rw [e2])
    · have h1 : (n : Int) ≤ (i : Int) := by omega
      have HE := Aside0.mk (show i = n from by have := HI.out; omega)
      clear hi
      go_wp2
      go_ret
      exact ⟨by rw [← HE.out]; rfl, HB.out⟩
theorem loop_no (w : World) (p : Nat) (h : w.cell? ⟨p, 1, none⟩ = some (.string ⟨#[]⟩)) : Calls Try.prog 67 #[.pointer (some ⟨p, 0, none⟩)] w fun e w' => e = .returned (.bool false) ∧ w' = w := by
  go_enter Try.func67, Try.ntmps67
  go_wp2
  go_ret
  exact ⟨rfl, rfl⟩
theorem loop_yes (w : World) (p : Nat) (u : UInt8) (h : w.cell? ⟨p, 1, none⟩ = some (.string (ch u))) : Calls Try.prog 67 #[.pointer (some ⟨p, 0, none⟩)] w fun e w' => e = .returned (.bool true) ∧ w' = w := by
  go_enter Try.func67, Try.ntmps67
  go_wp2
  go_ret
  exact ⟨rfl, rfl⟩
/-- How many terms there are in a term. -/
def Tm.sz : Tm → Int
  | .leaf _ => 1
  | .un _ x => wrap64 (1 + x.sz)
  | .bin _ x y => wrap64 (wrap64 (1 + x.sz) + y.sz)
  | .loop _ _ x y => wrap64 (wrap64 (1 + x.sz) + y.sz)
/-- A value turned round by round. -/
def itS (z : Int) (f : Nat → Int → Int) : Nat → Int
  | 0 => z
  | j + 1 => f j (itS z f j)
theorem size_walk : ∀ (t : Tm) (v : Value) (w : World), TmAt w v t → Calls Try.prog 42 #[v] w fun e w' => e = .returned (.int .i64 t.sz) ∧ Below w.heap.size w w' := by
  have two : ∀ (x y : Tm) (ih1 : ∀ (v : Value) (w : World), TmAt w v x → Calls Try.prog 42 #[v] w fun e w' => e = .returned (.int .i64 x.sz) ∧ Below w.heap.size w w') (ih2 : ∀ (v : Value) (w : World), TmAt w v y → Calls Try.prog 42 #[v] w fun e w' => e = .returned (.int .i64 y.sz) ∧ Below w.heap.size w w')
      (w : World) (p a k : Nat) (xv yv : Value) (h2 : w.cell? ⟨p, 2, none⟩ = some (.slice (some ⟨a, 0, none⟩) 2 k)) (h4 : w.cell? ⟨a, 0, none⟩ = some xv) (h5 : w.cell? ⟨a, 1, none⟩ = some yv) (h6 : TmAt w xv x) (h7 : TmAt w yv y),
      Calls Try.prog 42 #[.pointer (some ⟨p, 0, none⟩)] w fun e w' => e = .returned (.int .i64 (wrap64 (wrap64 (1 + x.sz) + y.sz))) ∧ Below w.heap.size w w' := by
    intro x y ih1 ih2 w p a k xv yv h2 h4 h5 h6 h7
    exact size_node w p (some a) 2 k (itS 1 fun j s => wrap64 (s + if j = 0 then x.sz else y.sz)) (fun j => if j = 0 then x.sz else y.sz) (by omega) h2 (fun j h => by
      have : j = 0 ∨ j = 1 := by omega
      rcases this with rfl | rfl
      · exact ⟨a, xv, rfl, h4, fun W hb => ih1 xv W (tm_below hb h6)⟩
      · exact ⟨a, yv, rfl, h5, fun W hb => ih2 yv W (tm_below hb h7)⟩) rfl (fun j => rfl)
  intro t
  induction t with
  | leaf c =>
    rintro v w ⟨p, rfl, h0, h1, h2⟩
    exact size_node w p none 0 0 (itS 1 fun j s => wrap64 (s + 0)) (fun _ => 0) (by omega) h2 (fun j h => by omega) rfl (fun j => rfl)
  | un c x ih =>
    rintro v w ⟨p, a, xv, k, rfl, h0, h1, h2, h3, h4, h5⟩
    exact size_node w p (some a) 1 k (itS 1 fun j s => wrap64 (s + x.sz)) (fun j => x.sz) (by omega) h2 (fun j h => by
      have : j = 0 := by omega
      subst this
      exact ⟨a, xv, rfl, h4, fun W hb => ih xv W (tm_below hb h5)⟩) rfl (fun j => rfl)
  | bin c x y ih1 ih2 =>
    rintro v w ⟨p, a, xv, yv, k, rfl, h0, h1, h2, h3, h4, h5, h6, h7⟩
    exact two x y ih1 ih2 w p a k xv yv h2 h4 h5 h6 h7
  | loop c u x y ih1 ih2 =>
    rintro v w ⟨p, a, xv, yv, k, rfl, h0, h1, h2, h3, h4, h5, h6, h7⟩
    exact two x y ih1 ih2 w p a k xv yv h2 h4 h5 h6 h7
set_option maxHeartbeats 4000000 in
set_option maxRecDepth 100000 in
theorem levels_node (w : World) (p : Nat) (A : Option Nat) (n k : Nat) (S c : Nat → Int) (vs : ByteArray) (isl : Bool) (hn : n ≤ 2) (h1 : w.cell? ⟨p, 1, none⟩ = some (.string vs)) (h2 : w.cell? ⟨p, 2, none⟩ = some (.slice (A.map fun a => ⟨a, 0, none⟩) n k))
    (hl : ∀ W, W.cell? ⟨p, 1, none⟩ = some (.string vs) → Calls Try.prog 67 #[.pointer (some ⟨p, 0, none⟩)] W fun e w' => e = .returned (.bool isl) ∧ w' = W)
    (hk : ∀ j, j < n → ∃ a xv, A = some a ∧ w.cell? ⟨a, j, none⟩ = some xv ∧ ∀ W, Below w.heap.size w W → Calls Try.prog 44 #[xv] W fun e w' => e = .returned (.int .i64 (c j)) ∧ Below W.heap.size W w')
    (hS0 : S 0 = 0) (hS : ∀ j, S (j + 1) = max (S j) (if j = 1 ∧ isl = true then wrap64 (c j + 1) else c j)) :
    Calls Try.prog 44 #[.pointer (some ⟨p, 0, none⟩)] w fun e w' => e = .returned (.int .i64 (S n)) ∧ Below w.heap.size w w' := by
  have HK := Aside0.mk hk
  have HS := Aside0.mk (And.intro hS0 hS)
  have HN := Aside0.mk hn
  have HL := Aside0.mk hl
  have H1 := Aside0.mk h1
  clear hk hS0 hS hn hl h1
  go_enter Try.func44, Try.ntmps44
  go_wp2
  go_loopg [3, 12] n (fun kq v3 v12 w' => ∃ i : Nat, v3 = .int .i64 (S i) ∧ v12 = .int .i64 (i : Int) ∧ Aside0 (kq + i = n) ∧ Aside0 (Below w.heap.size w w'))
  case atStart => exact ⟨0, by rw [HS.out.1], rfl, ⟨by omega⟩, ⟨Below.refl _ _⟩⟩
  case round =>
    obtain ⟨i, rfl, rfl, HI, HB⟩ := hrel
    by_cases hi : i < n
    · have hlt : (i : Int) < (n : Int) := by omega
      have h0 : (0 : Int) ≤ (i : Int) := by omega
      obtain ⟨a, xv, rfl, hc, hcall⟩ := HK.out i hi
      have hc' : wr.cell? ⟨a, i, none⟩ = some xv := cell_keep HB.out _ _ hc
      have HC := Aside0.mk hcall
      have HH := Aside0.mk hi
      clear hcall hc hi
      go_wp2_with fail
      refine (HC.out wr HB.out).mono ?_
      rintro e w2 ⟨rfl, hb2⟩
      have HB2 := Aside0.mk (HB.out.trans (hb2.mono HB.out.size))
      have HW := Aside0.mk (HS.out.2 i)
      have e1 : IntKind.i64.wrap ((i : Int) + 1) = (i : Int) + 1 := by have := HN.out; have := HH.out; rw [IntKind.wrap_i64]; omega
      have HE1 := Aside0.mk e1
      clear hb2 hc' e1
      by_cases i1 : i = 1
      · have q1 : ((i : Int) == 1) = true := by simp; omega
        have HI1 := Aside0.mk i1
        clear i1
        cases isl with
        | true =>
          go_wp2_with (go_at_call 67; refine (HL.out _ (cell_keep HB2.out _ _ H1.out)).mono ?_; rintro e wz ⟨rfl, hw⟩; rw [hw]; clear hw wz)
          go_roundg (gk - 1)
          case measure => have := HI.out; have := HH.out; omega
          case rel =>
            refine ⟨i + 1, ?_, ?_, ⟨by have := HI.out; have := HH.out; omega⟩, HB2⟩
            · first | (rw [HW.out, if_pos (by simp [HI1.out])]; done) | (rw [HW.out, if_pos (by simp [HI1.out])]; rfl) | (rw [HW.out, if_pos (by simp [HI1.out])]; simp; done)
            · have := HN.out; have := HH.out
              have e1 : IntKind.i64.wrap ((i : Int) + 1) = ((i + 1 : Nat) : Int) := by rw [IntKind.wrap_i64]; omega
              have e2 : wrap64 ((i : Int) + 1) = ((i + 1 : Nat) : Int) := by rw [wrap64]; omega
              first | (rw [← e1]; done) | (rw [← e2]; done) | (simp [e1]; done) | (simp [e2]; done) | (show Value.int .i64 _ = _; rw [e1]; done) | (show Value.int .i64 _ = _; rw [e2])
        | false =>
          go_wp2_with (go_at_call 67; refine (HL.out _ (cell_keep HB2.out _ _ H1.out)).mono ?_; rintro e wz ⟨rfl, hw⟩; rw [hw]; clear hw wz)
          go_roundg (gk - 1)
          case measure => have := HI.out; have := HH.out; omega
          case rel =>
            refine ⟨i + 1, ?_, ?_, ⟨by have := HI.out; have := HH.out; omega⟩, HB2⟩
            · first | (rw [HW.out, if_neg (by simp)]; done) | (rw [HW.out, if_neg (by simp)]; rfl) | (rw [HW.out, if_neg (by simp)]; simp; done)
            · have := HN.out; have := HH.out
              have e1 : IntKind.i64.wrap ((i : Int) + 1) = ((i + 1 : Nat) : Int) := by rw [IntKind.wrap_i64]; omega
              have e2 : wrap64 ((i : Int) + 1) = ((i + 1 : Nat) : Int) := by rw [wrap64]; omega
              first | (rw [← e1]; done) | (rw [← e2]; done) | (simp [e1]; done) | (simp [e2]; done) | (show Value.int .i64 _ = _; rw [e1]; done) | (show Value.int .i64 _ = _; rw [e2])
      · have q1 : ((i : Int) == 1) = false := by simp; omega
        have HI1 := Aside0.mk i1
        clear i1
        go_wp2
        go_roundg (gk - 1)
        case measure => have := HI.out; have := HH.out; omega
        case rel =>
          refine ⟨i + 1, ?_, ?_, ⟨by have := HI.out; have := HH.out; omega⟩, HB2⟩
          · first | (rw [HW.out, if_neg (by simp [HI1.out])]; done) | (rw [HW.out, if_neg (by simp [HI1.out])]; rfl) | (rw [HW.out, if_neg (by simp [HI1.out])]; simp; done)
          · have := HN.out; have := HH.out
            have e1 : IntKind.i64.wrap ((i : Int) + 1) = ((i + 1 : Nat) : Int) := by rw [IntKind.wrap_i64]; omega
            have e2 : wrap64 ((i : Int) + 1) = ((i + 1 : Nat) : Int) := by rw [wrap64]; omega
            first | (rw [← e1]; done) | (rw [← e2]; done) | (simp [e1]; done) | (simp [e2]; done) | (show Value.int .i64 _ = _; rw [e1]; done) | (show Value.int .i64 _ = _; rw [e2])
    · have h1 : (n : Int) ≤ (i : Int) := by omega
      have HE := Aside0.mk (show i = n from by have := HI.out; omega)
      clear hi
      go_wp2
      go_ret
      exact ⟨by rw [← HE.out]; rfl, HB.out⟩
/-- Within how many second parts of loops something lies at most. -/
def Tm.lv : Tm → Int
  | .leaf _ => 0
  | .un _ x => max 0 x.lv
  | .bin _ x y => max (max 0 x.lv) y.lv
  | .loop _ _ x y => max (max 0 x.lv) (wrap64 (y.lv + 1))
theorem levels_walk : ∀ (t : Tm) (v : Value) (w : World), TmAt w v t → Calls Try.prog 44 #[v] w fun e w' => e = .returned (.int .i64 t.lv) ∧ Below w.heap.size w w' := by
  intro t
  induction t with
  | leaf c =>
    rintro v w ⟨p, rfl, h0, h1, h2⟩
    exact levels_node w p none 0 0 (itS 0 fun j s => max s (if j = 1 ∧ false = true then wrap64 (0 + 1) else 0)) (fun _ => 0) ⟨#[]⟩ false (by omega) h1 h2 (fun W h => loop_no W p h) (fun j h => by omega) rfl (fun j => rfl)
  | un c x ih =>
    rintro v w ⟨p, a, xv, k, rfl, h0, h1, h2, h3, h4, h5⟩
    exact levels_node w p (some a) 1 k (itS 0 fun j s => max s (if j = 1 ∧ false = true then wrap64 (x.lv + 1) else x.lv)) (fun j => x.lv) ⟨#[]⟩ false (by omega) h1 h2 (fun W h => loop_no W p h) (fun j h => by
      have : j = 0 := by omega
      subst this
      exact ⟨a, xv, rfl, h4, fun W hb => ih xv W (tm_below hb h5)⟩) rfl (fun j => rfl)
  | bin c x y ih1 ih2 =>
    rintro v w ⟨p, a, xv, yv, k, rfl, h0, h1, h2, h3, h4, h5, h6, h7⟩
    have := levels_node w p (some a) 2 k (itS 0 fun j s => max s (if j = 1 ∧ false = true then wrap64 ((if j = 0 then x.lv else y.lv) + 1) else (if j = 0 then x.lv else y.lv))) (fun j => if j = 0 then x.lv else y.lv) ⟨#[]⟩ false (by omega) h1 h2 (fun W h => loop_no W p h) (fun j h => by
      have : j = 0 ∨ j = 1 := by omega
      rcases this with rfl | rfl
      · exact ⟨a, xv, rfl, h4, fun W hb => ih1 xv W (tm_below hb h6)⟩
      · exact ⟨a, yv, rfl, h5, fun W hb => ih2 yv W (tm_below hb h7)⟩) rfl (fun j => rfl)
    simpa [itS, Tm.lv] using this
  | loop c u x y ih1 ih2 =>
    rintro v w ⟨p, a, xv, yv, k, rfl, h0, h1, h2, h3, h4, h5, h6, h7⟩
    have := levels_node w p (some a) 2 k (itS 0 fun j s => max s (if j = 1 ∧ true = true then wrap64 ((if j = 0 then x.lv else y.lv) + 1) else (if j = 0 then x.lv else y.lv))) (fun j => if j = 0 then x.lv else y.lv) (ch u) true (by omega) h1 h2 (fun W h => loop_yes W p u h) (fun j h => by
      have : j = 0 ∨ j = 1 := by omega
      rcases this with rfl | rfl
      · exact ⟨a, xv, rfl, h4, fun W hb => ih1 xv W (tm_below hb h6)⟩
      · exact ⟨a, yv, rfl, h5, fun W hb => ih2 yv W (tm_below hb h7)⟩) rfl (fun j => rfl)
    simpa [itS, Tm.lv] using this
set_option maxHeartbeats 1000000 in
theorem impl_SizeOfTerm_walk (s : ByteArray) (w : World) : Calls Try.prog 19 #[.string s] w fun e w' => e = .returned (.int .i64 ((tmOf s.data.toList).elim (-1) Tm.sz)) ∧ Below w.heap.size w w' := by
  go_enter Try.func19, Try.ntmps19
  go_wp2_with fail
  refine (termOf_walk s _).mono ?_
  rintro e w1 ⟨v, rfl, hb, hres⟩
  have HB := Aside0.mk hb
  clear hb
  rcases hres with ⟨t, hp, hat⟩ | ⟨hp, rfl⟩
  · obtain ⟨p, rfl⟩ := tm_ptr hat
    have HP := Aside0.mk hp
    have HA := Aside0.mk hat
    clear hp hat
    go_wp2_with fail
    refine (size_walk t _ _ HA.out).mono ?_
    rintro e w2 ⟨rfl, hb2⟩
    have HB2 := Aside0.mk (HB.out.trans (hb2.mono HB.out.size))
    clear hb2
    go_wp2
    go_ret
    exact ⟨by rw [HP.out]; rfl, HB2.out⟩
  · have HP := Aside0.mk hp
    clear hp
    go_wp2
    go_ret
    exact ⟨by rw [HP.out]; rfl, HB.out⟩
set_option maxHeartbeats 1000000 in
theorem impl_LevelsOf_walk (s : ByteArray) (w : World) : Calls Try.prog 21 #[.string s] w fun e w' => e = .returned (.int .i64 ((tmOf s.data.toList).elim (-1) Tm.lv)) ∧ Below w.heap.size w w' := by
  go_enter Try.func21, Try.ntmps21
  go_wp2_with fail
  refine (termOf_walk s _).mono ?_
  rintro e w1 ⟨v, rfl, hb, hres⟩
  have HB := Aside0.mk hb
  clear hb
  rcases hres with ⟨t, hp, hat⟩ | ⟨hp, rfl⟩
  · obtain ⟨p, rfl⟩ := tm_ptr hat
    have HP := Aside0.mk hp
    have HA := Aside0.mk hat
    clear hp hat
    go_wp2_with fail
    refine (levels_walk t _ _ HA.out).mono ?_
    rintro e w2 ⟨rfl, hb2⟩
    have HB2 := Aside0.mk (HB.out.trans (hb2.mono HB.out.size))
    clear hb2
    go_wp2
    go_ret
    exact ⟨by rw [HP.out]; rfl, HB2.out⟩
  · have HP := Aside0.mk hp
    clear hp
    go_wp2
    go_ret
    exact ⟨by rw [HP.out]; rfl, HB.out⟩
end Go.Proofs.YtjelhemaohjkdaaW.PrintMore
