/-
  Cut to what this claim uses.
-/
import Derived.Test.YtjelhemaohjkdaaQTermM
import Derived.Test.YtjelhemaohjkdaaQTermN
namespace Go.Proofs.YtjelhemaohjkdaaW.PrintMore
set_option linter.unusedVariables false
set_option linter.unusedSimpArgs false
open Go.Proofs Go.Deep
open Go.RowKit Go.Proofs.YtjelhemaohjkdaaW.PrintWords
theorem nd_shape {W : World} {lo : Nat} {v : Value} {t : Tm} (h : NdAt W lo v t) : ∃ a c A m k, v = ndV a c A m k := by
  cases t with
  | leaf x => obtain ⟨A', k', h⟩ := h; exact ⟨_, _, _, _, _, h⟩
  | un x y => obtain ⟨q, k', f0, f1, f2, h0, h, _⟩ := h; exact ⟨_, _, _, _, _, h⟩
  | bin x y z => obtain ⟨q, k', f0, f1, f2, f3, f4, f5, h0, h, _⟩ := h; exact ⟨_, _, _, _, _, h⟩
  | loop x u y z => obtain ⟨q, k', f0, f1, f2, f3, f4, f5, h0, h, _⟩ := h; exact ⟨_, _, _, _, _, h⟩
theorem nd_below {W W' : World} {lo : Nat} (h : Below W.heap.size W W') {t : Tm} {v : Value} (ht : NdAt W lo v t) : NdAt W' lo v t := nd_blk (fun k _ h2 => h.block k h2) ht
set_option maxHeartbeats 4000000 in
set_option maxRecDepth 100000 in
theorem l5size_node (w : World) (a c : Int) (A : Option Addr) (n k : Nat) (S cc : Nat → Int) (hn : n ≤ 2)
    (hk : ∀ j, j < n → ∃ (q : Nat) (a' c' : Int) (A' : Option Addr) (m' k' : Nat), A = some ⟨q, 0, none⟩ ∧ w.cell? ⟨q, j * 3, none⟩ = some (.int .u8 a') ∧ w.cell? ⟨q, j * 3 + 1, none⟩ = some (.int .u8 c') ∧ w.cell? ⟨q, j * 3 + 2, none⟩ = some (.slice A' m' k') ∧
      ∀ W, Below w.heap.size w W → Calls Try.prog 41 #[ndV a' c' A' m' k'] W fun e w' => e = .returned (.int .i64 (cc j)) ∧ Below W.heap.size W w')
    (hS0 : S 0 = 1) (hS : ∀ j, S (j + 1) = wrap64 (S j + cc j)) :
    Calls Try.prog 41 #[ndV a c A n k] w fun e w' => e = .returned (.int .i64 (S n)) ∧ Below w.heap.size w w' := by
  have HK := Aside0.mk hk
  have HS := Aside0.mk (And.intro hS0 hS)
  have HN := Aside0.mk hn
  clear hk hS0 hS hn
  unfold ndV
  go_enter Try.func41, Try.ntmps41
  go_wp2
  go_loopg [3, 9] n (fun kq v3 v9 w' => ∃ i : Nat, v3 = .int .i64 (S i) ∧ v9 = .int .i64 (i : Int) ∧ Aside0 (kq + i = n) ∧ Aside0 (Below w.heap.size w w'))
  case atStart => exact ⟨0, by rw [HS.out.1], rfl, ⟨by omega⟩, ⟨(Below.refl _ _).alloc (Nat.le_refl _) _⟩⟩
  case round =>
    obtain ⟨i, rfl, rfl, HI, HB⟩ := hrel
    by_cases hi : i < n
    · have h1 : (i : Int) < (n : Int) := by omega
      have h0 : (0 : Int) ≤ (i : Int) := by omega
      obtain ⟨q, a', c', A', m', k', rfl, hc0, hc1, hc2, hcall⟩ := HK.out i hi
      have hd0 : wr.cell? ⟨q, i * 3, none⟩ = some _ := cell_keep HB.out _ _ hc0
      have hd1 : wr.cell? ⟨q, i * 3 + 1, none⟩ = some _ := cell_keep HB.out _ _ hc1
      have hd2 : wr.cell? ⟨q, i * 3 + 2, none⟩ = some _ := cell_keep HB.out _ _ hc2
      have HC := Aside0.mk hcall
      have HH := Aside0.mk hi
      clear hcall hc0 hc1 hc2 hi
      go_wp2_with fail
      refine (HC.out _ (HB.out.alloc HB.out.size _)).mono ?_
      rintro e w2 ⟨rfl, hb2⟩
      have HB2 := Aside0.mk (show Below w.heap.size w w2 from (HB.out.alloc HB.out.size _).trans (hb2.mono (Nat.le_trans HB.out.size (by simp))))
      have HW := Aside0.mk (HS.out.2 i)
      clear hb2 hd0 hd1 hd2
      go_wp2
      go_roundg (gk - 1)
      case measure => have := HI.out; have := HH.out; omega
      case rel =>
        refine ⟨i + 1, ?_, ?_, ⟨by have := HI.out; have := HH.out; omega⟩, HB2⟩
        · first | (rw [HW.out]; done) | (rw [HW.out]; rfl) | (rw [HW.out, wrap64]; rfl) | (rw [HW.out]; simp; done)
        · have := HN.out; have := HH.out
          have e1 : IntKind.i64.wrap ((i : Int) + 1) = ((i + 1 : Nat) : Int) := by rw [IntKind.wrap_i64]; omega
          have e2 : wrap64 ((i : Int) + 1) = ((i + 1 : Nat) : Int) := by rw [wrap64]; omega
          first | (rw [← e1]; done) | (rw [← e2]; done) | (simp [e1]; done) | (simp [e2]; done) | (show Value.int .i64 _ = _; rw [e1]; done) | (show Value.int .i64 _ = _; rw [e2])
    · have h1 : (n : Int) ≤ (i : Int) := by omega
      have HE := Aside0.mk (show i = n from by have := HI.out; omega)
      clear hi
      go_wp2
      go_ret
      exact ⟨by rw [← HE.out]; rfl, HB.out⟩
set_option maxHeartbeats 4000000 in
set_option maxRecDepth 100000 in
theorem l5levels_node (w : World) (a c : Int) (A : Option Addr) (n k : Nat) (S cc : Nat → Int) (hn : n ≤ 2)
    (hk : ∀ j, j < n → ∃ (q : Nat) (a' c' : Int) (A' : Option Addr) (m' k' : Nat), A = some ⟨q, 0, none⟩ ∧ w.cell? ⟨q, j * 3, none⟩ = some (.int .u8 a') ∧ w.cell? ⟨q, j * 3 + 1, none⟩ = some (.int .u8 c') ∧ w.cell? ⟨q, j * 3 + 2, none⟩ = some (.slice A' m' k') ∧
      ∀ W, Below w.heap.size w W → Calls Try.prog 43 #[ndV a' c' A' m' k'] W fun e w' => e = .returned (.int .i64 (cc j)) ∧ Below W.heap.size W w')
    (hS0 : S 0 = 0) (hS : ∀ j, S (j + 1) = max (S j) (if j = 1 ∧ ¬ c = 0 then wrap64 (cc j + 1) else cc j)) :
    Calls Try.prog 43 #[ndV a c A n k] w fun e w' => e = .returned (.int .i64 (S n)) ∧ Below w.heap.size w w' := by
  have HK := Aside0.mk hk
  have HS := Aside0.mk (And.intro hS0 hS)
  have HN := Aside0.mk hn
  clear hk hS0 hS hn
  unfold ndV
  go_enter Try.func43, Try.ntmps43
  go_wp2
  go_loopg [3, 10] n (fun kq v3 v9 w' => ∃ i : Nat, v3 = .int .i64 (S i) ∧ v9 = .int .i64 (i : Int) ∧ Aside0 (kq + i = n) ∧ Aside0 (Below w.heap.size w w') ∧ Aside0 (w'.cell? ⟨w.heap.size, 1, none⟩ = some (.int .u8 c)))
  case atStart => exact ⟨0, by rw [HS.out.1], rfl, ⟨by omega⟩, ⟨(Below.refl _ _).alloc (Nat.le_refl _) _⟩, ⟨World.cell?_alloc_new _ _ _ _⟩⟩
  case round =>
    obtain ⟨i, rfl, rfl, HI, HB, HQ⟩ := hrel
    by_cases hi : i < n
    · have h1 : (i : Int) < (n : Int) := by omega
      have h0 : (0 : Int) ≤ (i : Int) := by omega
      obtain ⟨q, a', c', A', m', k', rfl, hc0, hc1, hc2, hcall⟩ := HK.out i hi
      have hd0 : wr.cell? ⟨q, i * 3, none⟩ = some _ := cell_keep HB.out _ _ hc0
      have hd1 : wr.cell? ⟨q, i * 3 + 1, none⟩ = some _ := cell_keep HB.out _ _ hc1
      have hd2 : wr.cell? ⟨q, i * 3 + 2, none⟩ = some _ := cell_keep HB.out _ _ hc2
      have HC := Aside0.mk hcall
      have HH := Aside0.mk hi
      clear hcall hc0 hc1 hc2 hi
      go_wp2_with fail
      refine (HC.out _ (HB.out.alloc HB.out.size _)).mono ?_
      rintro e w2 ⟨rfl, hb2⟩
      have HB2 := Aside0.mk (show Below w.heap.size w w2 from (HB.out.alloc HB.out.size _).trans (hb2.mono (Nat.le_trans HB.out.size (by simp))))
      have HW := Aside0.mk (HS.out.2 i)
      have hq2 : w2.cell? ⟨w.heap.size, 1, none⟩ = some (.int .u8 c) := cell_keep hb2 _ _ (cell_alloc_keep _ _ _ _ HQ.out)
      have HQ2 := Aside0.mk hq2
      clear hb2 hd0 hd1 hd2
      by_cases i1 : i = 1
      · have q1 : ((i : Int) == 1) = true := by simp; omega
        have HI1 := Aside0.mk i1
        clear i1
        by_cases c0 : c = 0
        · have q2 : (c != 0) = false := by simp [c0]
          have HC0 := Aside0.mk c0
          clear c0
          go_wp2
          go_roundg (gk - 1)
          case measure => have := HI.out; have := HH.out; omega
          case rel =>
            refine ⟨i + 1, ?_, ?_, ⟨by have := HI.out; have := HH.out; omega⟩, HB2, HQ2⟩
            · first | (rw [HW.out, if_neg (by simp [HC0.out])]; done) | (rw [HW.out, if_neg (by simp [HC0.out])]; rfl) | (rw [HW.out, if_neg (by simp [HC0.out])]; simp; done)
            · have := HN.out; have := HH.out
              have e1 : IntKind.i64.wrap ((i : Int) + 1) = ((i + 1 : Nat) : Int) := by rw [IntKind.wrap_i64]; omega
              have e2 : wrap64 ((i : Int) + 1) = ((i + 1 : Nat) : Int) := by rw [wrap64]; omega
              first | (rw [← e1]; done) | (rw [← e2]; done) | (simp [e1]; done) | (simp [e2]; done) | (show Value.int .i64 _ = _; rw [e1]; done) | (show Value.int .i64 _ = _; rw [e2])
        · have q2 : (c != 0) = true := by simp [c0]
          have HC0 := Aside0.mk c0
          clear c0
          go_wp2
          go_roundg (gk - 1)
          case measure => have := HI.out; have := HH.out; omega
          case rel =>
            refine ⟨i + 1, ?_, ?_, ⟨by have := HI.out; have := HH.out; omega⟩, HB2, HQ2⟩
            · first | (rw [HW.out, if_pos ⟨HI1.out, HC0.out⟩]; done) | (rw [HW.out, if_pos ⟨HI1.out, HC0.out⟩]; rfl) | (rw [HW.out, if_pos ⟨HI1.out, HC0.out⟩]; simp; done)
            · have := HN.out; have := HH.out
              have e1 : IntKind.i64.wrap ((i : Int) + 1) = ((i + 1 : Nat) : Int) := by rw [IntKind.wrap_i64]; omega
              have e2 : wrap64 ((i : Int) + 1) = ((i + 1 : Nat) : Int) := by rw [wrap64]; omega
              first | (rw [← e1]; done) | (rw [← e2]; done) | (simp [e1]; done) | (simp [e2]; done) | (show Value.int .i64 _ = _; rw [e1]; done) | (show Value.int .i64 _ = _; rw [e2])
      · have q1 : ((i : Int) == 1) = false := by simp; omega
        have HI1 := Aside0.mk i1
        clear i1
        by_cases c0 : c = 0
        · have q2 : (c != 0) = false := by simp [c0]
          clear c0
          go_wp2
          go_roundg (gk - 1)
          case measure => have := HI.out; have := HH.out; omega
          case rel =>
            refine ⟨i + 1, ?_, ?_, ⟨by have := HI.out; have := HH.out; omega⟩, HB2, HQ2⟩
            · first | (rw [HW.out, if_neg (fun h => HI1.out h.1)]; done) | (rw [HW.out, if_neg (fun h => HI1.out h.1)]; rfl) | (rw [HW.out, if_neg (fun h => HI1.out h.1)]; simp; done)
            · have := HN.out; have := HH.out
              have e1 : IntKind.i64.wrap ((i : Int) + 1) = ((i + 1 : Nat) : Int) := by rw [IntKind.wrap_i64]; omega
              have e2 : wrap64 ((i : Int) + 1) = ((i + 1 : Nat) : Int) := by rw [wrap64]; omega
              first | (rw [← e1]; done) | (rw [← e2]; done) | (simp [e1]; done) | (simp [e2]; done) | (show Value.int .i64 _ = _; rw [e1]; done) | (show Value.int .i64 _ = _; rw [e2])
        · have q2 : (c != 0) = true := by simp [c0]
          clear c0
          go_wp2
          go_roundg (gk - 1)
          case measure => have := HI.out; have := HH.out; omega
          case rel =>
            refine ⟨i + 1, ?_, ?_, ⟨by have := HI.out; have := HH.out; omega⟩, HB2, HQ2⟩
            · first | (rw [HW.out, if_neg (fun h => HI1.out h.1)]; done) | (rw [HW.out, if_neg (fun h => HI1.out h.1)]; rfl) | (rw [HW.out, if_neg (fun h => HI1.out h.1)]; simp; done)
            · have := HN.out; have := HH.out
              have e1 : IntKind.i64.wrap ((i : Int) + 1) = ((i + 1 : Nat) : Int) := by rw [IntKind.wrap_i64]; omega
              have e2 : wrap64 ((i : Int) + 1) = ((i + 1 : Nat) : Int) := by rw [wrap64]; omega
              first | (rw [← e1]; done) | (rw [← e2]; done) | (simp [e1]; done) | (simp [e2]; done) | (show Value.int .i64 _ = _; rw [e1]; done) | (show Value.int .i64 _ = _; rw [e2])
    · have h1 : (n : Int) ≤ (i : Int) := by omega
      have HE := Aside0.mk (show i = n from by have := HI.out; omega)
      clear hi
      go_wp2
      go_ret
      exact ⟨by rw [← HE.out]; rfl, HB.out⟩
/-- A reference's term, part by part. -/
theorem nd_parts {W : World} {lo : Nat} {v : Value} {t : Tm} (h : NdAt W lo v t) :
    (∃ c A k, t = .leaf c ∧ v = ndV (if isDig c = true then 48 else 97) (c.toNat : Int) A 0 k) ∨
    (∃ c x q k a0 c0 A0 m0 k0, t = .un c x ∧ v = ndV (c.toNat : Int) 0 (some ⟨q, 0, none⟩) 1 k ∧ W.cell? ⟨q, 0, none⟩ = some (.int .u8 a0) ∧ W.cell? ⟨q, 1, none⟩ = some (.int .u8 c0) ∧ W.cell? ⟨q, 2, none⟩ = some (.slice A0 m0 k0) ∧ NdAt W lo (ndV a0 c0 A0 m0 k0) x) ∨
    (∃ c u x y q k a0 c0 A0 m0 k0 a1 c1 A1 m1 k1, ((t = .bin c x y ∧ u = 0) ∨ (∃ z : UInt8, t = .loop c z x y ∧ u = (z.toNat : Int))) ∧ v = ndV (c.toNat : Int) u (some ⟨q, 0, none⟩) 2 k ∧ W.cell? ⟨q, 0, none⟩ = some (.int .u8 a0) ∧ W.cell? ⟨q, 1, none⟩ = some (.int .u8 c0) ∧ W.cell? ⟨q, 2, none⟩ = some (.slice A0 m0 k0) ∧
      W.cell? ⟨q, 3, none⟩ = some (.int .u8 a1) ∧ W.cell? ⟨q, 4, none⟩ = some (.int .u8 c1) ∧ W.cell? ⟨q, 5, none⟩ = some (.slice A1 m1 k1) ∧ NdAt W lo (ndV a0 c0 A0 m0 k0) x ∧ NdAt W lo (ndV a1 c1 A1 m1 k1) y) := by
  cases t with
  | leaf c => obtain ⟨A, k, h⟩ := h; exact .inl ⟨c, A, k, rfl, h⟩
  | un c x =>
    obtain ⟨q, k, f0, f1, f2, h0, h1, h2, h3, h4, h5, h6⟩ := h
    obtain ⟨a0, c0, A0, m0, k0, e⟩ := nd_shape h6
    unfold ndV at e; simp at e
    obtain ⟨rfl, rfl, rfl⟩ := e
    exact .inr (.inl ⟨c, x, q, k, a0, c0, A0, m0, k0, rfl, h1, h3, h4, h5, h6⟩)
  | bin c x y =>
    obtain ⟨q, k, f0, f1, f2, f3, f4, f5, h0, h1, h2, h3, h4, h5, h6, h7, h8, h9, ha⟩ := h
    obtain ⟨a0, c0, A0, m0, k0, e⟩ := nd_shape h9
    obtain ⟨a1, c1, A1, m1, k1, e'⟩ := nd_shape ha
    unfold ndV at e e'; simp at e e'
    obtain ⟨rfl, rfl, rfl⟩ := e
    obtain ⟨rfl, rfl, rfl⟩ := e'
    exact .inr (.inr ⟨c, 0, x, y, q, k, a0, c0, A0, m0, k0, a1, c1, A1, m1, k1, .inl ⟨rfl, rfl⟩, h1, h3, h4, h5, h6, h7, h8, h9, ha⟩)
  | loop c u x y =>
    obtain ⟨q, k, f0, f1, f2, f3, f4, f5, h0, h1, h2, h3, h4, h5, h6, h7, h8, h9, ha⟩ := h
    obtain ⟨a0, c0, A0, m0, k0, e⟩ := nd_shape h9
    obtain ⟨a1, c1, A1, m1, k1, e'⟩ := nd_shape ha
    unfold ndV at e e'; simp at e e'
    obtain ⟨rfl, rfl, rfl⟩ := e
    obtain ⟨rfl, rfl, rfl⟩ := e'
    exact .inr (.inr ⟨c, u.toNat, x, y, q, k, a0, c0, A0, m0, k0, a1, c1, A1, m1, k1, .inr ⟨u, rfl, rfl⟩, h1, h3, h4, h5, h6, h7, h8, h9, ha⟩)
/-- A term as the readers make it. -/
def Tm.wf : Tm → Prop
  | .leaf _ => True
  | .un _ x => x.wf
  | .bin _ x y => x.wf ∧ y.wf
  | .loop c u x y => (c = 91 ∨ c = 123) ∧ ¬ (u.toNat : Int) = 0 ∧ x.wf ∧ y.wf
theorem parse_wf : ∀ (n : Nat) (l : List UInt8) (t : Tm) (r : List UInt8), parse n l = some (t, r) → t.wf := by
  intro n
  induction n with
  | zero => intro l t r h; cases h
  | succ n ih =>
    intro l t r h
    cases l with
    | nil => cases h
    | cons c l =>
      unfold parse at h
      split at h
      · cases h; trivial
      split at h
      · obtain ⟨⟨x, r1⟩, h1, h2⟩ := Option.bind_eq_some_iff.1 h
        cases h2; exact (show x.wf from ih _ _ _ h1)
      split at h
      · obtain ⟨⟨x, r1⟩, h1, h2⟩ := Option.bind_eq_some_iff.1 h
        cases r1 with
        | nil => cases h2
        | cons g r1 =>
          simp only at h2
          split at h2
          · obtain ⟨⟨y, r2⟩, h3, h4⟩ := Option.bind_eq_some_iff.1 h2
            cases r2 with
            | nil => cases h4
            | cons d r2 =>
              simp only at h4
              split at h4
              · cases h4; exact ⟨ih _ _ _ h1, ih _ _ _ h3⟩
              · cases h4
          · cases h2
      split at h
      · rename_i hc
        split at h
        · split at h
          · rename_i hb
            obtain ⟨⟨x, r1⟩, h1, h2⟩ := Option.bind_eq_some_iff.1 h
            cases r1 with
            | nil => cases h2
            | cons g r1 =>
              simp only at h2
              split at h2
              · obtain ⟨⟨y, r2⟩, h3, h4⟩ := Option.bind_eq_some_iff.1 h2
                cases r2 with
                | nil => cases h4
                | cons d r2 =>
                  simp only at h4
                  split at h4
                  · cases h4
                    refine ⟨hc, ?_, ih _ _ _ h1, ih _ _ _ h3⟩
                    have hb1 := hb.1
                    simp only [isBound, Bool.and_eq_true, decide_eq_true_eq, UInt8.le_iff_toNat_le] at hb1
                    have := hb1.1; simp at this; omega
                  · cases h4
              · cases h2
          · cases h
        · cases h
      · cases h
theorem tmOf_wf {l : List UInt8} {t : Tm} (h : tmOf l = some t) : t.wf := by
  unfold tmOf at h
  split at h
  · split at h
    · rename_i h2; cases h; exact parse_wf _ _ _ _ h2
    · cases h
  · cases h
theorem l5Size_walk (lo : Nat) : ∀ (t : Tm) (v : Value) (w : World), NdAt w lo v t → Calls Try.prog 41 #[v] w fun e w' => e = .returned (.int .i64 t.sz) ∧ Below w.heap.size w w' := by
  have two : ∀ (x y : Tm) (ih1 : ∀ (v : Value) (w : World), NdAt w lo v x → Calls Try.prog 41 #[v] w fun e w' => e = .returned (.int .i64 x.sz) ∧ Below w.heap.size w w') (ih2 : ∀ (v : Value) (w : World), NdAt w lo v y → Calls Try.prog 41 #[v] w fun e w' => e = .returned (.int .i64 y.sz) ∧ Below w.heap.size w w')
      (w : World) (a c : Int) (q k : Nat) (a0 c0 : Int) (A0 : Option Addr) (m0 k0 : Nat) (a1 c1 : Int) (A1 : Option Addr) (m1 k1 : Nat) (h0 : w.cell? ⟨q, 0, none⟩ = some (.int .u8 a0)) (h1 : w.cell? ⟨q, 1, none⟩ = some (.int .u8 c0)) (h2 : w.cell? ⟨q, 2, none⟩ = some (.slice A0 m0 k0)) (h3 : w.cell? ⟨q, 3, none⟩ = some (.int .u8 a1)) (h4 : w.cell? ⟨q, 4, none⟩ = some (.int .u8 c1)) (h5 : w.cell? ⟨q, 5, none⟩ = some (.slice A1 m1 k1)) (hx : NdAt w lo (ndV a0 c0 A0 m0 k0) x) (hy : NdAt w lo (ndV a1 c1 A1 m1 k1) y),
      Calls Try.prog 41 #[ndV a c (some ⟨q, 0, none⟩) 2 k] w fun e w' => e = .returned (.int .i64 (wrap64 (wrap64 (1 + x.sz) + y.sz))) ∧ Below w.heap.size w w' := by
    intro x y ih1 ih2 w a c q k a0 c0 A0 m0 k0 a1 c1 A1 m1 k1 h0 h1 h2 h3 h4 h5 hx hy
    exact l5size_node w a c (some ⟨q, 0, none⟩) 2 k (itS 1 fun j s => wrap64 (s + if j = 0 then x.sz else y.sz)) (fun j => if j = 0 then x.sz else y.sz) (by omega) (fun j h => by
      have : j = 0 ∨ j = 1 := by omega
      rcases this with rfl | rfl
      · exact ⟨q, a0, c0, A0, m0, k0, rfl, h0, h1, h2, fun W hb => ih1 _ W (nd_below hb hx)⟩
      · exact ⟨q, a1, c1, A1, m1, k1, rfl, h3, h4, h5, fun W hb => ih2 _ W (nd_below hb hy)⟩) rfl (fun j => rfl)
  intro t
  induction t with
  | leaf c =>
    rintro v w ⟨A, k, rfl⟩
    exact l5size_node w _ _ A 0 k (itS 1 fun j s => wrap64 (s + 0)) (fun _ => 0) (by omega) (fun j h => by omega) rfl (fun j => rfl)
  | un c x ih =>
    rintro v w h
    rcases nd_parts h with ⟨_, _, _, h, _⟩ | ⟨c', x', q, k, a0, c0, A0, m0, k0, e, rfl, h0, h1, h2, hx⟩ | ⟨_, _, _, _, _, _, _, _, _, _, _, _, _, _, _, _, (h | ⟨_, h, _⟩), _⟩
    · cases h
    · cases e
      exact l5size_node w _ _ (some ⟨q, 0, none⟩) 1 k (itS 1 fun j s => wrap64 (s + x.sz)) (fun j => x.sz) (by omega) (fun j h => by
        have : j = 0 := by omega
        subst this
        exact ⟨q, a0, c0, A0, m0, k0, rfl, h0, h1, h2, fun W hb => ih _ W (nd_below hb hx)⟩) rfl (fun j => rfl)
    · cases h.1
    · cases h
  | bin c x y ih1 ih2 =>
    rintro v w h
    rcases nd_parts h with ⟨_, _, _, h, _⟩ | ⟨_, _, _, _, _, _, _, _, _, h, _⟩ | ⟨c', u, x', y', q, k, a0, c0, A0, m0, k0, a1, c1, A1, m1, k1, (⟨e, rfl⟩ | ⟨_, hz, _⟩), rfl, h0, h1, h2, h3, h4, h5, hx, hy⟩
    · cases h
    · cases h
    · cases e
      exact two x y ih1 ih2 w _ _ q k a0 c0 A0 m0 k0 a1 c1 A1 m1 k1 h0 h1 h2 h3 h4 h5 hx hy
    · cases hz
  | loop c u x y ih1 ih2 =>
    rintro v w h
    rcases nd_parts h with ⟨_, _, _, h, _⟩ | ⟨_, _, _, _, _, _, _, _, _, h, _⟩ | ⟨c', u', x', y', q, k, a0, c0, A0, m0, k0, a1, c1, A1, m1, k1, (⟨hz, _⟩ | ⟨z, e, rfl⟩), rfl, h0, h1, h2, h3, h4, h5, hx, hy⟩
    · cases h
    · cases h
    · cases hz
    · cases e
      exact two x y ih1 ih2 w _ _ q k a0 c0 A0 m0 k0 a1 c1 A1 m1 k1 h0 h1 h2 h3 h4 h5 hx hy
theorem l5Levels_walk (lo : Nat) : ∀ (t : Tm) (v : Value) (w : World), t.wf → NdAt w lo v t → Calls Try.prog 43 #[v] w fun e w' => e = .returned (.int .i64 t.lv) ∧ Below w.heap.size w w' := by
  have two : ∀ (x y : Tm) (ih1 : ∀ (v : Value) (w : World), NdAt w lo v x → Calls Try.prog 43 #[v] w fun e w' => e = .returned (.int .i64 x.lv) ∧ Below w.heap.size w w') (ih2 : ∀ (v : Value) (w : World), NdAt w lo v y → Calls Try.prog 43 #[v] w fun e w' => e = .returned (.int .i64 y.lv) ∧ Below w.heap.size w w')
      (w : World) (a c : Int) (z : Int) (hz : z = if c = 0 then max (max 0 x.lv) y.lv else max (max 0 x.lv) (wrap64 (y.lv + 1))) (q k : Nat) (a0 c0 : Int) (A0 : Option Addr) (m0 k0 : Nat) (a1 c1 : Int) (A1 : Option Addr) (m1 k1 : Nat) (h0 : w.cell? ⟨q, 0, none⟩ = some (.int .u8 a0)) (h1 : w.cell? ⟨q, 1, none⟩ = some (.int .u8 c0)) (h2 : w.cell? ⟨q, 2, none⟩ = some (.slice A0 m0 k0)) (h3 : w.cell? ⟨q, 3, none⟩ = some (.int .u8 a1)) (h4 : w.cell? ⟨q, 4, none⟩ = some (.int .u8 c1)) (h5 : w.cell? ⟨q, 5, none⟩ = some (.slice A1 m1 k1)) (hx : NdAt w lo (ndV a0 c0 A0 m0 k0) x) (hy : NdAt w lo (ndV a1 c1 A1 m1 k1) y),
      Calls Try.prog 43 #[ndV a c (some ⟨q, 0, none⟩) 2 k] w fun e w' => e = .returned (.int .i64 z) ∧ Below w.heap.size w w' := by
    intro x y ih1 ih2 w a c z hz q k a0 c0 A0 m0 k0 a1 c1 A1 m1 k1 h0 h1 h2 h3 h4 h5 hx hy
    have := l5levels_node w a c (some ⟨q, 0, none⟩) 2 k (itS 0 fun j s => max s (if j = 1 ∧ ¬ c = 0 then wrap64 ((if j = 0 then x.lv else y.lv) + 1) else (if j = 0 then x.lv else y.lv))) (fun j => if j = 0 then x.lv else y.lv) (by omega) (fun j h => by
      have : j = 0 ∨ j = 1 := by omega
      rcases this with rfl | rfl
      · exact ⟨q, a0, c0, A0, m0, k0, rfl, h0, h1, h2, fun W hb => ih1 _ W (nd_below hb hx)⟩
      · exact ⟨q, a1, c1, A1, m1, k1, rfl, h3, h4, h5, fun W hb => ih2 _ W (nd_below hb hy)⟩) rfl (fun j => rfl)
    subst hz
    by_cases hc : c = 0
    · simpa [itS, hc] using this
    · simpa [itS, hc] using this
  intro t
  induction t with
  | leaf c =>
    rintro v w hw ⟨A, k, rfl⟩
    exact l5levels_node w _ _ A 0 k (itS 0 fun j s => max s (if j = 1 ∧ ¬ (c.toNat : Int) = 0 then wrap64 (0 + 1) else 0)) (fun _ => 0) (by omega) (fun j h => by omega) rfl (fun j => rfl)
  | un c x ih =>
    rintro v w hw h
    rcases nd_parts h with ⟨_, _, _, h, _⟩ | ⟨c', x', q, k, a0, c0, A0, m0, k0, e, rfl, h0, h1, h2, hx⟩ | ⟨_, _, _, _, _, _, _, _, _, _, _, _, _, _, _, _, (h | ⟨_, h, _⟩), _⟩
    · cases h
    · cases e
      exact l5levels_node w _ _ (some ⟨q, 0, none⟩) 1 k (itS 0 fun j s => max s (if j = 1 ∧ ¬ (0 : Int) = 0 then wrap64 (x.lv + 1) else x.lv)) (fun j => x.lv) (by omega) (fun j h => by
        have : j = 0 := by omega
        subst this
        exact ⟨q, a0, c0, A0, m0, k0, rfl, h0, h1, h2, fun W hb => ih _ W hw (nd_below hb hx)⟩) rfl (fun j => rfl)
    · cases h.1
    · cases h
  | bin c x y ih1 ih2 =>
    rintro v w hw h
    rcases nd_parts h with ⟨_, _, _, h, _⟩ | ⟨_, _, _, _, _, _, _, _, _, h, _⟩ | ⟨c', u, x', y', q, k, a0, c0, A0, m0, k0, a1, c1, A1, m1, k1, (⟨e, rfl⟩ | ⟨_, hz, _⟩), rfl, h0, h1, h2, h3, h4, h5, hx, hy⟩
    · cases h
    · cases h
    · cases e
      exact two x y (fun v w => ih1 v w hw.1) (fun v w => ih2 v w hw.2) w _ _ _ (by simp [Tm.lv]) q k a0 c0 A0 m0 k0 a1 c1 A1 m1 k1 h0 h1 h2 h3 h4 h5 hx hy
    · cases hz
  | loop c u x y ih1 ih2 =>
    rintro v w hw h
    rcases nd_parts h with ⟨_, _, _, h, _⟩ | ⟨_, _, _, _, _, _, _, _, _, h, _⟩ | ⟨c', u', x', y', q, k, a0, c0, A0, m0, k0, a1, c1, A1, m1, k1, (⟨hz, _⟩ | ⟨z, e, rfl⟩), rfl, h0, h1, h2, h3, h4, h5, hx, hy⟩
    · cases h
    · cases h
    · cases hz
    · cases e
      exact two x y (fun v w => ih1 v w hw.2.2.1) (fun v w => ih2 v w hw.2.2.2) w _ _ _ (by have := hw.2.1; simp only [Tm.lv]; rw [if_neg this]) q k a0 c0 A0 m0 k0 a1 c1 A1 m1 k1 h0 h1 h2 h3 h4 h5 hx hy
set_option maxHeartbeats 4000000 in
set_option maxRecDepth 100000 in
theorem spec_SizeOfTerm_walk (s : ByteArray) (w : World) (hs : s.size ≤ 1048576) : Calls Try.prog 18 #[.string s] w fun e w' => e = .returned (.int .i64 ((tmOf s.data.toList).elim (-1) Tm.sz)) ∧ Below w.heap.size w w' := by
  have HS := Aside0.mk hs
  clear hs
  go_enter Try.func18, Try.ntmps18
  go_wp2_with fail
  refine (l5Read_walk s _ HS.out).mono ?_
  rintro e w1 ⟨a, c, A, m, k, rfl, hb, hs1, -⟩
  have HB := Aside0.mk hb
  clear hb
  cases ht : tmOf s.data.toList with
  | none =>
    have HT := Aside0.mk ht
    have e0 : (none : Option Tm).isSome = false := rfl
    rw [e0]
    clear hs1 ht
    unfold ndV
    go_wp2
    go_ret
    exact ⟨by rw [HT.out]; rfl, HB.out.alloc HB.out.size _⟩
  | some t =>
    have HT := Aside0.mk ht
    have HN := Aside0.mk (hs1 t ht)
    have e0 : (some t : Option Tm).isSome = true := rfl
    rw [e0]
    clear hs1 ht
    unfold ndV at HN ⊢
    go_wp2_with fail
    refine (l5Size_walk _ t _ _ (nd_alloc _ HN.out)).mono ?_
    rintro e w2 ⟨rfl, hb2⟩
    have HB2 := Aside0.mk ((HB.out.alloc HB.out.size (.cells #[.int .u8 a, .int .u8 c, .slice A m k] 38)).trans (hb2.mono (Nat.le_trans HB.out.size (by simp))))
    clear hb2
    go_wp2
    go_ret
    exact ⟨by rw [HT.out]; rfl, HB2.out⟩
set_option maxHeartbeats 4000000 in
set_option maxRecDepth 100000 in
theorem spec_LevelsOf_walk (s : ByteArray) (w : World) (hs : s.size ≤ 1048576) : Calls Try.prog 20 #[.string s] w fun e w' => e = .returned (.int .i64 ((tmOf s.data.toList).elim (-1) Tm.lv)) ∧ Below w.heap.size w w' := by
  have HS := Aside0.mk hs
  clear hs
  go_enter Try.func20, Try.ntmps20
  go_wp2_with fail
  refine (l5Read_walk s _ HS.out).mono ?_
  rintro e w1 ⟨a, c, A, m, k, rfl, hb, hs1, -⟩
  have HB := Aside0.mk hb
  clear hb
  cases ht : tmOf s.data.toList with
  | none =>
    have HT := Aside0.mk ht
    have e0 : (none : Option Tm).isSome = false := rfl
    rw [e0]
    clear hs1 ht
    unfold ndV
    go_wp2
    go_ret
    exact ⟨by rw [HT.out]; rfl, HB.out.alloc HB.out.size _⟩
  | some t =>
    have HT := Aside0.mk ht
    have HN := Aside0.mk (hs1 t ht)
    have e0 : (some t : Option Tm).isSome = true := rfl
    rw [e0]
    clear hs1 ht
    unfold ndV at HN ⊢
    go_wp2_with fail
    refine (l5Levels_walk _ t _ _ (tmOf_wf HT.out) (nd_alloc _ HN.out)).mono ?_
    rintro e w2 ⟨rfl, hb2⟩
    have HB2 := Aside0.mk ((HB.out.alloc HB.out.size (.cells #[.int .u8 a, .int .u8 c, .slice A m k] 38)).trans (hb2.mono (Nat.le_trans HB.out.size (by simp))))
    clear hb2
    go_wp2
    go_ret
    exact ⟨by rw [HT.out]; rfl, HB2.out⟩
end Go.Proofs.YtjelhemaohjkdaaW.PrintMore
