/-
  Cut to what this claim uses.
-/
import Derived.Test.YtpklhagedifglaaQTermO
namespace Go.Proofs.YtpklhagedifglaaW.PrintMore
set_option linter.unusedVariables false
set_option linter.unusedSimpArgs false
open Go.Proofs Go.Deep
open Go.RowKit Go.Proofs.YtpklhagedifglaaW.PrintWords
/-- The text of a term. -/
def Tm.tx : Tm → ByteArray
  | .leaf c => ch c
  | .un c x => ch c ++ x.tx
  | .bin c x y => ⟨#[40]⟩ ++ x.tx ++ ch c ++ y.tx ++ ⟨#[41]⟩
  | .loop c u x y => ch c ++ ch u ++ ⟨#[58]⟩ ++ x.tx ++ ⟨#[62]⟩ ++ y.tx ++ ch (c + 2)
theorem tm_ends (c : UInt8) (hc : c = 91 ∨ c = 123) (w : World) : Calls Try.prog 55 #[.string (ch c)] w fun e w' => e = .returned (.string (ch (c + 2))) ∧ w' = w := by
  rcases hc with rfl | rfl
  · exact tm_ends91 w
  · exact tm_ends123 w
theorem cat_ok (a b : ByteArray) (h : a.size + b.size ≤ 9223372036854775807) : (9223372036854775807 < a.size + b.size) = False := eq_false (by omega)
set_option maxHeartbeats 4000000 in
set_option maxRecDepth 100000 in
theorem text_leaf (w : World) (p : Nat) (sc : ByteArray) (h0 : w.cell? ⟨p, 0, none⟩ = some (.string sc)) (h1 : w.cell? ⟨p, 1, none⟩ = some (.string ⟨#[]⟩)) (h2 : w.cell? ⟨p, 2, none⟩ = some (.slice none 0 0)) :
    Calls Try.prog 30 #[.pointer (some ⟨p, 0, none⟩)] w fun e w' => e = .returned (.string sc) ∧ ∃ n, w' = w.drewN n := by
  go_enter Try.func30, Try.ntmps30
  go_wp2_with (go_at_call 42; refine (loop_no _ _ h1).mono ?_; rintro e wz ⟨rfl, hw⟩; rw [hw]; clear hw wz)
  go_ret
  exact ⟨rfl, 0, rfl⟩
set_option maxHeartbeats 4000000 in
set_option maxRecDepth 100000 in
theorem text_un (w : World) (p a k : Nat) (sc sx : ByteArray) (q : Nat) (h0 : w.cell? ⟨p, 0, none⟩ = some (.string sc)) (h1 : w.cell? ⟨p, 1, none⟩ = some (.string ⟨#[]⟩)) (h2 : w.cell? ⟨p, 2, none⟩ = some (.slice (some ⟨a, 0, none⟩) 1 k)) (h3 : w.cell? ⟨a, 0, none⟩ = some (.pointer (some ⟨q, 0, none⟩)))
    (hs : sc.size + sx.size ≤ 9223372036854775807) (ih : ∀ n, Calls Try.prog 30 #[.pointer (some ⟨q, 0, none⟩)] (w.drewN n) fun e w' => e = .returned (.string sx) ∧ ∃ m, w' = (w.drewN n).drewN m) :
    Calls Try.prog 30 #[.pointer (some ⟨p, 0, none⟩)] w fun e w' => e = .returned (.string (sc ++ sx)) ∧ ∃ n, w' = w.drewN n := by
  have f1 := cat_ok sc sx hs
  have IH := Aside0.mk ih
  clear ih
  go_enter Try.func30, Try.ntmps30
  go_wp2_with (go_at_call 42; refine (loop_no _ _ h1).mono ?_; rintro e wz ⟨rfl, hw⟩; rw [hw]; clear hw wz)
  go_quiet (first | (go_at_call 30; exact Calls.quiet_of (IH.out _)))
  go_wp2
  go_ret
  exact ⟨rfl, nq, rfl⟩
set_option maxHeartbeats 4000000 in
set_option maxRecDepth 100000 in
theorem text_bin (w : World) (p a k : Nat) (sc sx sy : ByteArray) (q r : Nat) (h0 : w.cell? ⟨p, 0, none⟩ = some (.string sc)) (h1 : w.cell? ⟨p, 1, none⟩ = some (.string ⟨#[]⟩)) (h2 : w.cell? ⟨p, 2, none⟩ = some (.slice (some ⟨a, 0, none⟩) 2 k)) (h3 : w.cell? ⟨a, 0, none⟩ = some (.pointer (some ⟨q, 0, none⟩))) (h4 : w.cell? ⟨a, 1, none⟩ = some (.pointer (some ⟨r, 0, none⟩)))
    (hs : sc.size + sx.size + sy.size ≤ 9223372036854775800) (ihx : ∀ n, Calls Try.prog 30 #[.pointer (some ⟨q, 0, none⟩)] (w.drewN n) fun e w' => e = .returned (.string sx) ∧ ∃ m, w' = (w.drewN n).drewN m)
    (ihy : ∀ n, Calls Try.prog 30 #[.pointer (some ⟨r, 0, none⟩)] (w.drewN n) fun e w' => e = .returned (.string sy) ∧ ∃ m, w' = (w.drewN n).drewN m) :
    Calls Try.prog 30 #[.pointer (some ⟨p, 0, none⟩)] w fun e w' => e = .returned (.string (⟨#[40]⟩ ++ sx ++ sc ++ sy ++ ⟨#[41]⟩)) ∧ ∃ n, w' = w.drewN n := by
  have z1 : (⟨#[40]⟩ : ByteArray).size = 1 := rfl
  have z2 : (⟨#[41]⟩ : ByteArray).size = 1 := rfl
  have f1 := cat_ok ⟨#[40]⟩ sx (by omega)
  have f2 := cat_ok (⟨#[40]⟩ ++ sx) sc (by rw [ByteArray.size_append]; omega)
  have f3 := cat_ok (⟨#[40]⟩ ++ sx ++ sc) sy (by rw [ByteArray.size_append, ByteArray.size_append]; omega)
  have f4 := cat_ok (⟨#[40]⟩ ++ sx ++ sc ++ sy) ⟨#[41]⟩ (by rw [ByteArray.size_append, ByteArray.size_append, ByteArray.size_append]; omega)
  have IHX := Aside0.mk ihx
  have IHY := Aside0.mk ihy
  clear ihx ihy z1 z2
  go_enter Try.func30, Try.ntmps30
  go_wp2_with (go_at_call 42; refine (loop_no _ _ h1).mono ?_; rintro e wz ⟨rfl, hw⟩; rw [hw]; clear hw wz)
  go_quiet (first | (go_at_call_of 30 (Value.pointer (some ⟨q, 0, none⟩)); exact Calls.quiet_of (IHX.out _)) | (go_at_call_of 30 (Value.pointer (some ⟨r, 0, none⟩)); exact Calls.quiet_of (IHY.out _)))
  go_wp2
  go_ret
  exact ⟨rfl, nq, rfl⟩
set_option maxHeartbeats 4000000 in
set_option maxRecDepth 100000 in
theorem text_loop (w : World) (p a k : Nat) (sc sx sy se : ByteArray) (u : UInt8) (q r : Nat) (h0 : w.cell? ⟨p, 0, none⟩ = some (.string sc)) (h1 : w.cell? ⟨p, 1, none⟩ = some (.string (ch u))) (h2 : w.cell? ⟨p, 2, none⟩ = some (.slice (some ⟨a, 0, none⟩) 2 k)) (h3 : w.cell? ⟨a, 0, none⟩ = some (.pointer (some ⟨q, 0, none⟩))) (h4 : w.cell? ⟨a, 1, none⟩ = some (.pointer (some ⟨r, 0, none⟩)))
    (hs : sc.size + sx.size + sy.size + se.size ≤ 9223372036854775800) (ihx : ∀ n, Calls Try.prog 30 #[.pointer (some ⟨q, 0, none⟩)] (w.drewN n) fun e w' => e = .returned (.string sx) ∧ ∃ m, w' = (w.drewN n).drewN m)
    (ihy : ∀ n, Calls Try.prog 30 #[.pointer (some ⟨r, 0, none⟩)] (w.drewN n) fun e w' => e = .returned (.string sy) ∧ ∃ m, w' = (w.drewN n).drewN m)
    (he : ∀ W, Calls Try.prog 55 #[.string sc] W fun e w' => e = .returned (.string se) ∧ w' = W) :
    Calls Try.prog 30 #[.pointer (some ⟨p, 0, none⟩)] w fun e w' => e = .returned (.string (sc ++ ch u ++ ⟨#[58]⟩ ++ sx ++ ⟨#[62]⟩ ++ sy ++ se)) ∧ ∃ n, w' = w.drewN n := by
  have z1 : (⟨#[58]⟩ : ByteArray).size = 1 := rfl
  have z2 : (⟨#[62]⟩ : ByteArray).size = 1 := rfl
  obtain ⟨su, hsu⟩ : ∃ su, su = ch u := ⟨_, rfl⟩
  have z3 : su.size = 1 := by rw [hsu]; rfl
  have L1 : ∀ W, W.cell? ⟨p, 1, none⟩ = some (.string su) → Calls Try.prog 42 #[.pointer (some ⟨p, 0, none⟩)] W fun e w' => e = .returned (.bool true) ∧ w' = W := fun W h => loop_yes W p u (by rw [h, hsu])
  rw [← hsu] at h1 ⊢
  have f1 := cat_ok sc su (by omega)
  have f2 : (9223372036854775807 < sc.size + su.size + 1) = False := eq_false (by omega)
  have f3 : (9223372036854775807 < sc.size + su.size + 1 + sx.size) = False := eq_false (by omega)
  have f4 : (9223372036854775807 < sc.size + su.size + 1 + sx.size + 1) = False := eq_false (by omega)
  have f5 : (9223372036854775807 < sc.size + su.size + 1 + sx.size + 1 + sy.size) = False := eq_false (by omega)
  have f6 : (9223372036854775807 < sc.size + su.size + 1 + sx.size + 1 + sy.size + se.size) = False := eq_false (by omega)
  have IHX := Aside0.mk ihx
  have IHY := Aside0.mk ihy
  have HE := Aside0.mk he
  have LL := Aside0.mk L1
  clear ihx ihy z1 z2 z3 he L1 hsu
  go_enter Try.func30, Try.ntmps30
  go_wp2_with (go_at_call 42; refine (LL.out _ h1).mono ?_; rintro e wz ⟨rfl, hw⟩; rw [hw]; clear hw wz)
  go_quiet (first | (go_at_call_of 30 (Value.pointer (some ⟨q, 0, none⟩)); exact Calls.quiet_of (IHX.out _)) | (go_at_call_of 30 (Value.pointer (some ⟨r, 0, none⟩)); exact Calls.quiet_of (IHY.out _)) | (go_at_call 55; exact Calls.quiet_of_same (HE.out _)))
  go_wp2
  go_ret
  exact ⟨rfl, nq, rfl⟩
theorem tm_ptr0 {W : World} {v : Value} {t : Tm} (h : TmAt W v t) : ∃ q, v = .pointer (some ⟨q, 0, none⟩) := by
  cases t with
  | leaf c => obtain ⟨p, h, _⟩ := h; exact ⟨_, h⟩
  | un c x => obtain ⟨p, _, _, _, h, _⟩ := h; exact ⟨_, h⟩
  | bin c x y => obtain ⟨p, _, _, _, _, h, _⟩ := h; exact ⟨_, h⟩
  | loop c u x y => obtain ⟨p, _, _, _, _, h, _⟩ := h; exact ⟨_, h⟩
theorem tm_drewN {W : World} {n : Nat} {t : Tm} {v : Value} (ht : TmAt W v t) : TmAt (W.drewN n) v t := tm_keep (W := W) (W' := W.drewN n) (fun _ _ h => h) t v ht
theorem text_walk : ∀ (t : Tm) (v : Value) (w : World), t.wf → t.tx.size ≤ 9000000000000000000 → TmAt w v t → Calls Try.prog 30 #[v] w fun e w' => e = .returned (.string t.tx) ∧ ∃ n, w' = w.drewN n := by
  intro t
  induction t with
  | leaf c =>
    rintro v w hw hs ⟨p, rfl, h0, h1, h2⟩
    exact text_leaf w p (ch c) h0 h1 h2
  | un c x ih =>
    rintro v w hw hs ⟨p, a, xv, k, rfl, h0, h1, h2, h3, h4, h5⟩
    obtain ⟨q, rfl⟩ := tm_ptr0 h5
    have hs' : (ch c).size + x.tx.size ≤ 9000000000000000000 := by rw [← ByteArray.size_append]; exact hs
    exact text_un w p a k (ch c) x.tx q h0 h1 h2 h4 (by omega) (fun n => ih _ _ hw (by omega) (tm_drewN h5))
  | bin c x y ih1 ih2 =>
    rintro v w hw hs ⟨p, a, xv, yv, k, rfl, h0, h1, h2, h3, h4, h5, h6, h7⟩
    obtain ⟨q, rfl⟩ := tm_ptr0 h6
    obtain ⟨r, rfl⟩ := tm_ptr0 h7
    simp only [Tm.tx, ByteArray.size_append] at hs
    exact text_bin w p a k (ch c) x.tx y.tx q r h0 h1 h2 h4 h5 (by omega) (fun n => ih1 _ _ hw.1 (by omega) (tm_drewN h6)) (fun n => ih2 _ _ hw.2 (by omega) (tm_drewN h7))
  | loop c u x y ih1 ih2 =>
    rintro v w hw hs ⟨p, a, xv, yv, k, rfl, h0, h1, h2, h3, h4, h5, h6, h7⟩
    obtain ⟨q, rfl⟩ := tm_ptr0 h6
    obtain ⟨r, rfl⟩ := tm_ptr0 h7
    simp only [Tm.tx, ByteArray.size_append] at hs
    exact text_loop w p a k (ch c) x.tx y.tx (ch (c + 2)) u q r h0 h1 h2 h4 h5 (by omega) (fun n => ih1 _ _ hw.2.2.1 (by omega) (tm_drewN h6)) (fun n => ih2 _ _ hw.2.2.2 (by omega) (tm_drewN h7)) (fun W => tm_ends c hw.1 W)
end Go.Proofs.YtpklhagedifglaaW.PrintMore
