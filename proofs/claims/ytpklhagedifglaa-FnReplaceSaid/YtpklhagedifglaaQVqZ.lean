/-
  Cut to what this claim uses.
-/
import Derived.Test.YtpklhagedifglaaQVq0
import Derived.Test.YtpklhagedifglaaQVq1
import Derived.Test.YtpklhagedifglaaQVq2
import Derived.Test.YtpklhagedifglaaQVqA0
import Derived.Test.YtpklhagedifglaaQVqA1
import Derived.Test.YtpklhagedifglaaQVqA2
import Derived.Test.YtpklhagedifglaaQVqA3
import Derived.Test.YtpklhagedifglaaQVqA4
import Derived.Test.YtpklhagedifglaaQVqB
import Derived.Test.YtpklhagedifglaaQVqC
import Derived.Test.YtpklhagedifglaaQVqF
namespace Go.Proofs.Ytpklhagedifglaa.Vq
open Go.RowKit Go.Proofs.YtpklhagedifglaaW.PrintWords Go.Proofs.YtpklhagedifglaaW.PrintLast Go.Proofs.YtpklhagedifglaaW.PrintMore
attribute [local go_sem] max2_int min2_int max_two min_two max_three min_three max_four min_four   -- for this text's walks alone
set_option linter.unusedVariables false
set_option linter.unusedSimpArgs false
theorem drew_ne {P : Int → Int → Prop} {i : Int} (e : ¬ ∀ t q, P t q → t = i) (hf : ∀ {t q t' q'}, P t q → P t' q' → t = t') {t q : Int} (h : P t q) : t ≠ i := fun ht => e fun t' q' h' => (hf h' h).trans ht
theorem spec_l5Draw.calls (k : Nat) : ∀ (g : Nat) (s0_0 : List Int) (s0_1 : Int) (a1 : Int) (a2 : Int) (a3 : ByteArray) (a4 : ByteArray) (r1 : ByteArray) (r2 : Int) (w0 w : World) (hI : IsS69 w0 w g s0_0 s0_1) (hB : Below w0.heap.size w0 w) (h : spec_l5Draw.f k s0_0 s0_1 a1 a2 a3 a4 = some (r1, r2)),
    Calls Try.prog 40 #[.pointer (some ⟨g, 0, none⟩), .int .i64 a1, .int .i64 a2, .string a3, .string a4] w fun e w' => e = .returned (.string r1) ∧ IsS69 w0 w' g s0_0 r2 ∧ Below w0.heap.size w0 w' ∧ KeepBut w w' g none := by
  induction k using Nat.strongRecOn with
  | _ k ih =>
  intro g s0_0 s0_1 a1 a2 a3 a4 r1 r2 w0 w hI hB h
  by_cases c : a2 ≤ 0
  · exact spec_l5Draw.calls_front k ih g s0_0 s0_1 a1 a2 a3 a4 r1 r2 w0 w hI hB h c
  by_cases c0 : a1 = 0
  · have hf : ∀ {t q t' q' : Int}, spec_l13Rd_pick.f (k - 1) s0_0 s0_1 7 = some (t, q) → spec_l13Rd_pick.f (k - 1) s0_0 s0_1 7 = some (t', q') → t = t' := fun h h' => by have := h.symm.trans h'; simp only [Option.some.injEq, Prod.mk.injEq] at this; exact this.1
    by_cases e0 : ∀ t_ q_, spec_l13Rd_pick.f (k - 1) s0_0 s0_1 7 = some (t_, q_) → t_ = 0
    · exact spec_l5Draw.calls_d0_0 k ih g s0_0 s0_1 a1 a2 a3 a4 r1 r2 w0 w hI hB h ⟨⟨c, c0⟩, e0⟩
    by_cases e1 : ∀ t_ q_, spec_l13Rd_pick.f (k - 1) s0_0 s0_1 7 = some (t_, q_) → t_ = 1
    · exact spec_l5Draw.calls_d0_1 k ih g s0_0 s0_1 a1 a2 a3 a4 r1 r2 w0 w hI hB h ⟨⟨c, c0⟩, e1⟩
    by_cases e2 : ∀ t_ q_, spec_l13Rd_pick.f (k - 1) s0_0 s0_1 7 = some (t_, q_) → t_ = 2
    · exact spec_l5Draw.calls_d0_2 k ih g s0_0 s0_1 a1 a2 a3 a4 r1 r2 w0 w hI hB h ⟨⟨c, c0⟩, e2⟩
    by_cases e3 : ∀ t_ q_, spec_l13Rd_pick.f (k - 1) s0_0 s0_1 7 = some (t_, q_) → t_ = 3
    · exact spec_l5Draw.calls_d0_3 k ih g s0_0 s0_1 a1 a2 a3 a4 r1 r2 w0 w hI hB h ⟨⟨c, c0⟩, e3⟩
    exact spec_l5Draw.calls_d0_4 k ih g s0_0 s0_1 a1 a2 a3 a4 r1 r2 w0 w hI hB h ⟨⟨c, c0⟩, fun t_ q_ h => ⟨drew_ne (P := fun t_ q_ => spec_l13Rd_pick.f (k - 1) s0_0 s0_1 7 = some (t_, q_)) e0 hf h, drew_ne (P := fun t_ q_ => spec_l13Rd_pick.f (k - 1) s0_0 s0_1 7 = some (t_, q_)) e1 hf h, drew_ne (P := fun t_ q_ => spec_l13Rd_pick.f (k - 1) s0_0 s0_1 7 = some (t_, q_)) e2 hf h, drew_ne (P := fun t_ q_ => spec_l13Rd_pick.f (k - 1) s0_0 s0_1 7 = some (t_, q_)) e3 hf h⟩⟩
  by_cases c1 : a1 = 1
  · exact spec_l5Draw.calls_d1 k ih g s0_0 s0_1 a1 a2 a3 a4 r1 r2 w0 w hI hB h ⟨c, c1⟩
  exact spec_l5Draw.calls_d2 k ih g s0_0 s0_1 a1 a2 a3 a4 r1 r2 w0 w hI hB h ⟨c, c0, c1⟩
end Go.Proofs.Ytpklhagedifglaa.Vq
