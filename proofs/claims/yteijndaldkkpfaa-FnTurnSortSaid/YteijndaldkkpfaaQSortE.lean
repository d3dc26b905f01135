/-
  Cut to what this claim uses.
-/
import Derived.Test.YteijndaldkkpfaaQSortD
namespace Go.Proofs.YteijndaldkkpfaaW.SortW
open Go.Proofs Go.Shelf Go.RowKit Go.Lib Go.Sort
open Go.Proofs.YteijndaldkkpfaaW.PrintWords Go.Proofs.YteijndaldkkpfaaW.PrintLast
set_option linter.unusedVariables false
set_option linter.unusedSimpArgs false
variable {α : Type} [Inhabited α]
theorem insInner_size (lt : α → α → Bool) (a : Nat) : ∀ (j : Nat) (d : Array α), (insInner lt a j d).size = d.size := by
  intro j
  induction j with
  | zero => intro d; rw [insInner]
  | succ j ih => intro d; rw [insInner]; split; (rw [ih, size_swp]); rfl
theorem insOuter_size (lt : α → α → Bool) (a b : Nat) : ∀ (q i : Nat) (d : Array α), q = b - i → (insOuter lt a b i d).size = d.size := by
  intro q
  induction q with
  | zero => intro i d hq; rw [insOuter, if_neg (by omega)]
  | succ q ih => intro i d hq; rw [insOuter, if_pos (by omega), ih _ _ (by omega), insInner_size]
theorem insertion_size (lt : α → α → Bool) (d : Array α) (a b : Nat) : (Sort.insertionSort lt d a b).size = d.size := insOuter_size lt a b _ _ d rfl
set_option maxHeartbeats 16000000 in
set_option maxRecDepth 1000000 in
theorem stable_walk (enc : α → Value) (cf : α → α → Int) (g : Nat) (cb : Array Value) (blk off cap N : Nat) (d0 : Array α) (w0 : World)
    (eg : ∀ args w, (callFunc g args).run Try.prog w = .ok (.enter g args) w) (hcmp : CmpLays1 Try.prog g cb enc cf blk off d0.size w0) (R : Row1 enc w0 blk off d0) (hs0 : d0.size = N) (hN : N ≤ 1000000) (d : Array α) (w : World) (hsd : d.size = N) (S : SW enc w0 blk off d w) :
    Calls Try.prog 91 #[.slice (some ⟨blk, off, none⟩) N cap, .int .i64 N, .func (.func g) #[] cb] w fun e w' => e = .returned (.tuple #[]) ∧ SW enc w0 blk off (Stab.stable (ltOf cf) N d) w' := by
  have mixed : Try.prog.follows .mixedOrders = true := by kernel_rfl
  have HC := Aside0.mk hcmp
  clear hcmp
  have EG := Aside0.mk eg
  clear eg
  have HS0 := Aside0.mk hs0
  have HSD := Aside0.mk hsd
  clear hs0 hsd
  have S0 : Aside (SW enc w0 blk off d w) := S
  clear S
  go_enter Try.func91, Try.ntmps91
  go_wp2
  go_loopg [7, 8] N (fun kx s7 s8 wr => ∃ (x y : Nat) (dk : Array α), s7 = .int .i64 x ∧ s8 = .int .i64 y ∧ x + 20 ≤ y ∧ y ≤ x + 20 ∧ x ≤ N ∧ N - x ≤ kx ∧ Aside0 (dk.size = N) ∧ Aside (SW enc w0 blk off dk wr) ∧ Hid (Stab.blocks (ltOf cf) N x dk = Stab.blocks (ltOf cf) N 0 d))
  case atStart => exact ⟨0, 20, d, rfl, rfl, by omega, by omega, by omega, by omega, HSD, S0, rfl⟩
  case round =>
    clear S0 HSD
    obtain ⟨x, y, dk, rfl, rfl, hxy, hyx, hxN, hkx, HDS, S1, HE⟩ := hrel
    by_cases hlt : y ≤ N
    · as_aux_lemma =>
      have hltz : (y : Int) ≤ (N : Int) := by omega
      have HCALL := Aside0.mk (insertion_walk enc cf g cb blk off cap x y N d0 dk w0 wr EG.out HC.out R HS0.out HDS.out S1.out (by omega) hlt (by omega))
      go_wp2_with fail
      refine Calls.mono HCALL.out ?_
      rintro e w2 ⟨rfl, hS2⟩
      have S2 : Aside (SW enc w0 blk off _ w2) := hS2
      clear hS2 HCALL
      go_wp2
      go_roundg (N - y)
      case measure => omega
      case rel => exact ⟨y, y + 20, _, rfl, by first | rfl | go_num | (congr 1; omega), by omega, by omega, by omega, by omega, ⟨(insertion_size _ _ _ _).trans HDS.out⟩, S2, (show Hid _ from by
        have e : y = x + 20 := by omega
        have h := (Stab.blocks_go (ltOf cf) N x dk (by omega)).symm.trans HE.out
        rw [← e] at h; exact h)⟩
    · as_aux_lemma =>
      have hltz : ¬ (y : Int) ≤ (N : Int) := by omega
      have HB := Aside0.mk (show Sort.insertionSort (ltOf cf) dk x N = Stab.blocks (ltOf cf) N 0 d from by rw [← HE.out, Stab.blocks_end (ltOf cf) N x dk (by omega)])
      clear HE
      have HCALL := Aside0.mk (insertion_walk enc cf g cb blk off cap x N N d0 dk w0 wr EG.out HC.out R HS0.out HDS.out S1.out hxN (Nat.le_refl _) (by omega))
      go_wp2_with fail
      refine Calls.mono HCALL.out ?_
      rintro e w2 ⟨rfl, hS2⟩
      have S2 : Aside (SW enc w0 blk off _ w2) := hS2
      clear hS2 HCALL
      clear S1
      have HDB := Aside0.mk ((insertion_size (ltOf cf) dk x N).trans HDS.out)
      rw [HB.out] at S2 HDB
      clear HDS hltz hlt hxy hyx hxN hkx
      go_wp2
      go_loopg [6] N (fun kx s6 wr => ∃ (s : Nat) (dk : Array α), s6 = .int .i64 s ∧ 0 < s ∧ s ≤ 2 * N + 20 ∧ N - s ≤ kx ∧ Aside0 (dk.size = N) ∧ Aside (SW enc w0 blk off dk wr) ∧ Hid (Stab.mergeAll (ltOf cf) s N dk = Stab.mergeAll (ltOf cf) 20 N (Stab.blocks (ltOf cf) N 0 d)))
      case atStart => exact ⟨20, _, rfl, by omega, by omega, by omega, HDB, S2, rfl⟩
      case round =>
        clear S2 HDB
        obtain ⟨s, dk, rfl, hs, hsN, hkx, HDS, S1, HE⟩ := hrel
        by_cases hlt : s < N
        · as_aux_lemma =>
          have hltz : (s : Int) < (N : Int) := by omega
          go_wp2
          go_loopg [7, 8] N (fun kx s7 s8 wr => ∃ (x y : Nat) (dj : Array α), s7 = .int .i64 x ∧ s8 = .int .i64 y ∧ x + 2 * s ≤ y ∧ y ≤ x + 2 * s ∧ x ≤ N ∧ N - x ≤ kx ∧ Aside0 (dj.size = N) ∧ Aside (SW enc w0 blk off dj wr) ∧ Hid (Stab.mergePass (ltOf cf) s N x dj = Stab.mergePass (ltOf cf) s N 0 dk))
          case atStart => exact ⟨0, 2 * s, dk, rfl, by first | rfl | go_num | (congr 1; omega), by omega, by omega, by omega, by omega, HDS, S1, rfl⟩
          case round =>
            clear S1 HDS
            obtain ⟨x, y, dj, rfl, rfl, hxy, hyx, hxN, hkx2, HDS, S1, HP⟩ := hrel
            obtain ⟨xm, hxm1, hxm2⟩ : ∃ q, q ≤ x + s ∧ x + s ≤ q := ⟨x + s, Nat.le_refl _, Nat.le_refl _⟩
            have zxm : (x : Int) + (s : Int) = (xm : Int) := by omega
            by_cases hly : y ≤ N
            · as_aux_lemma =>
              have hlyz : (y : Int) ≤ (N : Int) := by omega
              have HCALL := Aside0.mk (symMerge_walk enc cf g cb blk off cap N d0 w0 EG.out HC.out R HS0.out (by omega) _ x xm y dj wr rfl HDS.out S1.out (by omega) (by omega) hly)
              go_wp2_with fail
              refine Calls.mono HCALL.out ?_
              rintro e w2 ⟨rfl, hS2⟩
              have S2 : Aside (SW enc w0 blk off _ w2) := hS2
              clear hS2 HCALL
              go_wp2
              go_roundg (N - y)
              case measure => omega
              case rel => exact ⟨y, y + 2 * s, _, rfl, by first | rfl | go_num | (congr 1; omega), by omega, by omega, by omega, by omega, ⟨(Stab.symMerge_size _ _ _ _ _ _ rfl).trans HDS.out⟩, S2, (show Hid _ from by
                have e : y = x + 2 * s := by omega
                have e2 : xm = x + s := by omega
                have h := (Stab.mergePass_go (ltOf cf) s N x dj ⟨by omega, hs⟩).symm.trans HP.out
                rw [← e, ← e2] at h; exact h)⟩
            · as_aux_lemma =>
              have hlyz : ¬ (y : Int) ≤ (N : Int) := by omega
              have HEnd := Aside0.mk (show (if xm < N then Stab.symMerge (ltOf cf) x xm N dj else dj) = Stab.mergePass (ltOf cf) s N 0 dk from by
                have e2 : xm = x + s := by omega
                rw [← HP.out, Stab.mergePass_end (ltOf cf) s N x dj (by omega), e2])
              have HNext := Aside0.mk (show Stab.mergeAll (ltOf cf) (s * 2) N (Stab.mergePass (ltOf cf) s N 0 dk) = Stab.mergeAll (ltOf cf) 20 N (Stab.blocks (ltOf cf) N 0 d) from (Stab.mergeAll_go (ltOf cf) s N dk ⟨hlt, hs⟩).symm.trans HE.out)
              clear HP HE
              by_cases hm : xm < N
              · have hmz : (xm : Int) < (N : Int) := by omega
                have HCALL := Aside0.mk (symMerge_walk enc cf g cb blk off cap N d0 w0 EG.out HC.out R HS0.out (by omega) _ x xm N dj wr rfl HDS.out S1.out (by omega) hm (Nat.le_refl _))
                go_wp2_with fail
                refine Calls.mono HCALL.out ?_
                rintro e w2 ⟨rfl, hS2⟩
                have S2 : Aside (SW enc w0 blk off _ w2) := hS2
                clear hS2 HCALL
                go_wp2
                go_roundg (N - s * 2)
                case measure => omega
                case rel => exact ⟨s * 2, _, by first | rfl | go_num | (congr 1; omega), by omega, by omega, by omega, ⟨(Stab.symMerge_size _ _ _ _ _ _ rfl).trans HDS.out⟩, S2, (show Hid _ from by
                  have h := HEnd.out
                  rw [if_pos hm] at h
                  rw [h]; exact HNext.out)⟩
              · have hmz : ¬ (xm : Int) < (N : Int) := by omega
                go_wp2
                go_roundg (N - s * 2)
                case measure => omega
                case rel => exact ⟨s * 2, _, by first | rfl | go_num | (congr 1; omega), by omega, by omega, by omega, HDS, S1, (show Hid _ from by
                  have h := HEnd.out
                  rw [if_neg hm] at h
                  rw [h]; exact HNext.out)⟩
        · as_aux_lemma =>
          have hltz : ¬ (s : Int) < (N : Int) := by omega
          go_wp2
          go_end0
          refine ⟨rfl, ?_⟩
          unfold Stab.stable
          rw [← HE.out, Stab.mergeAll_end (ltOf cf) s N dk (fun c => hlt c.1)]
          exact S1.out
theorem sortStable_walk (enc : α → Value) (cf : α → α → Int) (g : Nat) (cb : Array Value) (blk off cap N : Nat) (d0 : Array α) (w0 : World)
    (eg : ∀ args w, (callFunc g args).run Try.prog w = .ok (.enter g args) w) (hcmp : CmpLays1 Try.prog g cb enc cf blk off d0.size w0) (R : Row1 enc w0 blk off d0) (hs0 : d0.size = N) (hN : N ≤ 1000000) (d : Array α) (w : World) (hsd : d.size = N) (S : SW enc w0 blk off d w) :
    Calls Try.prog 57 #[.slice (some ⟨blk, off, none⟩) N cap, .func (.func g) #[] cb] w fun e w' => e = .returned (.tuple #[]) ∧ SW enc w0 blk off (Stab.stable (ltOf cf) N d) w' := by
  have HCALL := Aside0.mk (stable_walk enc cf g cb blk off cap N d0 w0 eg hcmp R hs0 hN d w hsd S)
  clear S hcmp eg
  go_enter Try.func57, Try.ntmps57
  go_wp2_with fail
  refine Calls.mono HCALL.out ?_
  rintro e w2 ⟨rfl, hS2⟩
  have S2 := Aside0.mk hS2
  clear hS2 HCALL
  go_wp2
  go_end0
  exact ⟨rfl, S2.out⟩
end Go.Proofs.YteijndaldkkpfaaW.SortW
