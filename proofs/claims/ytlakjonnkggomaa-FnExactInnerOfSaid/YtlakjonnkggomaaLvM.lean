/-
  The marks of a list of layouts.
-/
import Derived.Test.YtlakjonnkggomaaLvK
namespace Go.Proofs.YtlakjonnkggomaaW.PrintMore
set_option linter.unusedVariables false
set_option linter.unusedSimpArgs false
open Go.Proofs Go.Deep
open Go.RowKit Go.Proofs.YtlakjonnkggomaaW.PrintWords Go.Proofs.YtlakjonnkggomaaW.PrintLast Go.Proofs.YtlakjonnkggomaaW.PrintMore
def szL (x : List (List Int) × List Int) : Nat := preL x.1 x.1.length + x.2.length
/-- The numbers of the layouts ahead of one. -/
def preS (xs : List (List (List Int) × List Int)) (i : Nat) : Nat := ((xs.take i).map szL).sum
def mkAt (xs : List (List (List Int) × List Int)) (k : Int) (i : Nat) : List (List Int) × List Int := mkLay (xs.getD i ([], [])).1 (xs.getD i ([], [])).2 (k + preS xs i)
def mkLS (xs : List (List (List Int) × List Int)) (k : Int) : List (List (List Int) × List Int) := (List.range xs.length).map (mkAt xs k)
theorem preS_succ {xs : List (List (List Int) × List Int)} {i : Nat} (hi : i < xs.length) : preS xs (i + 1) = preS xs i + szL (xs.getD i ([], [])) := by
  unfold preS
  rw [List.take_add_one, List.getElem?_eq_getElem hi, List.map_append, List.sum_append, List.getD_eq_getElem?_getD, List.getElem?_eq_getElem hi]
  simp
theorem preS_le (xs : List (List (List Int) × List Int)) : ∀ i, preS xs i ≤ preS xs xs.length := by
  intro i
  by_cases h : i ≤ xs.length
  · obtain ⟨d, hd⟩ : ∃ d, xs.length = i + d := ⟨xs.length - i, by omega⟩
    rw [hd]
    have : ∀ d, i + d ≤ xs.length → preS xs i ≤ preS xs (i + d) := by
      intro d
      induction d with
      | zero => intro _; exact Nat.le_refl _
      | succ d ih =>
        intro hd
        have := ih (by omega)
        rw [← Nat.add_assoc, preS_succ (by omega)]
        omega
    exact this d (by omega)
  · unfold preS
    rw [List.take_of_length_le (by omega), List.take_of_length_le (Nat.le_refl _)]
    exact Nat.le_refl _
set_option maxHeartbeats 16000000 in
set_option maxRecDepth 100000 in
theorem markLS_walk (w : World) (base : Nat) (v : Value) (xs : List (List (List Int) × List Int)) (k : Int) (h : GS w base v xs) (hl : xs.length ≤ 2000000) (hrl : ∀ i, (xs.getD i ([], [])).1.length ≤ 2000000) (hk0 : 0 ≤ k) (hk : k + preS xs xs.length ≤ 8000000000000) :
    Calls Try.prog 11 #[v, .int .i64 k] w fun e w' => e = .returned (.int .i64 (k + preS xs xs.length)) ∧ GS w' base v (mkLS xs k) ∧ TS w w' (fun g => base ≤ g) := by
  have hul := Try.underlying30
  obtain ⟨f, ps, hpl, hR, hx⟩ := h
  have hR' := hR
  obtain ⟨A, c, hv, hlc, hC⟩ := Kd.R_reads hR
  rw [hpl] at hv hlc hC
  subst hv
  obtain ⟨n, hn⟩ : ∃ n, n = xs.length := ⟨_, rfl⟩
  rw [← hn] at hC hx hR' hl ⊢
  have HTY := Aside0.mk (show ∀ ad, A = some ad → ∃ cs, w.heap[ad.block]? = some (.cells cs 30 (0, 0)) from fun ad ha => by
    obtain ⟨_, inner, ho, _⟩ := hR'
    exact own_typed ho ad.block (by rw [ha]; rfl))
  have HRR := Aside0.mk hR'
  have HC := Aside0.mk hC
  have HX := Aside0.mk hx
  have HPL := Aside0.mk (show ps.length = n from by rw [hn]; exact hpl)
  have HL := Aside0.mk hl
  have HRL := Aside0.mk hrl
  have HK0 := Aside0.mk hk0
  have HK := Aside0.mk (show k + preS xs n ≤ 8000000000000 from by rw [hn]; exact hk)
  have HN := Aside0.mk hn
  obtain ⟨X, hX⟩ : ∃ X : Nat → Nat → List (List Int) × List Int, X = fun i q => if q < i then mkAt xs k q else xs.getD q ([], []) := ⟨_, rfl⟩
  have HXX := Aside0.mk hX
  clear hR hC hx hl hrl hk0 hk hn hpl hlc hR' hX
  go_enter Try.func11, Try.ntmps11
  go_wp2
  go_loopg [1, 5] n (fun kq v1 v5 w' => ∃ (i : Nat) (z : Int), v1 = .int .i64 z ∧ v5 = .int .i64 (i : Int) ∧ Aside0 (z = k + preS xs i) ∧ Aside0 (kq + i = n) ∧ Aside0 (TS w w' (fun g => base ≤ g)) ∧ Aside0 (∀ q, q < n → LayV w' base f q (ps.getD q pD).1 (ps.getD q pD).2 (X i q).1 (X i q).2))
  case atStart => exact ⟨0, k, rfl, rfl, ⟨by simp [preS]⟩, ⟨by omega⟩, ⟨TS.refl _ _⟩, ⟨fun q hq => by rw [HXX.out]; exact HX.out q hq⟩⟩
  case round =>
    obtain ⟨i, z, rfl, rfl, HZ, HI, HT, HV⟩ := hrel
    by_cases hi : i < n
    · have h1 : (i : Int) < (n : Int) := by omega
      have h0 : (0 : Int) ≤ (i : Int) := by omega
      have HH := Aside0.mk hi
      have hlay := HV.out i hi
      rw [show X i i = xs.getD i ([], []) from by rw [HXX.out]; exact if_neg (Nat.lt_irrefl i)] at hlay
      have hCr : Kd.C kPair wr A n ps := pair_move HC.out (fun ad ha _ => by
        obtain ⟨cs, hcs⟩ := HTY.out ad ha
        exact HT.out.keep _ cs _ hcs (.inl (by decide)))
      obtain ⟨ad, rfl, hc1, hc2⟩ := pair_at2 hCr i hi
      obtain ⟨cs, hcs⟩ := HTY.out ad rfl
      have hcsr : wr.heap[ad.block]? = some (.cells cs 30 (0, 0)) := (HT.out.keep _ cs _ hcs (.inl (by decide))).trans hcs
      obtain ⟨u1, u2, hu⟩ : ∃ u1 u2, ps.getD i pD = (u1, u2) := ⟨_, _, rfl⟩
      obtain ⟨Ms, E, hME⟩ : ∃ Ms E, xs.getD i ([], []) = (Ms, E) := ⟨_, _, rfl⟩
      have HPU := Aside0.mk hu
      have HXE := Aside0.mk hME
      rw [hu] at hc1 hc2 hlay
      rw [hME] at hlay
      obtain ⟨l, hRw, hRo, hll, hlt, hmk⟩ := lay_open hlay
      have hrm : Ms.length ≤ 2000000 := by have h := HRL.out i; rw [hME] at h; exact h
      have hps := preS_succ (xs := xs) (i := i) (by rw [← HN.out]; exact hi)
      have hpl2 := preS_le xs (i + 1)
      rw [hME] at hps
      have hsz : szL (Ms, E) = tot l + E.length := by unfold szL; rw [hlt]
      have hkk := HK.out
      rw [← HN.out] at hpl2
      have hz0 : 0 ≤ z := by have := HK0.out; have := HZ.out; omega
      have hz1 : z + tot l + E.length ≤ 8000000000000 := by have := HZ.out; omega
      obtain ⟨⟨A7, c7, e7⟩, _⟩ := id hRw
      obtain ⟨A8, c8, e8⟩ := hRo.slice
      subst e7
      subst e8
      have hpl3 : Pl ad := by
        obtain ⟨g0, hg0⟩ := Kd.R_head HRR.out
        rw [hg0]; rfl
      have hc2' : wr.cell? ⟨(ad.add (i * 2)).block, (ad.add (i * 2)).off + 1, none⟩ = some (.slice A8 E.length c8) := by
        rw [hpl3.add] at hc2 ⊢
        exact hc2
      have HWI := Aside0.mk (show wrap64 ((i : Int) + 1) = ((i + 1 : Nat) : Int) from by have := HL.out; rw [wrap64]; omega)
      have HCA := Aside0.mk (markSS_walk wr _ _ l z hRw (by rw [hll]; exact hrm) hz0 (by omega))
      have HRW := Aside0.mk hRw
      have HRO := Aside0.mk hRo
      have HMK := Aside0.mk hmk
      have HZ0 := Aside0.mk hz0
      have HZ1 := Aside0.mk hz1
      have HPS := Aside0.mk (show preS xs (i + 1) = preS xs i + (tot l + E.length) from by rw [hps, hsz])
      have HPL3 := Aside0.mk hpl3
      have HCS := Aside0.mk hcsr
      have HC2 := Aside0.mk hc2'
      clear hi hlay hCr hcs hcsr hu hME hll hlt hmk hrm hps hpl2 hsz hkk hz0 hz1 hRw hRo hpl3 hc2 hc2'
      go_wp2_with fail
      refine HCA.out.mono ?_
      rintro e w2 ⟨rfl, hms⟩
      have ht2 := hms.ts HRW.out.2.2
      have HMS := Aside0.mk hms
      have HT2 := Aside0.mk ht2
      have hk2 : w2.heap[ad.block]? = wr.heap[ad.block]? := ht2.keep _ cs _ HCS.out (.inl (by decide))
      have hb2 : (ad.add (i * 2)).block = ad.block := add_block ad _
      have hc2 : w2.cell? ⟨(ad.add (i * 2)).block, (ad.add (i * 2)).off + 1, none⟩ = some (.slice A8 E.length c8) := by
        rw [← HC2.out]
        exact World.cell?_of_block (by show w2.heap[(ad.add (i * 2)).block]? = _; rw [hb2]; exact hk2)
      have HCB := Aside0.mk (mark_walk w2 _ (.slice A8 E.length c8) E.length (z + tot l) (HRO.out.ts ht2) (by have := HZ0.out; omega) (by have := HZ1.out; omega))
      have HRO2 := Aside0.mk (HRO.out.ts ht2)
      clear hms ht2 hk2 hb2
      go_wp2_with fail
      refine HCB.out.mono ?_
      rintro e w3 ⟨rfl, hms⟩
      have HT3 := Aside0.mk (HT2.out.trans (hms.ts HRO2.out))
      have HM3 := Aside0.mk (MSS.snoc HMS.out hms)
      clear hms
      go_wp2_with fail
      go_roundg (gk - 1)
      case measure => have := HI.out; have := HH.out; omega
      case rel =>
        refine ⟨i + 1, z + tot l + E.length, rfl, by rw [HWI.out], ⟨by have := HZ.out; have := HPS.out; omega⟩, ⟨by have := HI.out; have := HH.out; omega⟩, ⟨HT.out.trans (HT3.out.mono (fun g hg => hg.1))⟩, ⟨fun q hq => ?_⟩⟩
        by_cases hqi : q = i
        · have e1 : X (i + 1) q = mkLay Ms E z := by
            rw [HXX.out]
            show (if q < i + 1 then mkAt xs k q else xs.getD q ([], [])) = _
            rw [if_pos (by omega), hqi]
            unfold mkAt
            rw [HXE.out, HZ.out]
          rw [e1, hqi, HPU.out]
          exact HMK.out z _ HM3.out
        · have e1 : X (i + 1) q = X i q := by
            rw [HXX.out]
            show (if q < i + 1 then mkAt xs k q else xs.getD q ([], [])) = if q < i then mkAt xs k q else xs.getD q ([], [])
            by_cases h : q < i
            · rw [if_pos h, if_pos (by omega)]
            · rw [if_neg h, if_neg (by omega)]
          rw [e1]
          exact (HV.out q hq).keep (fun g cs t hg ht => HT3.out.keep g cs t hg (by
            rcases ht with rfl | ⟨rfl, hf⟩
            · exact .inl (by decide)
            · exact .inr (fun hp => hqi (hf.1.symm.trans hp.2))))
    · have h1 : (n : Int) ≤ (i : Int) := by omega
      have HE := Aside0.mk (show i = n from by have := HI.out; omega)
      clear hi
      go_wp2_with fail
      go_ret
      have h3 := HZ.out
      rw [HE.out] at h3
      refine ⟨by first | rfl | (rw [h3]; rfl), ⟨f, ps, ?_, ?_, fun q hq => ?_⟩, HT.out⟩
      · unfold mkLS
        rw [List.length_map, List.length_range, HPL.out, HN.out]
      · refine Kd.R_mono (Kd.R_move (Kd.R_bound HRR.out) (fun g hg => ?_)) (fun g hg => hg.1)
        obtain ⟨_, _, _, q, hq, cs, hcs⟩ := hg
        have : q = 30 := by simpa [kPair] using hq
        subst this
        exact HT.out.keep g cs _ hcs (.inl (by decide))
      · have hq' : q < n := by
          have e : (mkLS xs k).length = xs.length := by unfold mkLS; rw [List.length_map, List.length_range]
          rw [e, ← HN.out] at hq
          exact hq
        have h4 := HV.out q hq'
        have e1 : X i q = (mkLS xs k).getD q ([], []) := by
          rw [HXX.out]
          show (if q < i then mkAt xs k q else xs.getD q ([], [])) = _
          rw [if_pos (by rw [HE.out]; exact hq')]
          unfold mkLS
          rw [List.getD_eq_getElem?_getD, List.getElem?_map, List.getElem?_range (by rw [← HN.out]; exact hq')]
          rfl
        rw [e1] at h4
        exact h4
end Go.Proofs.YtlakjonnkggomaaW.PrintMore
