/-
  The text of a layout in the reference: l2Numbers, FormatLayout.
-/
import Derived.Test.YtlakjonnkggomaaDoorFmD
namespace Go.Proofs.YtlakjonnkggomaaDoorW.PrintMore
set_option linter.unusedVariables false
set_option linter.unusedSimpArgs false
open Go.Proofs Go.Deep
open Go.RowKit Go.Proofs.YtlakjonnkggomaaDoorW.PrintWords Go.Proofs.YtlakjonnkggomaaDoorW.PrintLast Go.Proofs.YtlakjonnkggomaaDoorW.PrintMore
theorem decs_take0 (l : List Int) (h : 0 < l.length) : decs (l.take (0 + 1)) 32 = decs (l.take 0) 32 ++ dec (l.getD 0 0) := by
  have e : l.take (0 + 1) = [l.getD 0 0] := by
    rw [List.take_add_one, List.getElem?_eq_getElem h, List.getD_eq_getElem?_getD, List.getElem?_eq_getElem h]; rfl
  rw [e, decs_one]
  show _ = decs [] 32 ++ _
  rw [decs_nil]
  apply ba_ext
  rw [ba_app]
  rfl
theorem decs_takeS (l : List Int) (i : Nat) (h : i < l.length) (h0 : 0 < i) : decs (l.take (i + 1)) 32 = decs (l.take i) 32 ++ ⟨#[32]⟩ ++ dec (l.getD i 0) := by
  have e : l.take (i + 1) = l.take i ++ [l.getD i 0] := by
    rw [List.take_add_one, List.getElem?_eq_getElem h, List.getD_eq_getElem?_getD, List.getElem?_eq_getElem h]; rfl
  rw [e, decs_snoc]
  intro hc
  have : (l.take i).length = 0 := by rw [hc]; rfl
  rw [List.length_take] at this
  omega
set_option maxHeartbeats 8000000 in
set_option maxRecDepth 100000 in
theorem l2Numbers_walk (w : World) (A0 : Option Addr) (c0 : Nat) (l : List Int) (hr : Kd.C (Kd.int .i64) w A0 l.length l) (hR : InR l) (hlen : l.length ≤ 1048576) :
    Calls Tryd.prog 19 #[.slice A0 l.length c0] w fun e w' => e = .returned (.string (spB l)) ∧ Below w.heap.size w w' := by
  obtain ⟨n, hn⟩ : ∃ n, n = l.length := ⟨_, rfl⟩
  have HN := Aside0.mk hn
  have HLE := Aside0.mk (show n ≤ 1048576 by omega)
  have HR := Aside0.mk hr
  have HRG := Aside0.mk hR
  rw [← hn] at hr ⊢
  clear hr hR hlen hn
  go_enter Tryd.func19, Tryd.ntmps19
  go_wp2
  go_loopg [3, 8] n (fun kq v3 v8 w' => ∃ i : Nat, v8 = .int .i64 (i : Int) ∧ v3 = .string (decs (l.take i) 32) ∧ Aside0 (kq + i = n) ∧ Aside0 (Below w.heap.size w w'))
  case atStart => exact ⟨0, rfl, rfl, ⟨by omega⟩, ⟨Below.refl _ _⟩⟩
  case round =>
    obtain ⟨i, rfl, rfl, HI, HB⟩ := hrel
    by_cases hi : i < n
    · have h1 : (i : Int) < (n : Int) := by omega
      have h0 : (0 : Int) ≤ (i : Int) := by omega
      have hil : i < l.length := by rw [← HN.out]; exact hi
      obtain ⟨ad, rfl, hc⟩ := Kd.at_int (C_below HR.out HB.out) (i : Int) h0 (by rw [← HN.out]; exact h1)
      obtain ⟨x, hx⟩ : ∃ x, x = l.getD i 0 := ⟨_, rfl⟩
      have hc' : wr.cell? (ad.add i) = some (.int .i64 x) := by rw [hx]; simpa [rd] using hc
      have hxr := HRG.out x (by rw [hx, List.getD_eq_getElem?_getD, List.getElem?_eq_getElem hil]; exact List.getElem_mem _)
      have HX := Aside0.mk hx
      have HXR := Aside0.mk hxr
      have HH := Aside0.mk hi
      have HIL := Aside0.mk hil
      obtain ⟨o, ho⟩ : ∃ o, o = decs (l.take i) 32 := ⟨_, rfl⟩
      rw [← ho]
      have HOO := Aside0.mk ho
      have HOS := Aside0.mk (show o.size ≤ 1000000000 from by
        have h2 := decs_size (l.take i) 32 (HRG.out.take i)
        have h5 : (l.take i).length ≤ l.length := by rw [List.length_take]; omega
        have := HLE.out
        have := HN.out
        rw [ho]; omega)
      obtain ⟨sx, hsx⟩ : ∃ sx, sx = dec x := ⟨_, rfl⟩
      have HSX := Aside0.mk hsx
      have hss : sx.size ≤ 21 := by rw [hsx]; exact dec_size x hxr.1 hxr.2
      have HSS := Aside0.mk hss
      have HC := Aside0.mk (show Calls Tryd.prog 40 #[.int .i64 x] wr fun e w' => e = .returned (.string sx) ∧ Below wr.heap.size wr w' from by rw [hsx]; exact l13Dec_walk wr x hxr.1 hxr.2)
      have HW := Aside0.mk (wrap_succ i n HH.out HLE.out)
      clear hc hi hx hxr hil ho hsx hss
      by_cases hz : i = 0
      · have hz0 : decide ((0 : Int) < (i : Int)) = false := decide_eq_false (by omega)
        have hz1 : decide ((i : Int) > 0) = false := decide_eq_false (by omega)
        have hz2 : decide (0 < i) = false := decide_eq_false (by omega)
        have HZ := Aside0.mk hz
        clear hz
        have f2 : (9223372036854775807 < o.size + sx.size) = False := eq_false (by have := HOS.out; have := HSS.out; omega)
        go_wp2_with fail
        refine HC.out.mono ?_
        rintro e w2 ⟨rfl, hb⟩
        have HB2 := Aside0.mk (HB.out.trans (hb.mono HB.out.size))
        clear hb
        go_wp2
        go_roundg (gk - 1)
        case measure => have := HI.out; have := HH.out; omega
        case rel =>
          refine ⟨i + 1, by rw [HW.out], ?_, ⟨by have := HI.out; have := HH.out; omega⟩, HB2⟩
          have h1 := HIL.out
          have h2 := HX.out
          have h3 := HOO.out
          rw [HZ.out] at h1 h2 h3 ⊢
          rw [decs_take0 l h1, ← h2, ← HSX.out, ← h3]
      · have hz0 : decide ((0 : Int) < (i : Int)) = true := decide_eq_true (by omega)
        have hz1 : decide ((i : Int) > 0) = true := decide_eq_true (by omega)
        have hz2 : decide (0 < i) = true := decide_eq_true (by omega)
        have HZ := Aside0.mk hz
        have f1 : (9223372036854775807 < o.size + 1) = False := eq_false (by have := HOS.out; omega)
        have f2 : (9223372036854775807 < o.size + 1 + sx.size) = False := eq_false (by have := HOS.out; have := HSS.out; omega)
        clear hz
        go_wp2_with fail
        refine HC.out.mono ?_
        rintro e w2 ⟨rfl, hb⟩
        have HB2 := Aside0.mk (HB.out.trans (hb.mono HB.out.size))
        clear hb
        go_wp2
        go_roundg (gk - 1)
        case measure => have := HI.out; have := HH.out; omega
        case rel =>
          refine ⟨i + 1, by rw [HW.out], ?_, ⟨by have := HI.out; have := HH.out; omega⟩, HB2⟩
          rw [decs_takeS l i HIL.out (by have := HZ.out; omega), ← HX.out, ← HSX.out, ← HOO.out]
    · have h1 : (n : Int) ≤ (i : Int) := by omega
      have HE := Aside0.mk (show i = n from by have := HI.out; omega)
      have HTK := Aside0.mk (show l.take i = l from by rw [HE.out, HN.out]; exact List.take_of_length_le (Nat.le_refl _))
      rw [HTK.out]
      clear hi
      by_cases hl : l = []
      · have e1 : decs l 32 = ⟨#[]⟩ := by rw [hl]; rfl
        have E2 := Aside0.mk (show spB l = ⟨#[45]⟩ from by unfold spB; rw [if_pos hl])
        rw [e1]
        clear hl e1
        go_wp2
        go_ret
        refine ⟨?_, HB.out⟩
        rw [E2.out]
        rfl
      · have E2 := Aside0.mk (show spB l = decs l 32 from by unfold spB; rw [if_neg hl])
        obtain ⟨o, ho⟩ : ∃ o, o = decs l 32 := ⟨_, rfl⟩
        rw [← ho]
        have hne : o.toList.isEmpty = false := by
          have h1 := decs_ne l 32 hl
          rw [← ho] at h1
          rw [Lib.toList_data]
          cases he : o.data.toList with
          | nil =>
            have : o.data.toList.length = 0 := by rw [he]; rfl
            exact absurd (by simpa using this) h1
          | cons a b => rfl
        have HOO := Aside0.mk ho
        clear hl ho
        go_wp2
        go_ret
        refine ⟨?_, HB.out⟩
        rw [E2.out, ← HOO.out]
        rfl
set_option maxHeartbeats 8000000 in
set_option maxRecDepth 100000 in
theorem spec_format_walk (w : World) (A0 : Option Addr) (c0 : Nat) (Ls : List (List Int)) (A1 : Option Addr) (c1 : Nat) (D : List Int) (hr : Kd.C (Kd.slice 3 (Kd.int .i64)) w A0 Ls.length Ls) (hd : Kd.C (Kd.int .i64) w A1 D.length D)
    (hR : AllR Ls) (hD : InR D) (hsz : Sm Ls D) :
    Calls Tryd.prog 7 #[.agg #[.slice A0 Ls.length c0, .slice A1 D.length c1]] w fun e w' => e = .returned (.string (fmB Ls D)) ∧ Below w.heap.size w w' := by
  have hu := Tryd.underlying28
  obtain ⟨n, hn⟩ : ∃ n, n = Ls.length := ⟨_, rfl⟩
  have HN := Aside0.mk hn
  have HB1 := Aside0.mk (bx_below w (.slice A0 n c0) (.slice A1 D.length c1))
  have HCL := Aside0.mk (bx_cell1 w (.slice A0 n c0) (.slice A1 D.length c1))
  have HLE := Aside0.mk (show n ≤ 1048576 by have := hsz.1; omega)
  have HTT := Aside0.mk (show tot Ls ≤ 1100000000000 from hsz.tot)
  have HSZ := Aside0.mk hsz
  have HR := Aside0.mk (CS_below hr HB1.out)
  have HD := Aside0.mk (C_below hd HB1.out)
  have HRG := Aside0.mk hR
  have HDG := Aside0.mk hD
  rw [← hn] at hr ⊢
  clear hr hd hR hD hsz hn
  go_enter Tryd.func7, Tryd.ntmps7
  go_wp2
  go_loopg [3, 9] n (fun kq v3 v9 w' => ∃ i : Nat, v9 = .int .i64 (i : Int) ∧ v3 = .string (fmP (Ls.take i)) ∧ Aside0 (kq + i = n) ∧ Aside0 (Below (bxW w (.slice A0 n c0) (.slice A1 D.length c1)).heap.size (bxW w (.slice A0 n c0) (.slice A1 D.length c1)) w'))
  case atStart => exact ⟨0, rfl, rfl, ⟨by omega⟩, ⟨Below.refl _ _⟩⟩
  case round =>
    obtain ⟨i, rfl, rfl, HI, HB⟩ := hrel
    by_cases hi : i < n
    · have h1 : (i : Int) < (n : Int) := by omega
      have h0 : (0 : Int) ≤ (i : Int) := by omega
      have hil : i < Ls.length := by rw [← HN.out]; exact hi
      obtain ⟨ad, A2, c2, rfl, hc, hc2, hK⟩ := row_read (CS_below HR.out HB.out) i (by rw [← HN.out]; exact hi)
      obtain ⟨x, hx⟩ : ∃ x, x = rowAt Ls i := ⟨_, rfl⟩
      rw [← hx] at hc hc2 hK
      have HX := Aside0.mk hx
      have HK := Aside0.mk hK
      have HXR := Aside0.mk (show InR x from HRG.out x (by rw [hx]; exact rowAt_mem Ls i hil))
      have hxl : x.length ≤ 1048576 := by rw [hx]; exact HSZ.out.2.1 _ (rowAt_mem Ls i hil)
      have HXL := Aside0.mk hxl
      have HH := Aside0.mk hi
      have HIL := Aside0.mk hil
      obtain ⟨o, ho⟩ : ∃ o, o = fmP (Ls.take i) := ⟨_, rfl⟩
      rw [← ho]
      have HOO := Aside0.mk ho
      have HOS := Aside0.mk (show o.size ≤ 1000000000000000 from by
        have h2 := fmP_size (Ls.take i) (fun r hr => HRG.out r (List.mem_of_mem_take hr))
        have h3 := tot_take Ls i
        have h4 := HTT.out
        have h6 := HSZ.out.1
        rw [ho]
        have h5 : (Ls.take i).length ≤ Ls.length := by rw [List.length_take]; omega
        omega)
      clear hx hK hi hil hxl ho
      go_wp2_with fail
      refine (l2Numbers_walk wr A2 c2 x HK.out HXR.out (by have := HXL.out; omega)).mono ?_
      rintro e w2 ⟨rfl, hb⟩
      have HB2 := Aside0.mk (HB.out.trans (hb.mono HB.out.size))
      obtain ⟨sx, hsx⟩ : ∃ sx, sx = spB x := ⟨_, rfl⟩
      rw [← hsx]
      have HSX := Aside0.mk hsx
      have hss : sx.size ≤ 1000000000 := by have := spB_size x HXR.out; rw [hsx]; have := HXL.out; omega
      have f1 : (9223372036854775807 < o.size + sx.size) = False := eq_false (by have := HOS.out; omega)
      have f2 : (9223372036854775807 < o.size + sx.size + 1) = False := eq_false (by have := HOS.out; omega)
      clear hb hsx hss
      go_wp2
      have HW := Aside0.mk (wrap_succ i n HH.out HLE.out)
      go_roundg (gk - 1)
      case measure => have := HI.out; have := HH.out; omega
      case rel =>
        refine ⟨i + 1, by rw [HW.out], ?_, ⟨by have := HI.out; have := HH.out; omega⟩, HB2⟩
        rw [take_row Ls i HIL.out, fmP_snoc, ← HX.out, ← HSX.out, ← HOO.out, ba_assoc]
    · have h1 : (n : Int) ≤ (i : Int) := by omega
      have HE := Aside0.mk (show i = n from by have := HI.out; omega)
      have hc1 := cell_keep HB.out _ _ HCL.out
      have HTK := Aside0.mk (show Ls.take i = Ls from by rw [HE.out, HN.out]; exact List.take_of_length_le (Nat.le_refl _))
      rw [HTK.out]
      obtain ⟨o, ho⟩ : ∃ o, o = fmP Ls := ⟨_, rfl⟩
      rw [← ho]
      have HOO := Aside0.mk ho
      have HOS := Aside0.mk (show o.size ≤ 1000000000000000 from by
        have h2 := fmP_size Ls HRG.out
        have h4 := HTT.out
        have h6 := HSZ.out.1
        rw [ho]; omega)
      clear hi ho
      go_wp2_with fail
      refine (l2Numbers_walk wr A1 c1 D (C_below HD.out HB.out) HDG.out (by have := HSZ.out.2.2; omega)).mono ?_
      rintro e w2 ⟨rfl, hb⟩
      have HB2 := Aside0.mk (HB.out.trans (hb.mono HB.out.size))
      obtain ⟨sx, hsx⟩ : ∃ sx, sx = spB D := ⟨_, rfl⟩
      rw [← hsx]
      have HSX := Aside0.mk hsx
      have hss : sx.size ≤ 1000000000 := by have := spB_size D HDG.out; rw [hsx]; have := HSZ.out.2.2; omega
      have f2 : (9223372036854775807 < o.size + sx.size) = False := eq_false (by have := HOS.out; omega)
      clear hb hsx hss
      go_wp2
      go_ret
      refine ⟨?_, HB1.out.trans (HB2.out.mono (by rw [bx_size]; omega))⟩
      unfold fmB
      rw [← HOO.out, ← HSX.out]
      rfl
end Go.Proofs.YtlakjonnkggomaaDoorW.PrintMore
