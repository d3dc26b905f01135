/-
  Cut to what this claim uses.
-/
import Derived.Test.YteijndaldkkpfaaQSortC
namespace Go.Proofs.YteijndaldkkpfaaW.SortW
open Go.Proofs Go.Shelf Go.RowKit Go.Lib Go.Sort
open Go.Proofs.YteijndaldkkpfaaW.PrintWords Go.Proofs.YteijndaldkkpfaaW.PrintLast
set_option linter.unusedVariables false
set_option linter.unusedSimpArgs false
variable {α : Type} [Inhabited α]
set_option maxHeartbeats 32000000 in
set_option maxRecDepth 1000000 in
theorem symMerge_mid_walk (enc : α → Value) (cf : α → α → Int) (g : Nat) (cb : Array Value) (blk off cap N : Nat) (d0 : Array α) (w0 : World)
    (eg : ∀ args w, (callFunc g args).run Try.prog w = .ok (.enter g args) w) (hcmp : CmpLays1 Try.prog g cb enc cf blk off d0.size w0) (R : Row1 enc w0 blk off d0) (hs0 : d0.size = N) (hsz : N < 4611686018427387904) (a m b : Nat) (d : Array α) (w : World) (hsd : d.size = N) (S : SW enc w0 blk off d w) (ham : a < m) (hmb : m < b) (hb : b ≤ N) (h1 : ¬ m - a = 1) (h2 : ¬ b - m = 1)
    (ih : ∀ (a' m' b' : Nat) (d' : Array α) (w' : World), b' - a' < b - a → d'.size = N → SW enc w0 blk off d' w' → a' < m' → m' < b' → b' ≤ N → Calls Try.prog 102 #[.slice (some ⟨blk, off, none⟩) N cap, .int .i64 (a' : Nat), .int .i64 (m' : Nat), .int .i64 (b' : Nat), .func (.func g) #[] cb] w' fun e w' => e = .returned (.tuple #[]) ∧ SW enc w0 blk off (Stab.symMerge (ltOf cf) a' m' b' d') w') :
    Calls Try.prog 102 #[.slice (some ⟨blk, off, none⟩) N cap, .int .i64 a, .int .i64 m, .int .i64 b, .func (.func g) #[] cb] w fun e w' => e = .returned (.tuple #[]) ∧ SW enc w0 blk off (Stab.symMerge (ltOf cf) a m b d) w' := by
  have mixed : Try.prog.follows .mixedOrders = true := by kernel_rfl
  have hcl0 := R.hO.cells
  simp only [Value.cells] at hcl0
  have hst := R.hO.store Try.prog
  have HC := Aside0.mk hcmp
  clear hcmp
  have S0 : Aside (SW enc w0 blk off d w) := S
  clear S
  have h1z : ¬ (m : Int) - (a : Int) = 1 := by omega
  have h1b : ((m : Int) - (a : Int) == 1) = false := by simp; omega
  have h2z : ¬ (b : Int) - (m : Int) = 1 := by omega
  have h2b : ((b : Int) - (m : Int) == 1) = false := by simp; omega
  obtain ⟨md, hmd⟩ : ∃ q, q = (a + b) / 2 := ⟨_, rfl⟩
  have zmd : ((a : Int) + (b : Int)) / 2 = (md : Int) := by omega
  have k1 : a < md := by omega
  have k2 : md < b := by omega
  have k3 : 2 * md ≤ a + b := by omega
  have k4 : a + b ≤ 2 * md + 1 := by omega
  obtain ⟨p, hp⟩ : ∃ q, q = md + m - 1 := ⟨_, rfl⟩
  have zp : (md : Int) + (m : Int) - 1 = (p : Int) := by omega
  have kp : p + 1 ≤ md + m ∧ md + m ≤ p + 1 := by omega
  obtain ⟨st, hst⟩ : ∃ q, q = Stab.st0 a m b := ⟨_, rfl⟩
  obtain ⟨rt, hrt⟩ : ∃ q, q = Stab.rt0 a m b := ⟨_, rfl⟩
  have HST := Aside0.mk (show Stab.bs3 (ltOf cf) d p st rt = Stab.strt (ltOf cf) d a m b from by unfold Stab.strt; rw [hst, hrt, hp, hmd])
  have hz : a ≤ st ∧ st ≤ rt ∧ rt ≤ m ∧ rt ≤ md ∧ p < b + st ∧ m + rt ≤ p + 1 := by
    rw [hst, hrt]; unfold Stab.st0 Stab.rt0; split <;> omega
  obtain ⟨z1, z2, z3, z4, z5, z6⟩ := hz
  have HMD := Aside0.mk hmd
  by_cases hc : md < m
  · have hcz : (md : Int) < (m : Int) := by omega
    have zst : (md : Int) + (m : Int) - (b : Int) = (st : Int) := by
      have : st = md + m - b := by rw [hst]; unfold Stab.st0; rw [← hmd, if_pos hc]
      omega
    have zrt : md = rt := by rw [hrt]; unfold Stab.rt0; rw [← hmd, if_pos hc]
    subst zrt
    clear hst hrt hp hmd
    go_enter Try.func102, Try.ntmps102
    go_wp2
    go_loopg [20, 21] (md - st) (fun kx s10 s11 wr => ∃ (s r : Nat), s10 = .int .i64 s ∧ s11 = .int .i64 r ∧ st ≤ s ∧ s ≤ r ∧ r ≤ md ∧ r - s ≤ kx ∧ Aside (SW enc w0 blk off d wr) ∧ Hid (Stab.bs3 (ltOf cf) d p s r = Stab.strt (ltOf cf) d a m b))
    case atStart => exact ⟨st, md, by first | rfl | go_num | (congr 1; omega), by first | rfl | go_num | (congr 1; omega), Nat.le_refl _, by omega, Nat.le_refl _, Nat.le_refl _, S0, HST.out⟩
    case round =>
      clear S0 HST
      obtain ⟨s, r, rfl, rfl, hss, hsr, hrr, hkx, S1, HE⟩ := hrel
      by_cases hlt : s < r
      · have hltz : (s : Int) < (r : Int) := by omega
        obtain ⟨c, hc⟩ : ∃ q, q = (s + r) / 2 := ⟨_, rfl⟩
        have zc : ((s : Int) + (r : Int)) / 2 = (c : Int) := by omega
        have hsc : s ≤ c := by omega
        have hcr : c < r := by omega
        obtain ⟨qq, hq⟩ : ∃ q, q = p - c := ⟨_, rfl⟩
        have zq : (p : Int) - (c : Int) = (qq : Int) := by omega
        have hqN : qq < N := by omega
        have HCC := Aside0.mk hc
        have HQ := Aside0.mk hq
        clear hc hq
        cases hlv : (ltOf cf) d[qq]! d[c]! with
        | true => as_aux_lemma =>
          obtain ⟨iN10, hiN10⟩ : ∃ q, q = qq := ⟨_, rfl⟩
          obtain ⟨jN10, hjN10⟩ : ∃ q, q = c := ⟨_, rfl⟩
          have ea10 : ((qq : Int)).toNat = iN10 := by omega
          have pa10 : (0 : Int) ≤ (qq : Int) := by omega
          have ba10 : (qq : Int) < (N : Int) := by omega
          have ra10 : IntKind.i64.wrap ((qq : Int)) = (qq : Int) := by rw [IntKind.wrap_i64]; omega
          have ec10 : ((c : Int)).toNat = jN10 := by omega
          have pc10 : (0 : Int) ≤ (c : Int) := by omega
          have bc10 : (c : Int) < (N : Int) := by omega
          have rc10 : IntKind.i64.wrap ((c : Int)) = (c : Int) := by rw [IntKind.wrap_i64]; omega
          obtain ⟨x10, hx10⟩ : ∃ x, x = d[qq]! := ⟨_, rfl⟩
          obtain ⟨y10, hy10⟩ : ∃ x, x = d[c]! := ⟨_, rfl⟩
          have la10 := S1.out.cl R (by omega : d.size = d0.size) (qq) (by omega)
          have lb10 := S1.out.cl R (by omega : d.size = d0.size) (c) (by omega)
          rw [← hx10, ← hiN10] at la10
          rw [← hy10, ← hjN10] at lb10
          have hc10 := S1.out.cmp HC.out (by omega : d.size = d0.size) x10 y10
          have hv10 : cf x10 y10 < 0 := by rw [hx10, hy10]; exact of_decide_eq_true hlv
          have hd10 : decide (cf x10 y10 < 0) = true := decide_eq_true hv10
          clear hx10 hy10 hiN10 hjN10
          go_wp2_with fail
          go_quiet_grown (first | (go_at_fn g; refine Calls.grown_of (hc10 _ _)))
          have S2 : Aside (SW enc w0 blk off d (grow (wr.drewN nq) osq)) := S1.out.grown nq osq
          clear la10 lb10 hc10 S1
          generalize grow (wr.drewN nq) osq = w2 at S2 ⊢
          clear nq osq
          clear ea10 ec10
          go_wp2
          go_roundg (c - s)
          case measure => omega
          case rel => exact ⟨s, c, rfl, by go_num, hss, by omega, by omega, Nat.le_refl _, S2, (show Hid _ from by rw [HQ.out, HCC.out] at hlv; rw [HCC.out]; exact (Stab.bs3_lt (ltOf cf) d p s r hlt hlv).symm.trans HE.out)⟩
        | false => as_aux_lemma =>
          obtain ⟨iN11, hiN11⟩ : ∃ q, q = qq := ⟨_, rfl⟩
          obtain ⟨jN11, hjN11⟩ : ∃ q, q = c := ⟨_, rfl⟩
          have ea11 : ((qq : Int)).toNat = iN11 := by omega
          have pa11 : (0 : Int) ≤ (qq : Int) := by omega
          have ba11 : (qq : Int) < (N : Int) := by omega
          have ra11 : IntKind.i64.wrap ((qq : Int)) = (qq : Int) := by rw [IntKind.wrap_i64]; omega
          have ec11 : ((c : Int)).toNat = jN11 := by omega
          have pc11 : (0 : Int) ≤ (c : Int) := by omega
          have bc11 : (c : Int) < (N : Int) := by omega
          have rc11 : IntKind.i64.wrap ((c : Int)) = (c : Int) := by rw [IntKind.wrap_i64]; omega
          obtain ⟨x11, hx11⟩ : ∃ x, x = d[qq]! := ⟨_, rfl⟩
          obtain ⟨y11, hy11⟩ : ∃ x, x = d[c]! := ⟨_, rfl⟩
          have la11 := S1.out.cl R (by omega : d.size = d0.size) (qq) (by omega)
          have lb11 := S1.out.cl R (by omega : d.size = d0.size) (c) (by omega)
          rw [← hx11, ← hiN11] at la11
          rw [← hy11, ← hjN11] at lb11
          have hc11 := S1.out.cmp HC.out (by omega : d.size = d0.size) x11 y11
          have hv11 : ¬ cf x11 y11 < 0 := by rw [hx11, hy11]; exact of_decide_eq_false hlv
          have hd11 : decide (cf x11 y11 < 0) = false := decide_eq_false hv11
          clear hx11 hy11 hiN11 hjN11
          go_wp2_with fail
          go_quiet_grown (first | (go_at_fn g; refine Calls.grown_of (hc11 _ _)))
          have S2 : Aside (SW enc w0 blk off d (grow (wr.drewN nq) osq)) := S1.out.grown nq osq
          clear la11 lb11 hc11 S1
          generalize grow (wr.drewN nq) osq = w2 at S2 ⊢
          clear nq osq
          clear ea11 ec11
          go_wp2
          go_roundg (r - (c + 1))
          case measure => omega
          case rel => exact ⟨c + 1, r, by go_num, rfl, by omega, by omega, hrr, Nat.le_refl _, S2, (show Hid _ from by rw [HQ.out, HCC.out] at hlv; rw [HCC.out]; exact (Stab.bs3_ge (ltOf cf) d p s r hlt hlv).symm.trans HE.out)⟩
      · as_aux_lemma =>
        have hltz : ¬ (s : Int) < (r : Int) := by omega
        have hF : Stab.strt (ltOf cf) d a m b = s := by rw [← HE.out, Stab.bs3_end _ _ _ _ _ hlt]
        have hsr2 : s ≤ md := by omega
        clear HE hlt hsr hrr hkx
        obtain ⟨e, he⟩ : ∃ q, q = md + m - s := ⟨_, rfl⟩
        have ze : (md : Int) + (m : Int) - (s : Int) = (e : Int) := by omega
        have hme : m ≤ e := by omega
        have heb : e ≤ b := by omega
        have has : a ≤ s := by omega
        have hsm : s ≤ m := by omega
        have hsmd : s ≤ md := by omega
        have hmde : md ≤ e := by omega
        obtain ⟨d1, hd1⟩ : ∃ x, x = (if s < m ∧ m < e then Stab.rotLoop m (m - s) (e - m) d else d) := ⟨_, rfl⟩
        have hz1 : d1.size = N := by rw [hd1]; split; (rw [Stab.rotLoop_size m _ _ _ _ (Nat.le_refl _)]; exact hsd); exact hsd
        obtain ⟨d2, hd2⟩ : ∃ x, x = (if a < s ∧ s < md then Stab.symMerge (ltOf cf) a s md d1 else d1) := ⟨_, rfl⟩
        have hz2 : d2.size = N := by rw [hd2]; split; (rw [Stab.symMerge_size _ _ _ _ _ _ rfl]; exact hz1); exact hz1
        obtain ⟨d3, hd3⟩ : ∃ x, x = (if md < e ∧ e < b then Stab.symMerge (ltOf cf) md e b d2 else d2) := ⟨_, rfl⟩
        have hfin : Stab.symMerge (ltOf cf) a m b d = d3 := by
          rw [Stab.symMerge_mid _ _ _ _ _ ⟨ham, hmb⟩ h1 h2]
          unfold Stab.rotd
          simp only [hF, ← HMD.out, ← he]
          rw [hd3, hd2, hd1]
        have HFIN := Aside0.mk hfin
        have HZ1 := Aside0.mk hz1
        have HZ2 := Aside0.mk hz2
        have HD1 := Aside0.mk hd1
        have HD2 := Aside0.mk hd2
        have HD3 := Aside0.mk hd3
        clear hz1 hz2 hd1 hd2 hd3 hfin hF he
        obtain ⟨bb39, hbb39⟩ : ∃ x : Bool, x = decide ((s < m) ∧ (m < e)) := ⟨_, rfl⟩
        have HBB39 := Aside0.mk hbb39
        clear hbb39
        go_upto_region 39 with (fail)
        go_cut [185] (fun vb wc => vb = .bool bb39 ∧ Aside0 (SW enc w0 blk off d wc))
        case first => as_aux_lemma =>
          by_cases cA : s < m
          · have zA : (s : Int) < (m : Int) := by omega
            by_cases cB : m < e
            · have zB : (m : Int) < (e : Int) := by omega
              go_wp2
              go_meet
              case rel => exact ⟨by rw [HBB39.out]; simp [cA, cB], ⟨S1.out⟩⟩
            · have zB : ¬ ((m : Int) < (e : Int)) := by omega
              go_wp2
              go_meet
              case rel => exact ⟨by rw [HBB39.out]; simp [cA, cB], ⟨S1.out⟩⟩
          · have zA : ¬ ((s : Int) < (m : Int)) := by omega
            go_wp2
            go_meet
            case rel => exact ⟨by rw [HBB39.out]; simp [cA], ⟨S1.out⟩⟩
        case rest =>
          clear S1
          obtain ⟨rfl, S39⟩ := hcut
          go_upto_if 185 with (fail)
          go_cut [] (fun wc => Aside0 (SW enc w0 blk off d1 wc))
          case first => as_aux_lemma =>
            cases hb : bb39 with
            | true =>
              have hcnd := (of_decide_eq_true (HBB39.out.symm.trans hb))
              have HCND := Aside0.mk hcnd
              have hcall := (rotate_walk enc g cb blk off cap s m e d0 d w0 _ R (by omega) S39.out (by omega) (by omega) (by omega) (by omega))
              rw [hsd] at hcall
              have HCALL := Aside0.mk hcall
              clear hcnd hcall
              go_wp2_with fail
              refine Calls.mono HCALL.out ?_
              rintro e w2 ⟨rfl, hS2⟩
              have S2 := Aside0.mk hS2
              clear hS2 HCALL
              go_wp2
              go_meet
              case rel => exact ⟨by rw [HD1.out, if_pos HCND.out]; exact S2.out⟩
            | false =>
              have HCND := Aside0.mk (of_decide_eq_false (HBB39.out.symm.trans hb))
              go_wp2
              go_meet
              case rel => exact ⟨by rw [HD1.out, if_neg HCND.out]; exact S39.out⟩
          case rest => as_aux_lemma =>
            clear S39 HBB39
            have S39 := hcut
            clear hcut
            obtain ⟨bb41, hbb41⟩ : ∃ x : Bool, x = decide ((a < s) ∧ (s < md)) := ⟨_, rfl⟩
            have HBB41 := Aside0.mk hbb41
            clear hbb41
            go_upto_region 41 with (fail)
            go_cut [199] (fun vb wc => vb = .bool bb41 ∧ Aside0 (SW enc w0 blk off d1 wc))
            case first => as_aux_lemma =>
              by_cases cA : a < s
              · have zA : (a : Int) < (s : Int) := by omega
                by_cases cB : s < md
                · have zB : (s : Int) < (md : Int) := by omega
                  go_wp2
                  go_meet
                  case rel => exact ⟨by rw [HBB41.out]; simp [cA, cB], ⟨S39.out⟩⟩
                · have zB : ¬ ((s : Int) < (md : Int)) := by omega
                  go_wp2
                  go_meet
                  case rel => exact ⟨by rw [HBB41.out]; simp [cA, cB], ⟨S39.out⟩⟩
              · have zA : ¬ ((a : Int) < (s : Int)) := by omega
                go_wp2
                go_meet
                case rel => exact ⟨by rw [HBB41.out]; simp [cA], ⟨S39.out⟩⟩
            case rest =>
              clear S39
              obtain ⟨rfl, S41⟩ := hcut
              go_upto_if 199 with (fail)
              go_cut [] (fun wc => Aside0 (SW enc w0 blk off d2 wc))
              case first => as_aux_lemma =>
                cases hb : bb41 with
                | true =>
                  have hcnd := (of_decide_eq_true (HBB41.out.symm.trans hb))
                  have HCND := Aside0.mk hcnd
                  have hcall := (ih a s md d1 _ (by omega) HZ1.out S41.out (by omega) (by omega) (by omega))
                  have HCALL := Aside0.mk hcall
                  clear hcnd hcall
                  go_wp2_with fail
                  refine Calls.mono HCALL.out ?_
                  rintro e w2 ⟨rfl, hS2⟩
                  have S2 := Aside0.mk hS2
                  clear hS2 HCALL
                  go_wp2
                  go_meet
                  case rel => exact ⟨by rw [HD2.out, if_pos HCND.out]; exact S2.out⟩
                | false =>
                  have HCND := Aside0.mk (of_decide_eq_false (HBB41.out.symm.trans hb))
                  go_wp2
                  go_meet
                  case rel => exact ⟨by rw [HD2.out, if_neg HCND.out]; exact S41.out⟩
              case rest => as_aux_lemma =>
                clear S41 HBB41
                have S41 := hcut
                clear hcut
                obtain ⟨bb43, hbb43⟩ : ∃ x : Bool, x = decide ((md < e) ∧ (e < b)) := ⟨_, rfl⟩
                have HBB43 := Aside0.mk hbb43
                clear hbb43
                go_upto_region 43 with (fail)
                go_cut [213] (fun vb wc => vb = .bool bb43 ∧ Aside0 (SW enc w0 blk off d2 wc))
                case first => as_aux_lemma =>
                  by_cases cA : md < e
                  · have zA : (md : Int) < (e : Int) := by omega
                    by_cases cB : e < b
                    · have zB : (e : Int) < (b : Int) := by omega
                      go_wp2
                      go_meet
                      case rel => exact ⟨by rw [HBB43.out]; simp [cA, cB], ⟨S41.out⟩⟩
                    · have zB : ¬ ((e : Int) < (b : Int)) := by omega
                      go_wp2
                      go_meet
                      case rel => exact ⟨by rw [HBB43.out]; simp [cA, cB], ⟨S41.out⟩⟩
                  · have zA : ¬ ((md : Int) < (e : Int)) := by omega
                    go_wp2
                    go_meet
                    case rel => exact ⟨by rw [HBB43.out]; simp [cA], ⟨S41.out⟩⟩
                case rest =>
                  clear S41
                  obtain ⟨rfl, S43⟩ := hcut
                  cases hb : bb43 with
                  | true => as_aux_lemma =>
                    have hcnd := (of_decide_eq_true (HBB43.out.symm.trans hb))
                    have HCND := Aside0.mk hcnd
                    have hcall := (ih md e b d2 _ (by omega) HZ2.out S43.out (by omega) (by omega) (by omega))
                    have HCALL := Aside0.mk hcall
                    clear hcnd hcall
                    go_wp2_with fail
                    refine Calls.mono HCALL.out ?_
                    rintro e w2 ⟨rfl, hS2⟩
                    have S2 := Aside0.mk hS2
                    clear hS2 HCALL
                    go_wp2
                    go_end0
                    exact ⟨rfl, by rw [HFIN.out, HD3.out, if_pos HCND.out]; exact S2.out⟩
                  | false => as_aux_lemma =>
                    have HCND := Aside0.mk (of_decide_eq_false (HBB43.out.symm.trans hb))
                    go_wp2
                    go_end0
                    exact ⟨rfl, by rw [HFIN.out, HD3.out, if_neg HCND.out]; exact S43.out⟩

  · have hcz : ¬ (md : Int) < (m : Int) := by omega
    have zst : a = st := by rw [hst]; unfold Stab.st0; rw [← hmd, if_neg hc]
    have zrt : m = rt := by rw [hrt]; unfold Stab.rt0; rw [← hmd, if_neg hc]
    subst zst
    subst zrt
    clear hst hrt hp hmd
    go_enter Try.func102, Try.ntmps102
    go_wp2
    go_loopg [20, 21] (m - a) (fun kx s10 s11 wr => ∃ (s r : Nat), s10 = .int .i64 s ∧ s11 = .int .i64 r ∧ a ≤ s ∧ s ≤ r ∧ r ≤ m ∧ r - s ≤ kx ∧ Aside (SW enc w0 blk off d wr) ∧ Hid (Stab.bs3 (ltOf cf) d p s r = Stab.strt (ltOf cf) d a m b))
    case atStart => exact ⟨a, m, by first | rfl | go_num | (congr 1; omega), by first | rfl | go_num | (congr 1; omega), Nat.le_refl _, by omega, Nat.le_refl _, Nat.le_refl _, S0, HST.out⟩
    case round =>
      clear S0 HST
      obtain ⟨s, r, rfl, rfl, hss, hsr, hrr, hkx, S1, HE⟩ := hrel
      by_cases hlt : s < r
      · have hltz : (s : Int) < (r : Int) := by omega
        obtain ⟨c, hc⟩ : ∃ q, q = (s + r) / 2 := ⟨_, rfl⟩
        have zc : ((s : Int) + (r : Int)) / 2 = (c : Int) := by omega
        have hsc : s ≤ c := by omega
        have hcr : c < r := by omega
        obtain ⟨qq, hq⟩ : ∃ q, q = p - c := ⟨_, rfl⟩
        have zq : (p : Int) - (c : Int) = (qq : Int) := by omega
        have hqN : qq < N := by omega
        have HCC := Aside0.mk hc
        have HQ := Aside0.mk hq
        clear hc hq
        cases hlv : (ltOf cf) d[qq]! d[c]! with
        | true => as_aux_lemma =>
          obtain ⟨iN12, hiN12⟩ : ∃ q, q = qq := ⟨_, rfl⟩
          obtain ⟨jN12, hjN12⟩ : ∃ q, q = c := ⟨_, rfl⟩
          have ea12 : ((qq : Int)).toNat = iN12 := by omega
          have pa12 : (0 : Int) ≤ (qq : Int) := by omega
          have ba12 : (qq : Int) < (N : Int) := by omega
          have ra12 : IntKind.i64.wrap ((qq : Int)) = (qq : Int) := by rw [IntKind.wrap_i64]; omega
          have ec12 : ((c : Int)).toNat = jN12 := by omega
          have pc12 : (0 : Int) ≤ (c : Int) := by omega
          have bc12 : (c : Int) < (N : Int) := by omega
          have rc12 : IntKind.i64.wrap ((c : Int)) = (c : Int) := by rw [IntKind.wrap_i64]; omega
          obtain ⟨x12, hx12⟩ : ∃ x, x = d[qq]! := ⟨_, rfl⟩
          obtain ⟨y12, hy12⟩ : ∃ x, x = d[c]! := ⟨_, rfl⟩
          have la12 := S1.out.cl R (by omega : d.size = d0.size) (qq) (by omega)
          have lb12 := S1.out.cl R (by omega : d.size = d0.size) (c) (by omega)
          rw [← hx12, ← hiN12] at la12
          rw [← hy12, ← hjN12] at lb12
          have hc12 := S1.out.cmp HC.out (by omega : d.size = d0.size) x12 y12
          have hv12 : cf x12 y12 < 0 := by rw [hx12, hy12]; exact of_decide_eq_true hlv
          have hd12 : decide (cf x12 y12 < 0) = true := decide_eq_true hv12
          clear hx12 hy12 hiN12 hjN12
          go_wp2_with fail
          go_quiet_grown (first | (go_at_fn g; refine Calls.grown_of (hc12 _ _)))
          have S2 : Aside (SW enc w0 blk off d (grow (wr.drewN nq) osq)) := S1.out.grown nq osq
          clear la12 lb12 hc12 S1
          generalize grow (wr.drewN nq) osq = w2 at S2 ⊢
          clear nq osq
          clear ea12 ec12
          go_wp2
          go_roundg (c - s)
          case measure => omega
          case rel => exact ⟨s, c, rfl, by go_num, hss, by omega, by omega, Nat.le_refl _, S2, (show Hid _ from by rw [HQ.out, HCC.out] at hlv; rw [HCC.out]; exact (Stab.bs3_lt (ltOf cf) d p s r hlt hlv).symm.trans HE.out)⟩
        | false => as_aux_lemma =>
          obtain ⟨iN13, hiN13⟩ : ∃ q, q = qq := ⟨_, rfl⟩
          obtain ⟨jN13, hjN13⟩ : ∃ q, q = c := ⟨_, rfl⟩
          have ea13 : ((qq : Int)).toNat = iN13 := by omega
          have pa13 : (0 : Int) ≤ (qq : Int) := by omega
          have ba13 : (qq : Int) < (N : Int) := by omega
          have ra13 : IntKind.i64.wrap ((qq : Int)) = (qq : Int) := by rw [IntKind.wrap_i64]; omega
          have ec13 : ((c : Int)).toNat = jN13 := by omega
          have pc13 : (0 : Int) ≤ (c : Int) := by omega
          have bc13 : (c : Int) < (N : Int) := by omega
          have rc13 : IntKind.i64.wrap ((c : Int)) = (c : Int) := by rw [IntKind.wrap_i64]; omega
          obtain ⟨x13, hx13⟩ : ∃ x, x = d[qq]! := ⟨_, rfl⟩
          obtain ⟨y13, hy13⟩ : ∃ x, x = d[c]! := ⟨_, rfl⟩
          have la13 := S1.out.cl R (by omega : d.size = d0.size) (qq) (by omega)
          have lb13 := S1.out.cl R (by omega : d.size = d0.size) (c) (by omega)
          rw [← hx13, ← hiN13] at la13
          rw [← hy13, ← hjN13] at lb13
          have hc13 := S1.out.cmp HC.out (by omega : d.size = d0.size) x13 y13
          have hv13 : ¬ cf x13 y13 < 0 := by rw [hx13, hy13]; exact of_decide_eq_false hlv
          have hd13 : decide (cf x13 y13 < 0) = false := decide_eq_false hv13
          clear hx13 hy13 hiN13 hjN13
          go_wp2_with fail
          go_quiet_grown (first | (go_at_fn g; refine Calls.grown_of (hc13 _ _)))
          have S2 : Aside (SW enc w0 blk off d (grow (wr.drewN nq) osq)) := S1.out.grown nq osq
          clear la13 lb13 hc13 S1
          generalize grow (wr.drewN nq) osq = w2 at S2 ⊢
          clear nq osq
          clear ea13 ec13
          go_wp2
          go_roundg (r - (c + 1))
          case measure => omega
          case rel => exact ⟨c + 1, r, by go_num, rfl, by omega, by omega, hrr, Nat.le_refl _, S2, (show Hid _ from by rw [HQ.out, HCC.out] at hlv; rw [HCC.out]; exact (Stab.bs3_ge (ltOf cf) d p s r hlt hlv).symm.trans HE.out)⟩
      · as_aux_lemma =>
        have hltz : ¬ (s : Int) < (r : Int) := by omega
        have hF : Stab.strt (ltOf cf) d a m b = s := by rw [← HE.out, Stab.bs3_end _ _ _ _ _ hlt]
        have hsr2 : s ≤ m := by omega
        clear HE hlt hsr hrr hkx
        obtain ⟨e, he⟩ : ∃ q, q = md + m - s := ⟨_, rfl⟩
        have ze : (md : Int) + (m : Int) - (s : Int) = (e : Int) := by omega
        have hme : m ≤ e := by omega
        have heb : e ≤ b := by omega
        have has : a ≤ s := by omega
        have hsm : s ≤ m := by omega
        have hsmd : s ≤ md := by omega
        have hmde : md ≤ e := by omega
        obtain ⟨d1, hd1⟩ : ∃ x, x = (if s < m ∧ m < e then Stab.rotLoop m (m - s) (e - m) d else d) := ⟨_, rfl⟩
        have hz1 : d1.size = N := by rw [hd1]; split; (rw [Stab.rotLoop_size m _ _ _ _ (Nat.le_refl _)]; exact hsd); exact hsd
        obtain ⟨d2, hd2⟩ : ∃ x, x = (if a < s ∧ s < md then Stab.symMerge (ltOf cf) a s md d1 else d1) := ⟨_, rfl⟩
        have hz2 : d2.size = N := by rw [hd2]; split; (rw [Stab.symMerge_size _ _ _ _ _ _ rfl]; exact hz1); exact hz1
        obtain ⟨d3, hd3⟩ : ∃ x, x = (if md < e ∧ e < b then Stab.symMerge (ltOf cf) md e b d2 else d2) := ⟨_, rfl⟩
        have hfin : Stab.symMerge (ltOf cf) a m b d = d3 := by
          rw [Stab.symMerge_mid _ _ _ _ _ ⟨ham, hmb⟩ h1 h2]
          unfold Stab.rotd
          simp only [hF, ← HMD.out, ← he]
          rw [hd3, hd2, hd1]
        have HFIN := Aside0.mk hfin
        have HZ1 := Aside0.mk hz1
        have HZ2 := Aside0.mk hz2
        have HD1 := Aside0.mk hd1
        have HD2 := Aside0.mk hd2
        have HD3 := Aside0.mk hd3
        clear hz1 hz2 hd1 hd2 hd3 hfin hF he
        obtain ⟨bb39, hbb39⟩ : ∃ x : Bool, x = decide ((s < m) ∧ (m < e)) := ⟨_, rfl⟩
        have HBB39 := Aside0.mk hbb39
        clear hbb39
        go_upto_region 39 with (fail)
        go_cut [185] (fun vb wc => vb = .bool bb39 ∧ Aside0 (SW enc w0 blk off d wc))
        case first => as_aux_lemma =>
          by_cases cA : s < m
          · have zA : (s : Int) < (m : Int) := by omega
            by_cases cB : m < e
            · have zB : (m : Int) < (e : Int) := by omega
              go_wp2
              go_meet
              case rel => exact ⟨by rw [HBB39.out]; simp [cA, cB], ⟨S1.out⟩⟩
            · have zB : ¬ ((m : Int) < (e : Int)) := by omega
              go_wp2
              go_meet
              case rel => exact ⟨by rw [HBB39.out]; simp [cA, cB], ⟨S1.out⟩⟩
          · have zA : ¬ ((s : Int) < (m : Int)) := by omega
            go_wp2
            go_meet
            case rel => exact ⟨by rw [HBB39.out]; simp [cA], ⟨S1.out⟩⟩
        case rest =>
          clear S1
          obtain ⟨rfl, S39⟩ := hcut
          go_upto_if 185 with (fail)
          go_cut [] (fun wc => Aside0 (SW enc w0 blk off d1 wc))
          case first => as_aux_lemma =>
            cases hb : bb39 with
            | true =>
              have hcnd := (of_decide_eq_true (HBB39.out.symm.trans hb))
              have HCND := Aside0.mk hcnd
              have hcall := (rotate_walk enc g cb blk off cap s m e d0 d w0 _ R (by omega) S39.out (by omega) (by omega) (by omega) (by omega))
              rw [hsd] at hcall
              have HCALL := Aside0.mk hcall
              clear hcnd hcall
              go_wp2_with fail
              refine Calls.mono HCALL.out ?_
              rintro e w2 ⟨rfl, hS2⟩
              have S2 := Aside0.mk hS2
              clear hS2 HCALL
              go_wp2
              go_meet
              case rel => exact ⟨by rw [HD1.out, if_pos HCND.out]; exact S2.out⟩
            | false =>
              have HCND := Aside0.mk (of_decide_eq_false (HBB39.out.symm.trans hb))
              go_wp2
              go_meet
              case rel => exact ⟨by rw [HD1.out, if_neg HCND.out]; exact S39.out⟩
          case rest => as_aux_lemma =>
            clear S39 HBB39
            have S39 := hcut
            clear hcut
            obtain ⟨bb41, hbb41⟩ : ∃ x : Bool, x = decide ((a < s) ∧ (s < md)) := ⟨_, rfl⟩
            have HBB41 := Aside0.mk hbb41
            clear hbb41
            go_upto_region 41 with (fail)
            go_cut [199] (fun vb wc => vb = .bool bb41 ∧ Aside0 (SW enc w0 blk off d1 wc))
            case first => as_aux_lemma =>
              by_cases cA : a < s
              · have zA : (a : Int) < (s : Int) := by omega
                by_cases cB : s < md
                · have zB : (s : Int) < (md : Int) := by omega
                  go_wp2
                  go_meet
                  case rel => exact ⟨by rw [HBB41.out]; simp [cA, cB], ⟨S39.out⟩⟩
                · have zB : ¬ ((s : Int) < (md : Int)) := by omega
                  go_wp2
                  go_meet
                  case rel => exact ⟨by rw [HBB41.out]; simp [cA, cB], ⟨S39.out⟩⟩
              · have zA : ¬ ((a : Int) < (s : Int)) := by omega
                go_wp2
                go_meet
                case rel => exact ⟨by rw [HBB41.out]; simp [cA], ⟨S39.out⟩⟩
            case rest =>
              clear S39
              obtain ⟨rfl, S41⟩ := hcut
              go_upto_if 199 with (fail)
              go_cut [] (fun wc => Aside0 (SW enc w0 blk off d2 wc))
              case first => as_aux_lemma =>
                cases hb : bb41 with
                | true =>
                  have hcnd := (of_decide_eq_true (HBB41.out.symm.trans hb))
                  have HCND := Aside0.mk hcnd
                  have hcall := (ih a s md d1 _ (by omega) HZ1.out S41.out (by omega) (by omega) (by omega))
                  have HCALL := Aside0.mk hcall
                  clear hcnd hcall
                  go_wp2_with fail
                  refine Calls.mono HCALL.out ?_
                  rintro e w2 ⟨rfl, hS2⟩
                  have S2 := Aside0.mk hS2
                  clear hS2 HCALL
                  go_wp2
                  go_meet
                  case rel => exact ⟨by rw [HD2.out, if_pos HCND.out]; exact S2.out⟩
                | false =>
                  have HCND := Aside0.mk (of_decide_eq_false (HBB41.out.symm.trans hb))
                  go_wp2
                  go_meet
                  case rel => exact ⟨by rw [HD2.out, if_neg HCND.out]; exact S41.out⟩
              case rest => as_aux_lemma =>
                clear S41 HBB41
                have S41 := hcut
                clear hcut
                obtain ⟨bb43, hbb43⟩ : ∃ x : Bool, x = decide ((md < e) ∧ (e < b)) := ⟨_, rfl⟩
                have HBB43 := Aside0.mk hbb43
                clear hbb43
                go_upto_region 43 with (fail)
                go_cut [213] (fun vb wc => vb = .bool bb43 ∧ Aside0 (SW enc w0 blk off d2 wc))
                case first => as_aux_lemma =>
                  by_cases cA : md < e
                  · have zA : (md : Int) < (e : Int) := by omega
                    by_cases cB : e < b
                    · have zB : (e : Int) < (b : Int) := by omega
                      go_wp2
                      go_meet
                      case rel => exact ⟨by rw [HBB43.out]; simp [cA, cB], ⟨S41.out⟩⟩
                    · have zB : ¬ ((e : Int) < (b : Int)) := by omega
                      go_wp2
                      go_meet
                      case rel => exact ⟨by rw [HBB43.out]; simp [cA, cB], ⟨S41.out⟩⟩
                  · have zA : ¬ ((md : Int) < (e : Int)) := by omega
                    go_wp2
                    go_meet
                    case rel => exact ⟨by rw [HBB43.out]; simp [cA], ⟨S41.out⟩⟩
                case rest =>
                  clear S41
                  obtain ⟨rfl, S43⟩ := hcut
                  cases hb : bb43 with
                  | true => as_aux_lemma =>
                    have hcnd := (of_decide_eq_true (HBB43.out.symm.trans hb))
                    have HCND := Aside0.mk hcnd
                    have hcall := (ih md e b d2 _ (by omega) HZ2.out S43.out (by omega) (by omega) (by omega))
                    have HCALL := Aside0.mk hcall
                    clear hcnd hcall
                    go_wp2_with fail
                    refine Calls.mono HCALL.out ?_
                    rintro e w2 ⟨rfl, hS2⟩
                    have S2 := Aside0.mk hS2
                    clear hS2 HCALL
                    go_wp2
                    go_end0
                    exact ⟨rfl, by rw [HFIN.out, HD3.out, if_pos HCND.out]; exact S2.out⟩
                  | false => as_aux_lemma =>
                    have HCND := Aside0.mk (of_decide_eq_false (HBB43.out.symm.trans hb))
                    go_wp2
                    go_end0
                    exact ⟨rfl, by rw [HFIN.out, HD3.out, if_neg HCND.out]; exact S43.out⟩
theorem symMerge_walk (enc : α → Value) (cf : α → α → Int) (g : Nat) (cb : Array Value) (blk off cap N : Nat) (d0 : Array α) (w0 : World)
    (eg : ∀ args w, (callFunc g args).run Try.prog w = .ok (.enter g args) w) (hcmp : CmpLays1 Try.prog g cb enc cf blk off d0.size w0) (R : Row1 enc w0 blk off d0) (hs0 : d0.size = N) (hsz : N < 4611686018427387904) : ∀ (q a m b : Nat) (d : Array α) (w : World), q = b - a → d.size = N → SW enc w0 blk off d w → a < m → m < b → b ≤ N →
    Calls Try.prog 102 #[.slice (some ⟨blk, off, none⟩) N cap, .int .i64 a, .int .i64 m, .int .i64 b, .func (.func g) #[] cb] w fun e w' => e = .returned (.tuple #[]) ∧ SW enc w0 blk off (Stab.symMerge (ltOf cf) a m b d) w' := by
  intro q
  induction q using Nat.strongRecOn with
  | _ q ih =>
    intro a m b d w hq hsd S ham hmb hb
    by_cases h1 : m - a = 1
    · exact symMerge_one_walk enc cf g cb blk off cap N d0 w0 eg hcmp R hs0 hsz a m b d w hsd S ham hmb hb h1
    by_cases h2 : b - m = 1
    · exact symMerge_two_walk enc cf g cb blk off cap N d0 w0 eg hcmp R hs0 hsz a m b d w hsd S ham hmb hb h1 h2
    exact symMerge_mid_walk enc cf g cb blk off cap N d0 w0 eg hcmp R hs0 hsz a m b d w hsd S ham hmb hb h1 h2 (fun a' m' b' d' w' hl h1 h2 h3 h4 h5 => ih _ (by omega) a' m' b' d' w' rfl h1 h2 h3 h4 h5)
end Go.Proofs.YteijndaldkkpfaaW.SortW
