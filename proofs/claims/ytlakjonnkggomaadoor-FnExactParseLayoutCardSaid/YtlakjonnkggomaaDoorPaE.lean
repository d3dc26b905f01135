/-
  The walk of the program's ParseLayout.
-/
import Derived.Deep.LoopGhost
import Derived.Test.YtlakjonnkggomaaDoorPaD
import Derived.Test.YtlakjonnkggomaaDoorPa
namespace Go.Proofs.YtlakjonnkggomaaDoorW.PrintMore
set_option linter.unusedVariables false
set_option linter.unusedSimpArgs false
open Go.Proofs Go.Deep Go.Proofs.YtlakjonnkggomaaDoor.Pa
open Go.RowKit Go.Proofs.YtlakjonnkggomaaDoorW.PrintWords Go.Proofs.YtlakjonnkggomaaDoorW.PrintLast Go.Proofs.YtlakjonnkggomaaDoorW.PrintMore
theorem prow_info : (Tryd.prog.info? 23).map (fun i => (i.zero, i.size, i.bytes)) = some (some (.slice none 0 0), 1, 24) := by kernel_rfl
/-- What has been read ahead of piece i: rows, data. -/
def rI (s : ByteArray) (i : Nat) : List (List Int) := ((pcs s).take (i - 1)).map prow
def dI (s : ByteArray) (i : Nat) : List Int := if i = 0 then [] else prow ((pcs s).getD (i - 1) [])
theorem dI_succ (s : ByteArray) (i : Nat) : dI s (i + 1) = prow ((pcs s).getD i []) := by unfold dI; rw [if_neg (by omega), Nat.add_sub_cancel]
theorem rI_succ (s : ByteArray) (i : Nat) (h : ¬ i = 0) (hi : i < (pcs s).length) : rI s (i + 1) = rI s i ++ [dI s i] := by
  unfold rI dI
  obtain ⟨j, rfl⟩ : ∃ j, i = j + 1 := ⟨i - 1, by omega⟩
  rw [if_neg h, Nat.add_sub_cancel, Nat.add_sub_cancel, List.take_add_one, List.getElem?_eq_getElem (by omega), List.map_append, List.getD_eq_getElem?_getD, List.getElem?_eq_getElem (by omega)]
  rfl
theorem rI_end (s : ByteArray) : rI s (pcs s).length = pLs s ∧ dI s (pcs s).length = pD s := by
  have hp := pcs_pos s
  constructor
  · unfold rI pLs
    rw [List.dropLast_eq_take]
  · unfold dI pD
    rw [if_neg (by omega), List.getD_eq_getElem?_getD, List.getLast?_eq_getElem?]
theorem flds_block {W : World} {base A m c : Nat} {fl : List (List UInt8)} (h : W.ownsRow base 9 1 (.slice (some ⟨A, 0, none⟩) m c) fl.length (fl.map fun x => Value.string ⟨x.toArray⟩)) :
    ∃ cur : Array Value, W.heap[A]? = some (.cells cur 9 (0, 0)) ∧ ∀ (j : Nat) (y : List UInt8), fl[j]? = some y → cur[j]? = some (Value.string ⟨y.toArray⟩) := by
  rcases h.2 with ⟨e, _⟩ | ⟨g, cap, cur, e, hg, hh, hle, _, hs, ht⟩
  · cases e
  · cases e
    refine ⟨cur, hh, fun j y hj => ?_⟩
    have hjl : j < fl.length := (List.getElem?_eq_some_iff.1 hj).1
    have e1 := congrArg (fun l => l[j]?) ht
    simp only [List.getElem?_map, hj, Option.map_some] at e1
    rw [List.getElem?_take_of_lt (by omega), Array.getElem?_toList] at e1
    exact e1
theorem R_form {α : Type} {d : Kd α} {e base : Nat} {ok : Nat → Prop} {W : World} {v : Value} {xs : List α} (h : Kd.R d e W base ok v xs) : ∃ A N k, v = .slice A N k := by
  obtain ⟨A, c, e⟩ := Kd.R_slice h
  exact ⟨A, _, c, e⟩
theorem S_form {α : Type} {d : Kd α} {e base : Nat} {ok : Nat → Prop} {W : World} {v : Value} {xs : List α} (h : Kd.S d e W base ok v xs) : ∃ A N k, v = .slice A N k := R_form (Kd.S_R h)
/-- What ParseLayout answers, if the layout that was read is valid as t says. -/
def paR (s : ByteArray) (t : Bool) : Bool := t && (fmB (pLs s) (pD s)).toList == s.toList
def paL (s : ByteArray) (t : Bool) : List (List Int) := if paR s t = true then pLs s else []
def paD (s : ByteArray) (t : Bool) : List Int := if paR s t = true then pD s else []
theorem paLay_no {w : World} {base : Nat} {s : ByteArray} {t : Bool} (h : paR s t = false) : ∃ f, LayV w base f 0 (.slice none 0 0) (.slice none 0 0) (paL s t) (paD s t) := by
  have e1 : paL s t = [] := by unfold paL; rw [h]; rfl
  have e2 : paD s t = [] := by unfold paD; rw [h]; rfl
  rw [e1, e2]
  exact ⟨fun _ => (0, 0), [], ⟨rfl, .inl ⟨rfl, rfl⟩⟩, fun j hj => absurd hj (Nat.not_lt_zero j), Kd.R_nil _ _ _ _ _⟩
set_option maxHeartbeats 32000000 in
set_option maxRecDepth 100000 in
theorem parse_walk (k : Nat) (w : World) (s : ByteArray) (t : Bool) (hs : s.size ≤ 1048576) (hT : PaT w) (hv : impl_LayoutValid.f k (pLs s) (pD s) = some t) :
    Calls Tryd.prog 12 #[.string s] w fun e w' => ∃ a b f, e = .returned (.tuple #[.agg #[a, b], .bool (paR s t)]) ∧ LayV w' w.heap.size f 0 a b (paL s t) (paD s t) ∧ Below w.heap.size w w' := by
  have hul := Tryd.underlying28
  obtain ⟨gR, hgR⟩ : ∃ g, g = w.heap.size := ⟨_, rfl⟩
  obtain ⟨gL, hgL⟩ : ∃ g, g = w.heap.size + 1 := ⟨_, rfl⟩
  obtain ⟨W1, hW1⟩ : ∃ W1, W1 = w.alloc (.cells #[.slice none 0 0, .slice none 0 0] 28) := ⟨_, rfl⟩
  have hs1 : W1.heap.size = w.heap.size + 1 := by rw [hW1]; simp
  have hb1 : Below w.heap.size w W1 := by rw [hW1]; exact (Below.refl _ w).alloc (Nat.le_refl _) _
  have hr1 : OBL W1 w.heap.size (.slice none 0 0) (.slice none 0 0) := by rw [hW1]; exact blk_new w _
  obtain ⟨W2, hW2⟩ : ∃ W2, W2 = W1.alloc (.cells #[.slice none 0 0, .slice none 0 0] 28) := ⟨_, rfl⟩
  have hb2 : Below W1.heap.size W1 W2 := by rw [hW2]; exact (Below.refl _ W1).alloc (Nat.le_refl _) _
  have hl2 : OBL W2 gL (.slice none 0 0) (.slice none 0 0) := by rw [hW2, hgL, ← hs1]; exact blk_new W1 _
  have hr2 : OBL W2 gR (.slice none 0 0) (.slice none 0 0) := by rw [hgR]; exact blk_below hr1 hb2
  have hb12 : Below w.heap.size w W2 := hb1.trans (hb2.mono (by omega))
  have HB2 := Aside0.mk hb12
  have HL2 := Aside0.mk hl2
  have HR2 := Aside0.mk hr2
  have HT := Aside0.mk hT
  have HV := Aside0.mk hv
  have HS := Aside0.mk hs
  have HSP := Aside0.mk (pa_Split s W2 hs (hT.keep hb12 (Nat.le_refl _)))
  have HLR := Aside0.mk (show gL ≠ gR ∧ w.heap.size ≤ gL from by omega)
  have HW1 := Aside0.mk hW1
  have HW2 := Aside0.mk hW2
  have HGL := Aside0.mk (show gL = gR + 1 from by omega)
  have HGR := Aside0.mk hgR
  have HRB := Aside0.mk (show w.heap.size ≤ gR from by omega)
  clear hs1 hb1 hr1 hb2 hl2 hr2 hb12 hT hv hs hW1 hW2 hgR hgL
  go_enter Tryd.func12, Tryd.ntmps12
  go_upto_region 2 with (fail)
  rw [← HW1.out, ← HW2.out, ← HGR.out, ← HGL.out]
  go_wp2_with fail
  refine HSP.out.mono ?_
  rintro e w3 ⟨PB, hPB, rfl, hw3⟩
  obtain ⟨gP, hgP⟩ : ∃ g, g = W2.heap.size := ⟨_, rfl⟩
  obtain ⟨cs, hcs⟩ : ∃ cs, cs = (PB.map Value.string).toArray := ⟨_, rfl⟩
  rw [← hcs] at hw3
  have hb3 : Below W2.heap.size W2 w3 := by rw [hw3]; exact (Below.refl _ W2).alloc (Nat.le_refl _) _
  have hp3 : w3.heap[gP]? = some (.cells cs 9 (0, 0)) := by rw [hw3, hgP]; exact blk_new W2 _
  have HP0 := Aside0.mk (show PInv w w3 gP cs gL gR (.slice none 0 0) (.slice none 0 0) (rI s 0) (dI s 0) from
    ⟨⟨blk_below HL2.out hb3, blk_below HR2.out hb3, hp3, Kd.S_nil _ _ _ _ _, HB2.out.trans (hb3.mono HB2.out.size), HLR.out.1, HLR.out.2⟩, Kd.S_nil _ _ _ _ _, Kd.R_nil _ _ _ _ _⟩)
  obtain ⟨n, hn⟩ : ∃ n, n = PB.length := ⟨_, rfl⟩
  have hnp : n = (pcs s).length := by rw [← hPB, List.length_map]; exact hn
  have HN := Aside0.mk hnp
  have HNN := Aside0.mk (show n ≤ 1048577 from by have := pcs_len s; have := HS.out; omega)
  have HPC := Aside0.mk (show ∀ i, i < n → ∃ p : ByteArray, cs[i]? = some (.string p) ∧ p.data.toList = (pcs s).getD i [] from fun i hi => by
    have hip : i < PB.length := by omega
    refine ⟨PB[i], by rw [hcs, List.getElem?_toArray, List.getElem?_map, List.getElem?_eq_getElem hip]; rfl, ?_⟩
    rw [← hPB, List.getD_eq_getElem?_getD, List.getElem?_map, List.getElem?_eq_getElem hip]; rfl)
  rw [← hn, ← hgP]
  clear hPB hcs hw3 hb3 hp3 hn hnp hgP HL2 HR2 HB2 HSP HW1 HW2 HGL HGR HLR
  go_wp2_with fail
  go_loopg [14] n (fun kq v14 w' => ∃ (i : Nat) (vL vD : Value), v14 = .int .i64 (i : Int) ∧ Aside0 (kq + i = n) ∧ Aside0 (PInv w w' gP cs gL gR vL vD (rI s i) (dI s i)))
  case atStart => exact ⟨0, .slice none 0 0, .slice none 0 0, rfl, ⟨by omega⟩, HP0⟩
  case round =>
    obtain ⟨i, vL, vD, rfl, HI, HP⟩ := hrel
    obtain ⟨AL, NL, kL, eL⟩ := S_form HP.out.rows
    subst eL
    obtain ⟨AD, ND, kD, eD⟩ := R_form HP.out.dat
    subst eD
    by_cases hi : i < n
    · have h1 : (i : Int) < (n : Int) := by omega
      have h0 : (0 : Int) ≤ (i : Int) := by omega
      obtain ⟨p, hp1, hp2⟩ := HPC.out i hi
      have hpc : wr.cell? ⟨gP, i, none⟩ = some (.string p) := (blk_cell HP.out.base.pc i).trans hp1
      have HPX := Aside0.mk hp2
      have hil : i < (pcs s).length := by rw [← HN.out]; exact hi
      have HPS := Aside0.mk (show p.size ≤ 1048576 from by
        have h := pcs_size s ((pcs s).getD i []) (by rw [List.getD_eq_getElem?_getD, List.getElem?_eq_getElem hil]; exact List.getElem_mem _)
        rw [← hp2, size_list] at h
        have := HS.out
        omega)
      have HHI := Aside0.mk hi
      have HIL := Aside0.mk hil
      have HWI := Aside0.mk (show wrap64 ((i : Int) + 1) = ((i + 1 : Nat) : Int) from by have := HNN.out; rw [wrap64]; omega)
      clear hi hp1 hp2 hil
      by_cases hz : i = 0
      · have hz0 : decide ((0 : Int) < (i : Int)) = false := decide_eq_false (by omega)
        have hz1 : decide ((i : Int) > 0) = false := decide_eq_false (by omega)
        have hz2 : decide (0 < i) = false := decide_eq_false (by omega)
        have hLN : rI s (i + 1) = rI s i := by rw [hz]; rfl
        have HZ := Aside0.mk hz
        clear hz
        go_upto_region 7 with (fail)
        obtain ⟨WX, hWX⟩ : ∃ WX, WX = wr := ⟨_, rfl⟩
        have HB7 := Aside0.mk (show PBase w WX gP cs gL gR (.slice AL NL kL) (.slice AD ND kD) (rI s i) from by rw [hWX]; exact HP.out.base)
        rw [← hWX]
        clear hWX hpc
        have HLN := Aside0.mk hLN
        clear hLN
        have hz1 : WX.cell? ⟨gL, 1, none⟩ = some (.slice AD ND kD) := (blk_cell HB7.out.lay 1).trans rfl
        have hzf := blk_frozen HB7.out.lay 1
        have HP7 := Aside0.mk HB7.out.nil
        go_wp2_with fail
        refine (pa_Fields p _ HPS.out (HT.out.keep HP7.out.base.bel (Nat.le_refl _))).mono ?_
        rintro e w4 ⟨A, rfl, hA, hown, hb⟩
        have HP4 := Aside0.mk (HP7.out.below hb)
        clear hz1 hzf HP7 HB7 hb hA
        obtain ⟨fl, hfl⟩ : ∃ fl, fl = Lib.fieldsD p.data.toList := ⟨_, rfl⟩
        rw [← hfl] at hown ⊢
        have HFL := Aside0.mk hfl
        obtain ⟨cur, hcA, hcj⟩ := flds_block hown
        have HCA := Aside0.mk hcA
        have HCJ := Aside0.mk hcj
        obtain ⟨m, hm⟩ : ∃ m, m = fl.length := ⟨_, rfl⟩
        rw [← hm]
        have HM := Aside0.mk hm
        have HMM := Aside0.mk (show m ≤ 1048576 from by have h1 := fieldsD_len p.data.toList; have h2 := HPS.out; rw [size_list, ← hfl] at h1; omega)
        have HFS := Aside0.mk (show ∀ x ∈ fl, x.length ≤ 1048576 from fun x hx => by have h1 := fieldsD_size p.data.toList x (by rw [← hfl]; exact hx); have h2 := HPS.out; rw [size_list] at h1; omega)
        clear hown hfl hcA hcj hm
        go_wp2_with fail
        go_loopg [32] m (fun kq v32 w' => ∃ (j : Nat) (vE : Value), v32 = .int .i64 (j : Int) ∧ Aside0 (kq + j = m) ∧ Aside0 (PInv w w' gP cs gL gR (.slice AL NL kL) vE (rI s i) (((fl.take j).map pnum).flatten)) ∧ Aside0 (w'.heap[A]? = some (.cells cur 9 (0, 0))))
        case atStart => exact ⟨0, .slice none 0 0, rfl, ⟨by omega⟩, HP4, HCA⟩
        case round =>
          obtain ⟨j, vE, rfl, HJ, HPJ, HCJA⟩ := hrel
          obtain ⟨AE, NE, kE, eE⟩ := R_form HPJ.out.dat
          subst eE
          by_cases hj : j < m
          · have h1 : (j : Int) < (m : Int) := by omega
            have h0 : (0 : Int) ≤ (j : Int) := by omega
            obtain ⟨y, hy⟩ : ∃ y, y = fl.getD j [] := ⟨_, rfl⟩
            have hjl : j < fl.length := by rw [← HM.out]; exact hj
            have hym : fl[j]? = some y := by rw [hy, List.getD_eq_getElem?_getD, List.getElem?_eq_getElem hjl]; rfl
            have hyc : wr.cell? ⟨A, j, none⟩ = some (.string ⟨y.toArray⟩) := (blk_cell HCJA.out j).trans (HCJ.out j y hym)
            have HY := Aside0.mk hym
            have HYS := Aside0.mk (show (⟨y.toArray⟩ : ByteArray).size ≤ 1048576 from by have h := HFS.out y (List.mem_of_getElem? hym); show y.toArray.size ≤ _; simpa using h)
            have HTL := Aside0.mk (show (((fl.take j).map pnum).flatten).length ≤ 1048576 from by have h := pnums_len (fl.take j); have h3 := HMM.out; have h4 := HM.out; rw [List.length_take] at h; omega)
            have HTK := Aside0.mk (show ((fl.take (j + 1)).map pnum).flatten = ((fl.take j).map pnum).flatten ++ pnum y from by rw [List.take_add_one, hym]; simp)
            have HH := Aside0.mk hj
            have HW := Aside0.mk (show wrap64 ((j : Int) + 1) = ((j + 1 : Nat) : Int) from by have := HMM.out; rw [wrap64]; omega)
            clear hj hy hjl hym
            go_wp2_with fail
            refine (pa_Atoi ⟨y.toArray⟩ wr HYS.out (HT.out.keep HPJ.out.base.bel (Nat.le_refl _))).mono ?_
            rintro e w5 ⟨x, er, rfl, hb, hcase⟩
            have HPA := Aside0.mk (HPJ.out.below hb)
            have HCA3 := Aside0.mk (blk_below HCJA.out hb)
            clear hb hyc
            rcases hcase with ⟨rfl, hpn, _, _⟩ | ⟨⟨tp, q, rfl⟩, hpn⟩
            · have HPN := Aside0.mk (show pnum y = [x] from hpn)
              clear hpn
              have hx1 : w5.cell? ⟨gL, 1, none⟩ = some (.slice AE NE kE) := (blk_cell HPA.out.base.lay 1).trans rfl
              go_wp2_with (first | ((with_reducible refine gate_builtin (b := .append) (xs := #[.tmp 44, .tmp 46]) rfl ?_); at_builtin; refine Kd.R_append kI (w0 := w) w.heap.size rfl (.tmp 44) (.tmp 46) 23 3 (.int .i64 0) 8 rfl Tryd.underlying23 int_info rfl (by decide) (by omega) (.slice AE NE kE) (((fl.take j).map pnum).flatten) x [.int .i64 x] (fun _ => True) (fun _ => False) rfl rfl ?aP (fun _ hk => hk.elim) ?aF ?aO ?aB ?aS ?aL ?_; (case aP => exact rfl); (case aF => exact fun _ _ => trivial); (case aO => exact HPA.out.dat); (case aB => exact HPA.out.base.bel); (case aS => exact HPA.out.base.bel.size); (case aL => have := HTL.out; omega); intro v4 w21 ho hb4 hg4 hat4; obtain ⟨A8, N8, k8, e8⟩ := R_form ho; subst e8; have HAP := Aside0.mk (HPA.out.app ho hb4 hg4 hat4); have HKA := Aside0.mk (blk_grown HCA3.out hg4 (Kd.R_ne HPA.out.dat HCA3.out (by decide))); have hy1 : w21.cell? ⟨gL, 1, none⟩ = some (.slice AE NE kE) := (blk_cell HAP.out.1 1).trans rfl; have hf9 := blk_frozen HAP.out.1 1; clear ho hb4 hg4 hat4))
              go_roundg (m - (j + 1))
              case measure => have := HJ.out; have := HH.out; omega
              case rel =>
                refine ⟨j + 1, .slice A8 N8 k8, by rw [HW.out], ⟨by have := HH.out; omega⟩, ⟨?_⟩, ⟨?_⟩⟩
                · rw [HTK.out, HPN.out]
                  exact HAP.out.2
                · exact blk_far HKA.out (blk_ne HKA.out (show w21.heap[gL]? = some (.cells #[(.slice AL NL kL), .slice AE NE kE] 28 (0, 0)) from HAP.out.1) (by decide)) _
            · have HPN := Aside0.mk (show pnum y = [] from hpn)
              clear hpn
              go_wp2_with fail
              go_roundg (m - (j + 1))
              case measure => have := HJ.out; have := HH.out; omega
              case rel =>
                refine ⟨j + 1, .slice AE NE kE, by rw [HW.out], ⟨by have := HH.out; omega⟩, ⟨?_⟩, HCA3⟩
                rw [HTK.out, HPN.out, List.append_nil]
                exact HPA.out
          · have h1 : (m : Int) ≤ (j : Int) := by omega
            have HPE := Aside0.mk (show PInv w wr gP cs gL gR (.slice AL NL kL) (.slice AE NE kE) (rI s (i + 1)) (dI s (i + 1)) from by
              have e1 : fl.take j = fl := List.take_of_length_le (by have := HM.out; omega)
              have h := HPJ.out
              rw [e1] at h
              have e2 : dI s (i + 1) = (fl.map pnum).flatten := by rw [dI_succ, HFL.out, HPX.out]; rfl
              rw [e2, HLN.out]
              exact h)
            clear hj
            go_wp2_with fail
            go_roundg (n - (i + 1))
            case measure => have := HI.out; have := HHI.out; omega
            case rel => exact ⟨i + 1, (.slice AL NL kL), .slice AE NE kE, by rw [HWI.out], ⟨by have := HHI.out; omega⟩, HPE⟩
      · have hz0 : decide ((0 : Int) < (i : Int)) = true := decide_eq_true (by omega)
        have hz1 : decide ((i : Int) > 0) = true := decide_eq_true (by omega)
        have hz2 : decide (0 < i) = true := decide_eq_true (by omega)
        have hLN : rI s (i + 1) = rI s i ++ [dI s i] := rI_succ s i hz HIL.out
        have HRL := Aside0.mk (show (rI s i).length ≤ 1048577 from by have := HNN.out; have := HHI.out; have := HN.out; unfold rI; rw [List.length_map, List.length_take]; omega)
        have HKK := Aside0.mk (show ∀ k, (some k = (.slice AD ND kD : Value).ownBlock) → True ∧ some k ≠ (.slice AL NL kL : Value).ownBlock from fun k hk => by
          obtain ⟨c9, hc9⟩ := Kd.R_typed HP.out.dat k hk.symm
          exact ⟨trivial, Kd.S_ne HP.out.rows hc9 (by decide)⟩)
        have HZ := Aside0.mk hz
        have hw0 : wr.cell? ⟨gL, 0, none⟩ = some (.slice AL NL kL) := (blk_cell HP.out.base.lay 0).trans rfl
        have hw1 : wr.cell? ⟨gL, 1, none⟩ = some (.slice AD ND kD) := (blk_cell HP.out.base.lay 1).trans rfl
        clear hz
        go_upto_region 7 with (first | ((with_reducible refine gate_builtin (b := .append) (xs := #[.tmp 22, .tmp 25]) rfl ?_); at_builtin; refine Kd.S_append (Kd.slice 3 kI) (w0 := w) w.heap.size rfl (.tmp 22) (.tmp 25) 22 23 (.slice none 0 0) 24 rfl Tryd.underlying22 prow_info rfl (by decide) (by omega) (.slice AL NL kL) (rI s i) (dI s i) [.slice AD ND kD] (fun _ => True) (fun k => some k = (.slice AD ND kD : Value).ownBlock) rfl ?aX ?aP ?aK ?aF ?aO ?aB ?aS ?aL ?_; (case aX => exact rfl); (case aP => exact Kd.M_row (Kd.R_tight rfl HP.out.dat)); (case aK => exact HKK.out); (case aF => exact fun _ _ => trivial); (case aO => exact Kd.S_mono HP.out.rows (fun k hk => ⟨trivial, hk⟩)); (case aB => exact HP.out.base.bel); (case aS => exact HP.out.base.bel.size); (case aL => have := HRL.out; omega); intro v4 w21 ho hb4 hg4 hat4; obtain ⟨A4, N4, k4, e4⟩ := S_form ho; subst e4; have HRW := Aside0.mk (HP.out.row ho hb4 hg4); have hy0 : w21.cell? ⟨gL, 0, none⟩ = some (.slice AL NL kL) := (blk_cell HRW.out.1 0).trans rfl; have hf9 := blk_frozen HRW.out.1 0; clear ho hb4 hg4 hat4))
        obtain ⟨WX, hWX⟩ : ∃ WX, WX = w21.setCell ⟨gL, 0, none⟩ (.slice A4 N4 k4) := ⟨_, rfl⟩
        have HB7 := Aside0.mk (show PBase w WX gP cs gL gR (.slice A4 N4 k4) (.slice AD ND kD) (rI s i ++ [dI s i]) from by rw [hWX]; exact HRW.out.2)
        rw [← hWX]
        clear hWX hpc hy0 hf9 hw0 hw1
        have HLN := Aside0.mk hLN
        clear hLN
        have hz1 : WX.cell? ⟨gL, 1, none⟩ = some (.slice AD ND kD) := (blk_cell HB7.out.lay 1).trans rfl
        have hzf := blk_frozen HB7.out.lay 1
        have HP7 := Aside0.mk HB7.out.nil
        go_wp2_with fail
        refine (pa_Fields p _ HPS.out (HT.out.keep HP7.out.base.bel (Nat.le_refl _))).mono ?_
        rintro e w4 ⟨A, rfl, hA, hown, hb⟩
        have HP4 := Aside0.mk (HP7.out.below hb)
        clear hz1 hzf HP7 HB7 hb hA
        obtain ⟨fl, hfl⟩ : ∃ fl, fl = Lib.fieldsD p.data.toList := ⟨_, rfl⟩
        rw [← hfl] at hown ⊢
        have HFL := Aside0.mk hfl
        obtain ⟨cur, hcA, hcj⟩ := flds_block hown
        have HCA := Aside0.mk hcA
        have HCJ := Aside0.mk hcj
        obtain ⟨m, hm⟩ : ∃ m, m = fl.length := ⟨_, rfl⟩
        rw [← hm]
        have HM := Aside0.mk hm
        have HMM := Aside0.mk (show m ≤ 1048576 from by have h1 := fieldsD_len p.data.toList; have h2 := HPS.out; rw [size_list, ← hfl] at h1; omega)
        have HFS := Aside0.mk (show ∀ x ∈ fl, x.length ≤ 1048576 from fun x hx => by have h1 := fieldsD_size p.data.toList x (by rw [← hfl]; exact hx); have h2 := HPS.out; rw [size_list] at h1; omega)
        clear hown hfl hcA hcj hm
        go_wp2_with fail
        go_loopg [32] m (fun kq v32 w' => ∃ (j : Nat) (vE : Value), v32 = .int .i64 (j : Int) ∧ Aside0 (kq + j = m) ∧ Aside0 (PInv w w' gP cs gL gR (.slice A4 N4 k4) vE (rI s i ++ [dI s i]) (((fl.take j).map pnum).flatten)) ∧ Aside0 (w'.heap[A]? = some (.cells cur 9 (0, 0))))
        case atStart => exact ⟨0, .slice none 0 0, rfl, ⟨by omega⟩, HP4, HCA⟩
        case round =>
          obtain ⟨j, vE, rfl, HJ, HPJ, HCJA⟩ := hrel
          obtain ⟨AE, NE, kE, eE⟩ := R_form HPJ.out.dat
          subst eE
          by_cases hj : j < m
          · have h1 : (j : Int) < (m : Int) := by omega
            have h0 : (0 : Int) ≤ (j : Int) := by omega
            obtain ⟨y, hy⟩ : ∃ y, y = fl.getD j [] := ⟨_, rfl⟩
            have hjl : j < fl.length := by rw [← HM.out]; exact hj
            have hym : fl[j]? = some y := by rw [hy, List.getD_eq_getElem?_getD, List.getElem?_eq_getElem hjl]; rfl
            have hyc : wr.cell? ⟨A, j, none⟩ = some (.string ⟨y.toArray⟩) := (blk_cell HCJA.out j).trans (HCJ.out j y hym)
            have HY := Aside0.mk hym
            have HYS := Aside0.mk (show (⟨y.toArray⟩ : ByteArray).size ≤ 1048576 from by have h := HFS.out y (List.mem_of_getElem? hym); show y.toArray.size ≤ _; simpa using h)
            have HTL := Aside0.mk (show (((fl.take j).map pnum).flatten).length ≤ 1048576 from by have h := pnums_len (fl.take j); have h3 := HMM.out; have h4 := HM.out; rw [List.length_take] at h; omega)
            have HTK := Aside0.mk (show ((fl.take (j + 1)).map pnum).flatten = ((fl.take j).map pnum).flatten ++ pnum y from by rw [List.take_add_one, hym]; simp)
            have HH := Aside0.mk hj
            have HW := Aside0.mk (show wrap64 ((j : Int) + 1) = ((j + 1 : Nat) : Int) from by have := HMM.out; rw [wrap64]; omega)
            clear hj hy hjl hym
            go_wp2_with fail
            refine (pa_Atoi ⟨y.toArray⟩ wr HYS.out (HT.out.keep HPJ.out.base.bel (Nat.le_refl _))).mono ?_
            rintro e w5 ⟨x, er, rfl, hb, hcase⟩
            have HPA := Aside0.mk (HPJ.out.below hb)
            have HCA3 := Aside0.mk (blk_below HCJA.out hb)
            clear hb hyc
            rcases hcase with ⟨rfl, hpn, _, _⟩ | ⟨⟨tp, q, rfl⟩, hpn⟩
            · have HPN := Aside0.mk (show pnum y = [x] from hpn)
              clear hpn
              have hx1 : w5.cell? ⟨gL, 1, none⟩ = some (.slice AE NE kE) := (blk_cell HPA.out.base.lay 1).trans rfl
              go_wp2_with (first | ((with_reducible refine gate_builtin (b := .append) (xs := #[.tmp 44, .tmp 46]) rfl ?_); at_builtin; refine Kd.R_append kI (w0 := w) w.heap.size rfl (.tmp 44) (.tmp 46) 23 3 (.int .i64 0) 8 rfl Tryd.underlying23 int_info rfl (by decide) (by omega) (.slice AE NE kE) (((fl.take j).map pnum).flatten) x [.int .i64 x] (fun _ => True) (fun _ => False) rfl rfl ?aP (fun _ hk => hk.elim) ?aF ?aO ?aB ?aS ?aL ?_; (case aP => exact rfl); (case aF => exact fun _ _ => trivial); (case aO => exact HPA.out.dat); (case aB => exact HPA.out.base.bel); (case aS => exact HPA.out.base.bel.size); (case aL => have := HTL.out; omega); intro v4 w21 ho hb4 hg4 hat4; obtain ⟨A8, N8, k8, e8⟩ := R_form ho; subst e8; have HAP := Aside0.mk (HPA.out.app ho hb4 hg4 hat4); have HKA := Aside0.mk (blk_grown HCA3.out hg4 (Kd.R_ne HPA.out.dat HCA3.out (by decide))); have hy1 : w21.cell? ⟨gL, 1, none⟩ = some (.slice AE NE kE) := (blk_cell HAP.out.1 1).trans rfl; have hf9 := blk_frozen HAP.out.1 1; clear ho hb4 hg4 hat4))
              go_roundg (m - (j + 1))
              case measure => have := HJ.out; have := HH.out; omega
              case rel =>
                refine ⟨j + 1, .slice A8 N8 k8, by rw [HW.out], ⟨by have := HH.out; omega⟩, ⟨?_⟩, ⟨?_⟩⟩
                · rw [HTK.out, HPN.out]
                  exact HAP.out.2
                · exact blk_far HKA.out (blk_ne HKA.out (show w21.heap[gL]? = some (.cells #[(.slice A4 N4 k4), .slice AE NE kE] 28 (0, 0)) from HAP.out.1) (by decide)) _
            · have HPN := Aside0.mk (show pnum y = [] from hpn)
              clear hpn
              go_wp2_with fail
              go_roundg (m - (j + 1))
              case measure => have := HJ.out; have := HH.out; omega
              case rel =>
                refine ⟨j + 1, .slice AE NE kE, by rw [HW.out], ⟨by have := HH.out; omega⟩, ⟨?_⟩, HCA3⟩
                rw [HTK.out, HPN.out, List.append_nil]
                exact HPA.out
          · have h1 : (m : Int) ≤ (j : Int) := by omega
            have HPE := Aside0.mk (show PInv w wr gP cs gL gR (.slice A4 N4 k4) (.slice AE NE kE) (rI s (i + 1)) (dI s (i + 1)) from by
              have e1 : fl.take j = fl := List.take_of_length_le (by have := HM.out; omega)
              have h := HPJ.out
              rw [e1] at h
              have e2 : dI s (i + 1) = (fl.map pnum).flatten := by rw [dI_succ, HFL.out, HPX.out]; rfl
              rw [e2, HLN.out]
              exact h)
            clear hj
            go_wp2_with fail
            go_roundg (n - (i + 1))
            case measure => have := HI.out; have := HHI.out; omega
            case rel => exact ⟨i + 1, (.slice A4 N4 k4), .slice AE NE kE, by rw [HWI.out], ⟨by have := HHI.out; omega⟩, HPE⟩
    · have h1 : (n : Int) ≤ (i : Int) := by omega
      have HE := Aside0.mk (show i = n from by have := HI.out; omega)
      have HPF := Aside0.mk (show PInv w wr gP cs gL gR (.slice AL NL kL) (.slice AD ND kD) (pLs s) (pD s) from by
        have h := HP.out
        rw [HE.out, HN.out, (rI_end s).1, (rI_end s).2] at h
        exact h)
      clear hi
      obtain ⟨A0, c0, e0⟩ := Kd.S_slice HPF.out.rows
      obtain ⟨A1, c1, e1⟩ := Kd.R_slice HPF.out.dat
      rw [e0, e1] at HPF
      clear HP e0 e1
      have hw0 : wr.cell? ⟨gL, 0, none⟩ = some (.slice A0 (pLs s).length c0) := (blk_cell HPF.out.base.lay 0).trans rfl
      have hw1 : wr.cell? ⟨gL, 1, none⟩ = some (.slice A1 (pD s).length c1) := (blk_cell HPF.out.base.lay 1).trans rfl
      go_wp2_with fail
      refine (impl_LayoutValid.calls k A0 c0 (pLs s) A1 c1 (pD s) t wr (Kd.R_reads' (Kd.S_R HPF.out.rows)).2.2 (Kd.R_reads' (Kd.S_R HPF.out.rows)).2.1 (Kd.R_reads' HPF.out.dat).2.2 (Kd.R_reads' HPF.out.dat).2.1 HV.out).mono ?_
      rintro e w6 ⟨rfl, hb⟩
      have HP6 := Aside0.mk (HPF.out.below hb)
      clear hb hw0 hw1
      have hr0 : w6.cell? ⟨gR, 0, none⟩ = some (.slice none 0 0) := (blk_cell HP6.out.base.res 0).trans rfl
      have hr1 : w6.cell? ⟨gR, 1, none⟩ = some (.slice none 0 0) := (blk_cell HP6.out.base.res 1).trans rfl
      have hf0 := blk_frozen HP6.out.base.res 0
      have hf1 := blk_frozen HP6.out.base.res 1
      cases t with
      | false =>
        have hpr : paR s false = false := rfl
        go_wp2_with fail
        refine bodyPost_ret (results_ct rfl _ _ gR 28 #[.slice none 0 0, .slice none 0 0] (0, 0) _ rfl (blk_put (blk_put HP6.out.base.res 0 _ rfl) 1 _ rfl) Tryd.underlying28 rfl (by kernel_rfl)) rfl ?_
        obtain ⟨f, hf⟩ := paLay_no (w := (w6.setCell ⟨gR, 0, none⟩ (.slice none 0 0)).setCell ⟨gR, 1, none⟩ (.slice none 0 0)) (base := w.heap.size) hpr
        exact ⟨_, _, f, by rw [hpr]; rfl, hf, (HP6.out.base.bel.setCell HRB.out _).setCell HRB.out _⟩
      | true =>
        have hw0 : w6.cell? ⟨gL, 0, none⟩ = some (.slice A0 (pLs s).length c0) := (blk_cell HP6.out.base.lay 0).trans rfl
        have hw1 : w6.cell? ⟨gL, 1, none⟩ = some (.slice A1 (pD s).length c1) := (blk_cell HP6.out.base.lay 1).trans rfl
        obtain ⟨q1, q2, q3⟩ := pa_sm s HS.out
        have HFC := Aside0.mk (impl_format_walk w6 A0 c0 (pLs s) A1 c1 (pD s) (Kd.R_reads' (Kd.S_R HP6.out.rows)).2.2 (Kd.R_reads' HP6.out.dat).2.2 q2 q3 q1 (HT.out.keep HP6.out.base.bel (Nat.le_refl _)).pow)
        obtain ⟨tx, htx⟩ : ∃ tx, tx = fmB (pLs s) (pD s) := ⟨_, rfl⟩
        have HTX := Aside0.mk htx
        rw [← htx] at HFC
        clear q1 q2 q3 hr0 hr1 hf0 hf1 htx
        go_wp2_with fail
        refine HFC.out.mono ?_
        rintro e w7 ⟨rfl, hb⟩
        have HP7 := Aside0.mk (HP6.out.below hb)
        clear hb hw0 hw1 HFC
        have hr0 : w7.cell? ⟨gR, 0, none⟩ = some (.slice none 0 0) := (blk_cell HP7.out.base.res 0).trans rfl
        have hr1 : w7.cell? ⟨gR, 1, none⟩ = some (.slice none 0 0) := (blk_cell HP7.out.base.res 1).trans rfl
        have hf0 := blk_frozen HP7.out.base.res 0
        have hf1 := blk_frozen HP7.out.base.res 1
        by_cases hq : tx.toList = s.toList
        · have hq1 : (tx.toList == s.toList) = true := beq_iff_eq.mpr hq
          have hq2 : (tx.toList != s.toList) = false := bne_eq_false_iff_eq.mpr hq
          have HPR := Aside0.mk (show paR s true = true from by unfold paR; rw [← HTX.out, hq1]; rfl)
          have hw0 : w7.cell? ⟨gL, 0, none⟩ = some (.slice A0 (pLs s).length c0) := (blk_cell HP7.out.base.lay 0).trans rfl
          have hw1 : w7.cell? ⟨gL, 1, none⟩ = some (.slice A1 (pD s).length c1) := (blk_cell HP7.out.base.lay 1).trans rfl
          clear hq
          go_wp2_with fail
          refine bodyPost_ret (results_ct rfl _ _ gR 28 #[.slice A0 (pLs s).length c0, .slice A1 (pD s).length c1] (0, 0) _ rfl (blk_put (blk_put HP7.out.base.res 0 _ rfl) 1 _ rfl) Tryd.underlying28 rfl (by kernel_rfl)) rfl ?_
          obtain ⟨f, hf⟩ := HP7.out.layV
          have e1 : paL s true = pLs s := by unfold paL; rw [if_pos HPR.out]
          have e2 : paD s true = pD s := by unfold paD; rw [if_pos HPR.out]
          have hne : ∀ k cs t, w7.heap[k]? = some (.cells cs t (0, 0)) → t = 23 ∨ (t = 3 ∧ (f k).1 = 0 ∧ w.heap.size ≤ k) → k ≠ gR := fun k cs t hk ht => by
            have h9 : w7.heap[gR]? = some (.cells #[.slice none 0 0, .slice none 0 0] 28 (0, 0)) := HP7.out.base.res
            rcases ht with rfl | ⟨rfl, _⟩
            · exact blk_ne hk h9 (by decide)
            · exact blk_ne hk h9 (by decide)
          refine ⟨_, _, f, by rw [HPR.out]; rfl, ?_, (HP7.out.base.bel.setCell HRB.out _).setCell HRB.out _⟩
          rw [e1, e2]
          exact hf.keep (fun k cs t hk ht => (Below.heap_setCell _ _ _ k (hne k cs t hk ht)).trans (Below.heap_setCell _ _ _ k (hne k cs t hk ht)))
        · have hq1 : (tx.toList == s.toList) = false := beq_eq_false_iff_ne.mpr hq
          have hq2 : (tx.toList != s.toList) = true := bne_iff_ne.mpr hq
          have HPR := Aside0.mk (show paR s true = false from by unfold paR; rw [← HTX.out, hq1]; rfl)
          clear hq
          go_wp2_with fail
          refine bodyPost_ret (results_ct rfl _ _ gR 28 #[.slice none 0 0, .slice none 0 0] (0, 0) _ rfl (blk_put (blk_put HP7.out.base.res 0 _ rfl) 1 _ rfl) Tryd.underlying28 rfl (by kernel_rfl)) rfl ?_
          obtain ⟨f, hf⟩ := paLay_no (w := (w7.setCell ⟨gR, 0, none⟩ (.slice none 0 0)).setCell ⟨gR, 1, none⟩ (.slice none 0 0)) (base := w.heap.size) HPR.out
          exact ⟨_, _, f, by rw [HPR.out]; rfl, hf, (HP7.out.base.bel.setCell HRB.out _).setCell HRB.out _⟩
end Go.Proofs.YtlakjonnkggomaaDoorW.PrintMore
