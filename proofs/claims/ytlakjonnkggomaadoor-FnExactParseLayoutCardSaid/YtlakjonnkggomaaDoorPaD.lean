/-
  What a text is read as is of bounded sizes; a layout that is being read.
-/
import Derived.Test.YtlakjonnkggomaaDoorPaC
namespace Go.Proofs.YtlakjonnkggomaaDoorW.PrintMore
set_option linter.unusedVariables false
set_option linter.unusedSimpArgs false
open Go.Proofs Go.Deep
open Go.RowKit Go.Proofs.YtlakjonnkggomaaDoorW.PrintWords Go.Proofs.YtlakjonnkggomaaDoorW.PrintLast Go.Proofs.YtlakjonnkggomaaDoorW.PrintMore
theorem cutGo_size (c : UInt8) : ∀ (l cur : List UInt8), ∀ x ∈ cutGo c cur l, x.length ≤ cur.length + l.length
  | [], cur, x, hx => by
    rw [cutGo] at hx
    rw [List.mem_singleton.1 hx]
    exact Nat.le_refl _
  | b :: l, cur, x, hx => by
    rw [cutGo] at hx
    rw [List.length_cons]
    by_cases h : b = c
    · rw [if_pos h] at hx
      rcases List.mem_cons.1 hx with rfl | hx
      · omega
      · have := cutGo_size c l [] x hx
        rw [List.length_nil] at this
        omega
    · rw [if_neg h] at hx
      have := cutGo_size c l _ x hx
      rw [List.length_append, List.length_singleton] at this
      omega
theorem fieldsGoD_len : ∀ (f : Nat) (cur l : List UInt8), (Lib.fieldsGoD f cur l).length ≤ l.length + (if cur = [] then 0 else 1)
  | 0, cur, l => by
    unfold Lib.fieldsGoD
    by_cases h : cur = []
    · rw [if_pos h, if_pos h]; exact Nat.zero_le _
    · rw [if_neg h, if_neg h]; exact Nat.le_add_left _ _
  | f + 1, cur, l => by
    unfold Lib.fieldsGoD
    by_cases hl : l = []
    · rw [if_pos hl]
      by_cases h : cur = []
      · rw [if_pos h, if_pos h]; exact Nat.zero_le _
      · rw [if_neg h, if_neg h]; exact Nat.le_add_left _ _
    rw [if_neg hl]
    have hl0 : 0 < l.length := List.length_pos_iff.2 hl
    by_cases hs : Lib.isSpaceR (Lib.decodeL l).1 = true
    · rw [if_pos hs, List.length_append]
      have := fieldsGoD_len f [] (l.drop (Lib.decodeL l).2)
      rw [if_pos rfl, List.length_drop] at this
      by_cases h : cur = []
      · rw [if_pos h, if_pos h, List.length_nil]; omega
      · rw [if_neg h, if_neg h, List.length_singleton]; omega
    · rw [if_neg hs]
      have := fieldsGoD_len f (cur ++ l.take (Lib.decodeL l).2) (l.drop (Lib.decodeL l).2)
      rw [List.length_drop] at this
      by_cases hd : (Lib.decodeL l).2 = 0
      · rw [hd, List.take_zero, List.append_nil] at this
        rw [hd, List.take_zero, List.append_nil]
        omega
      · by_cases h : cur ++ l.take (Lib.decodeL l).2 = []
        · rw [if_pos h] at this; omega
        · rw [if_neg h] at this; omega
theorem fieldsGoD_size : ∀ (f : Nat) (cur l : List UInt8), ∀ x ∈ Lib.fieldsGoD f cur l, x.length ≤ cur.length + l.length
  | 0, cur, l, x, hx => by
    unfold Lib.fieldsGoD at hx
    by_cases h : cur = []
    · rw [if_pos h] at hx; cases hx
    · rw [if_neg h] at hx; rw [List.mem_singleton.1 hx]; exact Nat.le_add_right _ _
  | f + 1, cur, l, x, hx => by
    unfold Lib.fieldsGoD at hx
    by_cases hl : l = []
    · rw [if_pos hl] at hx
      by_cases h : cur = []
      · rw [if_pos h] at hx; cases hx
      · rw [if_neg h] at hx; rw [List.mem_singleton.1 hx]; exact Nat.le_add_right _ _
    rw [if_neg hl] at hx
    by_cases hs : Lib.isSpaceR (Lib.decodeL l).1 = true
    · rw [if_pos hs] at hx
      rcases List.mem_append.1 hx with hx | hx
      · by_cases h : cur = []
        · rw [if_pos h] at hx; cases hx
        · rw [if_neg h] at hx; rw [List.mem_singleton.1 hx]; exact Nat.le_add_right _ _
      · have := fieldsGoD_size f [] _ x hx
        rw [List.length_nil, List.length_drop] at this
        omega
    · rw [if_neg hs] at hx
      have := fieldsGoD_size f _ _ x hx
      rw [List.length_append, List.length_take, List.length_drop] at this
      omega
theorem fieldsD_len (l : List UInt8) : (Lib.fieldsD l).length ≤ l.length := by
  have := fieldsGoD_len (l.length + 1) [] l
  rw [if_pos rfl] at this
  exact this
theorem fieldsD_size (l : List UInt8) : ∀ x ∈ Lib.fieldsD l, x.length ≤ l.length := fun x hx => by
  have := fieldsGoD_size (l.length + 1) [] l x hx
  rw [List.length_nil] at this
  omega
theorem pnum_len (w : List UInt8) : (pnum w).length ≤ 1 := by
  unfold pnum
  split
  · exact Nat.le_refl _
  · exact Nat.zero_le _
theorem pnum_in (w : List UInt8) : ∀ n ∈ pnum w, -9223372036854775808 ≤ n ∧ n ≤ 9223372036854775807 := by
  intro n hn
  unfold pnum at hn
  split at hn
  · rename_i v hv
    rw [List.mem_singleton.1 hn]
    exact Lib.atoiAll_bounds hv
  · cases hn
theorem pnums_len : ∀ (l : List (List UInt8)), ((l.map pnum).flatten).length ≤ l.length
  | [] => Nat.le_refl _
  | w :: l => by
    rw [List.map_cons, List.flatten_cons, List.length_append, List.length_cons]
    have := pnum_len w
    have := pnums_len l
    omega
theorem prow_len (x : List UInt8) : (prow x).length ≤ x.length := Nat.le_trans (pnums_len _) (fieldsD_len x)
theorem prow_in (x : List UInt8) : InR (prow x) := by
  intro n hn
  unfold prow at hn
  obtain ⟨y, hy, hn⟩ := List.mem_flatten.1 hn
  obtain ⟨w, _, rfl⟩ := List.mem_map.1 hy
  exact pnum_in w n hn
theorem size_list (s : ByteArray) : s.data.toList.length = s.size := by simp
theorem pcs_size (s : ByteArray) : ∀ x ∈ pcs s, x.length ≤ s.size := fun x hx => by
  have := cutGo_size 124 s.data.toList [] x hx
  rw [List.length_nil, size_list] at this
  omega
theorem pcs_len (s : ByteArray) : (pcs s).length ≤ s.size + 1 := by
  rw [pcs_ne]
  have := List.count_le_length (a := (124 : UInt8)) (l := s.data.toList)
  rw [size_list] at this
  omega
theorem pcs_pos (s : ByteArray) : 0 < (pcs s).length := by rw [pcs_ne]; omega
/-- What a text is read as is of bounded sizes. -/
theorem pa_sm (s : ByteArray) (hs : s.size ≤ 1048576) : Sm (pLs s) (pD s) ∧ AllR (pLs s) ∧ InR (pD s) := by
  refine ⟨⟨?_, fun r hr => ?_, ?_⟩, fun r hr => ?_, prow_in _⟩
  · unfold pLs
    rw [List.length_map, List.length_dropLast]
    have := pcs_len s
    omega
  · unfold pLs at hr
    obtain ⟨x, hx, rfl⟩ := List.mem_map.1 hr
    have := pcs_size s x ((List.dropLast_sublist _).subset hx)
    have := prow_len x
    omega
  · unfold pD
    have := prow_len ((pcs s).getLast?.getD [])
    have h : ((pcs s).getLast?.getD []).length ≤ s.size := by
      cases e : (pcs s).getLast? with
      | none => exact Nat.zero_le _
      | some x => exact pcs_size s x (List.mem_of_getLast? e)
    omega
  · unfold pLs at hr
    obtain ⟨x, hx, rfl⟩ := List.mem_map.1 hr
    exact prow_in x
/-- A layout that is being read: its variable, the result's, the text's pieces; what it holds. -/
structure PBase (w w' : World) (gP : Nat) (cs : Array Value) (gL gR : Nat) (vL vD : Value) (Ls : List (List Int)) : Prop where
  lay : OBL w' gL vL vD
  res : OBL w' gR (.slice none 0 0) (.slice none 0 0)
  pc : w'.heap[gP]? = some (.cells cs 9 (0, 0))
  rows : Kd.S (Kd.slice 3 kI) 23 w' w.heap.size (fun _ => True) vL Ls
  bel : Below w.heap.size w w'
  lr : gL ≠ gR
  lb : w.heap.size ≤ gL
structure PInv (w w' : World) (gP : Nat) (cs : Array Value) (gL gR : Nat) (vL vD : Value) (Ls : List (List Int)) (E : List Int) : Prop where
  base : PBase w w' gP cs gL gR vL vD Ls
  rows : Kd.S (Kd.slice 3 kI) 23 w' w.heap.size (fun k => some k ≠ vD.ownBlock) vL Ls
  dat : Kd.R kI 3 w' w.heap.size (fun _ => True) vD E
theorem PBase.below {w w' w'' : World} {gP : Nat} {cs : Array Value} {gL gR : Nat} {vL vD : Value} {Ls : List (List Int)} (h : PBase w w' gP cs gL gR vL vD Ls) (hb : Below w'.heap.size w' w'') : PBase w w'' gP cs gL gR vL vD Ls :=
  ⟨blk_below h.lay hb, blk_below h.res hb, blk_below h.pc hb, Kd.S_below h.rows hb, h.bel.trans (hb.mono h.bel.size), h.lr, h.lb⟩
theorem PInv.below {w w' w'' : World} {gP : Nat} {cs : Array Value} {gL gR : Nat} {vL vD : Value} {Ls : List (List Int)} {E : List Int} (h : PInv w w' gP cs gL gR vL vD Ls E) (hb : Below w'.heap.size w' w'') : PInv w w'' gP cs gL gR vL vD Ls E :=
  ⟨h.base.below hb, Kd.S_below h.rows hb, Kd.R_below h.dat hb⟩
theorem int_tag {e : Nat} (he : e ≠ 3) : ∀ q, q ∈ 3 :: kI.E → q ≠ e := by
  intro q hq
  have : q = 3 := by simpa [kI, Kd.int, Kd.scalar] using hq
  subst this
  exact fun h => he h.symm
theorem rows_tag {e : Nat} (he : e ≠ 3) (he2 : e ≠ 23) : ∀ q, q ∈ 23 :: (Kd.slice 3 kI).E → q ≠ e := by
  intro q hq
  rcases List.mem_cons.1 hq with rfl | hq
  · exact fun h => he2 h.symm
  · exact int_tag he q hq
/-- The data is laid aside: nil. -/
theorem PBase.nil {w w' : World} {gP : Nat} {cs : Array Value} {gL gR : Nat} {vL vD : Value} {Ls : List (List Int)} (h : PBase w w' gP cs gL gR vL vD Ls) : PInv w (w'.setCell ⟨gL, 1, none⟩ (.slice none 0 0)) gP cs gL gR vL (.slice none 0 0) Ls [] := by
  have hS : Kd.S (Kd.slice 3 kI) 23 (w'.setCell ⟨gL, 1, none⟩ (.slice none 0 0)) w.heap.size (fun k => True ∧ k ≠ gL) vL Ls := Kd.S_far (p := ⟨gL, 1, none⟩) (Kd.S_types h.rows h.lay (rows_tag (by decide) (by decide))) (fun k hk => hk.2) _
  refine ⟨⟨blk_put h.lay 1 _ rfl, blk_far h.res (fun e => h.lr e.symm) _, blk_far h.pc (blk_ne h.pc (show w'.heap[gL]? = some (.cells #[vL, vD] 28 (0, 0)) from h.lay) (by decide)) _, Kd.S_mono hS (fun _ _ => trivial), h.bel.setCell h.lb _, h.lr, h.lb⟩, Kd.S_mono hS (fun _ _ => by simp [Value.ownBlock]), Kd.R_nil _ _ _ _ _⟩
/-- A number has been appended. -/
theorem PInv.app {w W w1 : World} {gP : Nat} {cs : Array Value} {gL gR : Nat} {vL vD v1 : Value} {Ls : List (List Int)} {E : List Int} {x : Int} (h : PInv w W gP cs gL gR vL vD Ls E) (hR : Kd.R kI 3 w1 w.heap.size (fun _ => True) v1 (E ++ [x])) (hb : Below w.heap.size w w1) (hg : W.grownBy w1 vD.ownBlock)
    (hat : v1.ownBlock = vD.ownBlock ∨ ∃ b, v1.ownBlock = some b ∧ W.heap.size ≤ b) : OBL w1 gL vL vD ∧ PInv w (w1.setCell ⟨gL, 1, none⟩ v1) gP cs gL gR vL v1 Ls (E ++ [x]) := by
  have n1 : some gL ≠ vD.ownBlock := Kd.R_ne h.dat h.base.lay (by decide)
  have n2 : some gR ≠ vD.ownBlock := Kd.R_ne h.dat h.base.res (by decide)
  have n3 : some gP ≠ vD.ownBlock := Kd.R_ne h.dat h.base.pc (by decide)
  have hl1 : OBL w1 gL vL vD := blk_grown h.base.lay hg n1
  have hp1 := blk_grown h.base.pc hg n3
  have hS0 : Kd.S (Kd.slice 3 kI) 23 w1 w.heap.size (fun k => some k ≠ v1.ownBlock) vL Ls := by
    refine Kd.S_mono (Kd.S_grown (Kd.S_bound h.rows) hg (fun k hk => hk.1)) (fun k hk => ?_)
    rcases hat with e | ⟨b, e, hbw⟩
    · rw [e]; exact hk.1
    · rw [e]; intro e2; have := Option.some.inj e2; have := hk.2.2.1; omega
  have hS : Kd.S (Kd.slice 3 kI) 23 (w1.setCell ⟨gL, 1, none⟩ v1) w.heap.size (fun k => some k ≠ v1.ownBlock ∧ k ≠ gL) vL Ls := Kd.S_far (p := ⟨gL, 1, none⟩) (Kd.S_types hS0 hl1 (rows_tag (by decide) (by decide))) (fun k hk => hk.2) _
  refine ⟨hl1, ⟨blk_put hl1 1 _ rfl, blk_far (blk_grown h.base.res hg n2) (fun e => h.base.lr e.symm) _, blk_far hp1 (blk_ne hp1 (show w1.heap[gL]? = some (.cells #[vL, vD] 28 (0, 0)) from hl1) (by decide)) _, Kd.S_mono hS (fun _ _ => trivial), hb.setCell h.base.lb _, h.base.lr, h.base.lb⟩, Kd.S_mono hS (fun _ hk => hk.1), ?_⟩
  exact Kd.R_mono (Kd.R_far (p := ⟨gL, 1, none⟩) (Kd.R_types hR hl1 (int_tag (by decide))) (fun k hk => hk.2) _) (fun _ _ => trivial)
/-- A row has been appended. -/
theorem PInv.row {w W w1 : World} {gP : Nat} {cs : Array Value} {gL gR : Nat} {vL vD v1 : Value} {Ls : List (List Int)} {E : List Int} (h : PInv w W gP cs gL gR vL vD Ls E) (hS1 : Kd.S (Kd.slice 3 kI) 23 w1 w.heap.size (fun _ => True) v1 (Ls ++ [E])) (hb : Below w.heap.size w w1) (hg : W.grownBy w1 vL.ownBlock) :
    OBL w1 gL vL vD ∧ PBase w (w1.setCell ⟨gL, 0, none⟩ v1) gP cs gL gR v1 vD (Ls ++ [E]) := by
  have n1 : some gL ≠ vL.ownBlock := Kd.S_ne h.rows h.base.lay (by decide)
  have n2 : some gR ≠ vL.ownBlock := Kd.S_ne h.rows h.base.res (by decide)
  have n3 : some gP ≠ vL.ownBlock := Kd.S_ne h.rows h.base.pc (by decide)
  have hl1 : OBL w1 gL vL vD := blk_grown h.base.lay hg n1
  have hp1 := blk_grown h.base.pc hg n3
  have hS : Kd.S (Kd.slice 3 kI) 23 (w1.setCell ⟨gL, 0, none⟩ v1) w.heap.size (fun k => True ∧ k ≠ gL) v1 (Ls ++ [E]) := Kd.S_far (p := ⟨gL, 0, none⟩) (Kd.S_types hS1 hl1 (rows_tag (by decide) (by decide))) (fun k hk => hk.2) _
  exact ⟨hl1, ⟨blk_put hl1 0 _ rfl, blk_far (blk_grown h.base.res hg n2) (fun e => h.base.lr e.symm) _, blk_far hp1 (blk_ne hp1 (show w1.heap[gL]? = some (.cells #[vL, vD] 28 (0, 0)) from hl1) (by decide)) _, Kd.S_mono hS (fun _ _ => trivial), hb.setCell h.base.lb _, h.base.lr, h.base.lb⟩⟩
/-- What has been read, as rows that bear colours. -/
theorem PInv.layV {w w' : World} {gP : Nat} {cs : Array Value} {gL gR : Nat} {vL vD : Value} {Ls : List (List Int)} {E : List Int} (h : PInv w w' gP cs gL gR vL vD Ls E) : ∃ f, LayV w' w.heap.size f 0 vL vD Ls E := by
  obtain ⟨f, h0, inner, ho, hr⟩ := h.rows
  rw [List.length_zipIdx] at ho
  obtain ⟨F, hF⟩ : ∃ F : Nat → Nat × Nat, F = fun k => open Classical in if some k = vD.ownBlock then (0, Ls.length) else (0, f k) := ⟨_, rfl⟩
  have hil : inner.length = Ls.length := by have := ho.1; rw [this]; exact Nat.mul_one _
  have ho' : w'.ownsRow w.heap.size 23 1 vL Ls.length inner := ho
  refine ⟨F, inner, ho', fun j hj => ?_, ?_⟩
  · have hz := hr.2 j (Ls[j], j) (Kd.zip_at (List.getElem?_eq_getElem hj))
    obtain ⟨u, e, hu⟩ := hz
    have e1 : (inner.drop (j * 1)).take 1 = [u] := e
    rw [Nat.mul_one] at e1
    have e2 : inner[j]? = some u := by
      have := congrArg (fun l => l[0]?) e1
      simpa [List.getElem?_take, List.getElem?_drop] using this
    refine ⟨u, e2, ?_⟩
    have e3 : Ls.getD j [] = Ls[j] := by rw [List.getD_eq_getElem?_getD, List.getElem?_eq_getElem hj]; rfl
    rw [e3]
    refine Kd.R_mono hu (fun k hk => ?_)
    rw [hF]
    show (open Classical in if some k = vD.ownBlock then (0, Ls.length) else (0, f k)) = (0, j)
    rw [if_neg hk.1.1, hk.2]
  · refine Kd.R_mono (Kd.R_tight rfl h.dat) (fun k hk => ?_)
    rw [hF]
    exact if_pos hk
end Go.Proofs.YtlakjonnkggomaaDoorW.PrintMore
