/-
  An array laid behind a layout: the program's lay, the reference's l2Put.
-/
import Derived.Test.YtlakjonnkggomaaLvD
import Derived.Test.YtlakjonnkggomaaWLast
namespace Go.Proofs.YtlakjonnkggomaaW.PrintMore
set_option linter.unusedVariables false
set_option linter.unusedSimpArgs false
open Go.Proofs Go.Deep
open Go.RowKit Go.Proofs.YtlakjonnkggomaaW.PrintWords Go.Proofs.YtlakjonnkggomaaW.PrintLast Go.Proofs.YtlakjonnkggomaaW.PrintMore
abbrev kI : Kd Int := Kd.int .i64
/-- A layout that is being built: its variable, the row of its levels, the levels (each a row of its own), its data. -/
structure LS (W : World) (b base : Nat) (gL cL : Nat) (vD : Value) (Ms : List (List Int)) (E : List Int) : Prop where
  blk : W.heap[b]? = some (.cells #[.slice (some ⟨gL, 0, none⟩) Ms.length cL, vD] 30 (0, 0))
  hb : base ≤ b
  hg : base ≤ gL
  hc : Ms.length ≤ cL
  hz : ∀ rs, W.heap[gL]? = some (.cells rs 23 (0, 0)) → rs.size = cL
  rows : ∃ (rs : Array Value) (f : Nat → Nat), W.heap[gL]? = some (.cells rs 23 (0, 0)) ∧ (∀ i, i < Ms.length → ∃ v, rs[i]? = some v ∧ Kd.R kI 3 W base (fun k => f k = i) v (Ms.getD i [])) ∧ Kd.R kI 3 W base (fun k => f k = Ms.length) vD E
def LBd (Ms : List (List Int)) (E : List Int) (B : Nat) : Prop := (∀ M ∈ Ms, M.length ≤ B) ∧ E.length ≤ B
def lyC : Nat → Nat
  | 0 => 1
  | d + 1 => 400 * lyC d + 1
/-- What is laid. -/
def lyA : List (List Nat) → List Int → Nat → Nat → List (List Int) × List Int → List (List Int) × List Int
  | [], D, _, a, s => (s.1, s.2 ++ [D.getD a 0])
  | L :: Ls, D, lev, a, s => (List.range (L.getD a 0)).foldl (fun s c => lyA Ls D (lev + 1) ((L.take a).sum + c) s) (s.1.set lev (s.1.getD lev [] ++ [((L.getD a 0 : Nat) : Int)]), s.2)
theorem lyA_len : ∀ (Ls : List (List Nat)) (D : List Int) (lev a : Nat) (s : List (List Int) × List Int), (lyA Ls D lev a s).1.length = s.1.length
  | [], _, _, _, _ => rfl
  | L :: Ls, D, lev, a, s => by
    unfold lyA
    have h : ∀ (l : List Nat) (t : List (List Int) × List Int), (l.foldl (fun s c => lyA Ls D (lev + 1) ((L.take a).sum + c) s) t).1.length = t.1.length := by
      intro l
      induction l with
      | nil => intro t; rfl
      | cons c l ih => intro t; rw [List.foldl_cons, ih, lyA_len]
    rw [h, List.length_set]
theorem LBd.mono {Ms : List (List Int)} {E : List Int} {B B' : Nat} (h : LBd Ms E B) (hb : B ≤ B') : LBd Ms E B' := ⟨fun M hM => Nat.le_trans (h.1 M hM) hb, Nat.le_trans h.2 hb⟩
theorem LBd.getD {Ms : List (List Int)} {E : List Int} {B : Nat} (h : LBd Ms E B) (i : Nat) : (Ms.getD i []).length ≤ B := by
  rw [List.getD_eq_getElem?_getD]
  cases hi : Ms[i]? with
  | none => exact Nat.zero_le _
  | some M => exact h.1 M (List.mem_of_getElem? hi)
theorem LBd.set {Ms : List (List Int)} {E : List Int} {B : Nat} (h : LBd Ms E B) (i : Nat) (z : Int) : LBd (Ms.set i (Ms.getD i [] ++ [z])) E (B + 1) := by
  refine ⟨fun M hM => ?_, Nat.le_succ_of_le h.2⟩
  rcases List.mem_or_eq_of_mem_set hM with h1 | rfl
  · exact Nat.le_succ_of_le (h.1 M h1)
  · rw [List.length_append, List.length_singleton]; have := h.getD i; omega
theorem int_info : (Try.prog.info? 3).map (fun i => (i.zero, i.size, i.bytes)) = some (some (.int .i64 0), 1, 8) := by kernel_rfl
theorem lsT1 : ∀ q, q ∈ 3 :: kI.E → q ≠ 30 := by
  intro q hq
  have : q = 3 := by simpa [kI, Kd.int, Kd.scalar] using hq
  subst this; decide
theorem lsT2 : ∀ q, q ∈ 3 :: kI.E → q ≠ 23 := by
  intro q hq
  have : q = 3 := by simpa [kI, Kd.int, Kd.scalar] using hq
  subst this; decide
theorem ne_tag {W : World} {g b t t' : Nat} {cs cs' : Array Value} (h : W.heap[g]? = some (.cells cs t (0, 0))) (h' : W.heap[b]? = some (.cells cs' t' (0, 0))) (ht : t ≠ t') : g ≠ b := by
  rintro rfl
  rw [h] at h'
  injection h' with h1
  injection h1 with _ h2 _
  exact ht h2
theorem rz_of {W : World} {g t cL : Nat} {rs : Array Value} (h : W.heap[g]? = some (.cells rs t (0, 0))) (e : rs.size = cL) : ∀ rs', W.heap[g]? = some (.cells rs' t (0, 0)) → rs'.size = cL := by
  intro rs' h'
  rw [h] at h'
  injection h' with h'
  injection h' with h1 _ _
  rw [← h1, e]
theorem LS.lt {W : World} {b base gL cL : Nat} {vD : Value} {Ms : List (List Int)} {E : List Int} (h : LS W b base gL cL vD Ms E) : b < W.heap.size := blk_lt h.blk
theorem LS.move {W W' : World} {b base gL cL : Nat} {vD : Value} {Ms : List (List Int)} {E : List Int} (h : LS W b base gL cL vD Ms E) (hm : Below W.heap.size W W') : LS W' b base gL cL vD Ms E := by
  obtain ⟨rs, f, h1, h2, h3⟩ := h.rows
  refine ⟨blk_below h.blk hm, h.hb, h.hg, h.hc, rz_of (blk_below h1 hm) (h.hz rs h1), rs, f, blk_below h1 hm, fun i hi => ?_, Kd.R_below h3 hm⟩
  obtain ⟨v, hv, hR⟩ := h2 i hi
  exact ⟨v, hv, Kd.R_below hR hm⟩
theorem pair_at2 {w : World} {A : Option Addr} {n : Nat} {xs : List (Value × Value)} (h : Kd.C kPair w A n xs) (i : Nat) (hi : i < n) : ∃ ad, A = some ad ∧ w.cell? (ad.add (i * 2)) = some (xs.getD i pD).1 ∧ w.cell? (ad.add (i * 2 + 1)) = some (xs.getD i pD).2 := by
  obtain ⟨ad, c, e, _, hK, hc⟩ := Kd.C_get h pD (i : Int) (by omega) (by omega)
  rw [show ((i : Int)).toNat = i from by omega] at hK hc
  have h1 := hK.1
  exact ⟨ad, e, hc 0 _ (by rw [h1]; rfl), hc 1 _ (by rw [h1]; rfl)⟩
/-- The colours, once more: what is made from here on bears the colour c. -/
def recol (W : World) (f : Nat → Nat) (c : Nat) : Nat → Nat := fun k => if k < W.heap.size then f k else c
theorem recol_R {W : World} {base : Nat} {f : Nat → Nat} {c i : Nat} {v : Value} {xs : List Int} (h : Kd.R kI 3 W base (fun k => f k = i) v xs) : Kd.R kI 3 W base (fun k => recol W f c k = i) v xs :=
  Kd.R_mono (Kd.R_bound h) (fun k hk => by unfold recol; rw [if_pos hk.2.2.1]; exact hk.1)
theorem recol_new {W : World} {f : Nat → Nat} {c k : Nat} (h : W.heap.size ≤ k) : recol W f c k = c := by unfold recol; rw [if_neg (by omega)]
def OA (W : World) (o : Nat) (a b : Value) : Prop := W.heap[o]? = some (.cells #[a, b] 45 (0, 0))
def OS (W : World) (o : Nat) (a b : Value) : Prop := W.heap[o]? = some (.cells #[a, b] 52 (0, 0))
set_option maxHeartbeats 16000000 in
set_option maxRecDepth 100000 in
theorem lay_leaf (W0 w : World) (b base gL cL : Nat) (vD : Value) (Ms : List (List Int)) (E : List Int) (x : Int) (A : Option Addr) (k B : Nat) (hbase : base = W0.heap.size) (hS : LS w b base gL cL vD Ms E) (hB : Below base W0 w) (hbd : LBd Ms E B) (hBB : B + 1 ≤ 2000000000) :
    Calls Try.prog 33 #[.pointer (some ⟨b, 0, none⟩), .agg #[.int .i64 x, .slice A 0 k], .int .i64 (Ms.length : Int)] w fun e w' => ∃ vD', e = .returned (.tuple #[]) ∧ LS w' b base gL cL vD' Ms (E ++ [x]) ∧ Below base W0 w' := by
  have hul := Try.underlying30
  have hun := Try.underlying45
  have HS := Aside0.mk (hS.move ((Below.refl _ w).alloc (Nat.le_refl _) (.cells #[.int .i64 x, .slice A 0 k] 45)))
  have HX := Aside0.mk (show OA (w.alloc (.cells #[.int .i64 x, .slice A 0 k] 45)) w.heap.size (.int .i64 x) (.slice A 0 k) from blk_new w _)
  have HB := Aside0.mk (hB.alloc (by have := hS.lt; have := hS.hb; omega) (.cells #[.int .i64 x, .slice A 0 k] 45))
  have HSZ := Aside0.mk (show w.heap.size < (w.alloc (.cells #[.int .i64 x, .slice A 0 k] 45)).heap.size from by simp)
  have HBD := Aside0.mk hbd
  have HBB := Aside0.mk hBB
  have HBS := Aside0.mk hbase
  have HHB := Aside0.mk hS.hb
  have HHG := Aside0.mk hS.hg
  have HHC := Aside0.mk hS.hc
  clear hS hB hbd hBB hbase
  generalize hWA : w.alloc (.cells #[.int .i64 x, .slice A 0 k] 45) = WA at HS HX HB HSZ
  have hcL : WA.cell? ⟨b, 0, none⟩ = some (.slice (some ⟨gL, 0, none⟩) Ms.length cL) := (blk_cell HS.out.blk 0).trans rfl
  have hcD : WA.cell? ⟨b, 1, none⟩ = some vD := (blk_cell HS.out.blk 1).trans rfl
  have hcX : WA.cell? ⟨w.heap.size, 0, none⟩ = some (.int .i64 x) := (blk_cell HX.out 0).trans rfl
  have hle : ((Ms.length : Int) == (Ms.length : Int)) = true := beq_self_eq_true _
  obtain ⟨dp, hdp⟩ : ∃ dp, dp = Ms.length := ⟨_, rfl⟩
  go_enter Try.func33, Try.ntmps33
  go_upto_region 1 with (fail)

  try rw [hWA]
  clear hWA hdp
  go_upto_region 2 with (fail)
  refine start_ (n := 12) (S := fun w' => w'.cell? ⟨b, 1, none⟩ = some vD ∧ w'.cell? ⟨w.heap.size, 0, none⟩ = some (.int .i64 x)) (ds := [11]) #[false, false, false, false, false, false, false, false, false, false, false, false] (by kernel_rfl) rfl rfl ⟨hcD, hcX⟩ (fun hHeld => ?_)
  have HS1 := Aside0.mk (show LS WA.drew b base gL cL vD Ms E from HS.out.move (below_drew1 (Below.refl _ _)))
  have HX1 := Aside0.mk (show OA WA.drew w.heap.size (.int .i64 x) (.slice A 0 k) from blk_drew HX.out)
  have HB1 := Aside0.mk (below_drew1 HB.out)
  have HSZ1 := Aside0.mk (show w.heap.size < WA.drew.heap.size from HSZ.out)
  generalize WA.drew = WB at HS1 HX1 HB1 HSZ1 hHeld ⊢
  clear HS HX HB HSZ hcD hcX
  refine take_ (i := 0) (N := some 15) (v := ?_) (a' := ?_) #[true, false, false, false, false, false, false, false, false, false, false, false] rfl rfl (by kernel_rfl) (fun _ _ _ h => h) (Or.inl ⟨by rfl, ?_⟩) hHeld ?_ ?_
  rotate_left
  · rintro w' ⟨s0, s1⟩
    go_simp
    with_reducible rfl
  rotate_left
  · simp only [Act.put, List.setIfInBounds_toArray, List.set_cons_zero, List.set_cons_succ, i64_w, i32_w]
    rfl
  refine take_ (i := 1) (N := some 16) (v := ?_) (a' := ?_) #[true, true, false, false, false, false, false, false, false, false, false, false] rfl rfl (by kernel_rfl) (fun _ _ _ h => h) (Or.inl ⟨by rfl, ?_⟩) hHeld ?_ ?_
  rotate_left
  · rintro w' ⟨s0, s1⟩
    go_simp
    with_reducible rfl
  rotate_left
  · simp only [Act.put, List.setIfInBounds_toArray, List.set_cons_zero, List.set_cons_succ, i64_w, i32_w]
    rfl
  refine take_ (i := 2) (N := some 17) (v := ?_) (a' := ?_) #[true, true, true, false, false, false, false, false, false, false, false, false] rfl rfl (by kernel_rfl) (fun _ _ _ h => h) (Or.inl ⟨by rfl, ?_⟩) hHeld ?_ ?_
  rotate_left
  · rintro w' ⟨s0, s1⟩
    go_simp
    with_reducible rfl
  rotate_left
  · simp only [Act.put, List.setIfInBounds_toArray, List.set_cons_zero, List.set_cons_succ, i64_w, i32_w]
    rfl
  refine take_ (i := 3) (N := some 18) (v := ?_) (a' := ?_) #[true, true, true, true, false, false, false, false, false, false, false, false] rfl rfl (by kernel_rfl) (fun _ _ _ h => h) (Or.inl ⟨by rfl, ?_⟩) hHeld ?_ ?_
  rotate_left
  · rintro w' ⟨s0, s1⟩
    go_simp
    with_reducible rfl
  rotate_left
  · simp only [Act.put, List.setIfInBounds_toArray, List.set_cons_zero, List.set_cons_succ, i64_w, i32_w]
    rfl
  refine take_ (i := 4) (N := some 19) (v := ?_) (a' := ?_) #[true, true, true, true, true, false, false, false, false, false, false, false] rfl rfl (by kernel_rfl) (fun _ _ _ h => h) (Or.inl ⟨by rfl, ?_⟩) hHeld ?_ ?_
  rotate_left
  · rintro w' ⟨s0, s1⟩
    go_simp
    with_reducible rfl
  rotate_left
  · simp only [Act.put, List.setIfInBounds_toArray, List.set_cons_zero, List.set_cons_succ, i64_w, i32_w]
    rfl
  refine take_ (i := 5) (N := some 20) (v := ?_) (a' := ?_) #[true, true, true, true, true, true, false, false, false, false, false, false] rfl rfl (by kernel_rfl) (fun _ _ _ h => h) (Or.inl ⟨by rfl, ?_⟩) hHeld ?_ ?_
  rotate_left
  · rintro w' ⟨s0, s1⟩
    go_simp
    with_reducible rfl
  rotate_left
  · simp only [Act.put, List.setIfInBounds_toArray, List.set_cons_zero, List.set_cons_succ, i64_w, i32_w]
    rfl
  refine take_ (i := 6) (N := some 21) (v := ?_) (a' := ?_) #[true, true, true, true, true, true, true, false, false, false, false, false] rfl rfl (by kernel_rfl) (fun _ _ _ h => h) (Or.inl ⟨by rfl, ?_⟩) hHeld ?_ ?_
  rotate_left
  · rintro w' ⟨s0, s1⟩
    go_simp
    with_reducible rfl
  rotate_left
  · simp only [Act.put, List.setIfInBounds_toArray, List.set_cons_zero, List.set_cons_succ, i64_w, i32_w]
    rfl
  refine one_ (i := 7) (N := some 22) #[true, true, true, true, true, true, true, true, false, false, false, false] rfl rfl (by kernel_rfl) (by decide) (fun K hK => ?_)
  refine value_ (w1 := WB.alloc (.cells #[.int .i64 x] 3)) (v := .slice (some ⟨WB.heap.size, 0, none⟩) 1 1) (by rfl) rfl ?_ ?_
  · go_simp
    first | rfl | done
  refine hK.out _ _ ⟨cell?_keep_alloc _ _ _ _ ((blk_cell HS1.out.blk 1).trans rfl), cell?_keep_alloc _ _ _ _ ((blk_cell HX1.out 0).trans rfl)⟩ (fun hHeld => ?_)
  clear hK K
  refine norm_ (a' := ?_) ?_ ?_
  rotate_left
  · simp only [Act.put, List.setIfInBounds_toArray, List.set_cons_zero, List.set_cons_succ, i64_w, i32_w]
    rfl
  refine one_ (i := 8) (N := some 23) #[true, true, true, true, true, true, true, true, true, false, false, false] rfl rfl (by kernel_rfl) (by decide) (fun K hK => ?_)
  obtain ⟨rs, f, hrs, hrow, hdat⟩ := HS1.out.rows
  have HRZ := Aside0.mk (HS1.out.hz rs hrs)
  have hdat2 : Kd.R kI 3 WB base (fun k => recol WB f Ms.length k = Ms.length) vD E := recol_R hdat
  refine Kd.R_append_step kI (w0 := WB) base (by rfl) (.tmp 19) (.tmp 22) 23 3 (.int .i64 0) 8 rfl Try.underlying23 int_info rfl (show 0 < 1 by decide) (by omega) vD E x [.int .i64 x] (fun k => recol WB f Ms.length k = Ms.length) (fun _ => False) rfl rfl rfl (fun _ hk => hk.elim) (fun k hk => recol_new hk) hdat2 (Below.refl _ _) (by have := HS1.out.lt; have := HS1.out.hb; omega) (by have := HBD.out.2; have := HBB.out; omega) ?_
  intro v1 w3 hR3 _ hg3 hat3
  have hgb : some b ≠ vD.ownBlock := Kd.R_ne hdat2 HS1.out.blk (by decide)
  have hgg : some gL ≠ vD.ownBlock := Kd.R_ne hdat2 hrs (by decide)
  have hgx : some w.heap.size ≠ vD.ownBlock := Kd.R_ne hdat2 HX1.out (by decide)
  have hblk3 : w3.heap[b]? = some (.cells #[.slice (some ⟨gL, 0, none⟩) Ms.length cL, vD] 30 (0, 0)) := (hg3.block _ (blk_lt HS1.out.blk) hgb).trans HS1.out.blk
  have hrs3 : w3.heap[gL]? = some (.cells rs 23 (0, 0)) := (hg3.block _ (blk_lt hrs) hgg).trans hrs
  have hx3 : w3.heap[w.heap.size]? = some (.cells #[.int .i64 x, .slice A 0 k] 45 (0, 0)) := (hg3.block _ (blk_lt HX1.out) hgx).trans HX1.out
  have hrow3 : ∀ i, i < Ms.length → ∃ v, rs[i]? = some v ∧ Kd.R kI 3 w3 base (fun k => recol WB f Ms.length k = i) v (Ms.getD i []) := fun i hi => by
    obtain ⟨v, hv, hR⟩ := hrow i hi
    refine ⟨v, hv, Kd.R_grown (recol_R hR) hg3 (fun k hk he => ?_)⟩
    have := hdat2.1 k he.symm
    omega
  have HB3 := Aside0.mk (show Below base W0 w3 from HB1.out.grown hg3 (by rw [HBS.out]; exact HB1.out.size) (fun k hk => Kd.R_base hdat2 k hk))
  obtain ⟨A9, k9, hv1, _, _⟩ := Kd.R_reads hR3
  subst hv1
  have HBK := Aside0.mk hblk3
  have HRS := Aside0.mk hrs3
  have HRW := Aside0.mk hrow3
  have HR3 := Aside0.mk hR3
  refine hK.out _ _ ⟨(blk_cell hblk3 1).trans rfl, (blk_cell hx3 0).trans rfl⟩ (fun hHeld => ?_)
  clear hK K
  have hfo := blk_frozen HBK.out 1
  have hco : w3.cell? ⟨b, 1, none⟩ = some vD := (blk_cell HBK.out 1).trans rfl
  have HSZ3 := Aside0.mk (show w.heap.size < w3.heap.size from blk_lt hx3)
  clear HX1 HB1 HSZ1 hrs hrow hdat hdat2 hR3 hg3 hat3 hgb hgg hgx hblk3 hrs3 hx3 hrow3
  refine norm_ (a' := ?_) (show Act.put _ (some 23) (.slice A9 (E ++ [x]).length k9) = _ from ?_) ?_
  rotate_left
  · simp only [Act.put, List.setIfInBounds_toArray, List.set_cons_zero, List.set_cons_succ, i64_w, i32_w]
    rfl
  refine take_ (i := 9) (N := some 24) (v := ?_) (a' := ?_) #[true, true, true, true, true, true, true, true, true, true, false, false] rfl rfl (by kernel_rfl) (fun _ _ _ h => h) (Or.inl ⟨by rfl, ?_⟩) hHeld ?_ ?_
  rotate_left
  · rintro w' ⟨s0, s1⟩
    go_simp
    with_reducible rfl
  rotate_left
  · simp only [Act.put, List.setIfInBounds_toArray, List.set_cons_zero, List.set_cons_succ, i64_w, i32_w]
    rfl
  refine take_ (i := 10) (N := some 25) (v := ?_) (a' := ?_) #[true, true, true, true, true, true, true, true, true, true, true, false] rfl rfl (by kernel_rfl) (fun _ _ _ h => h) (Or.inl ⟨by rfl, ?_⟩) hHeld ?_ ?_
  rotate_left
  · rintro w' ⟨s0, s1⟩
    go_simp
    with_reducible rfl
  rotate_left
  · simp only [Act.put, List.setIfInBounds_toArray, List.set_cons_zero, List.set_cons_succ, i64_w, i32_w]
    rfl
  refine last_ (i := 11) (N := none) #[true, true, true, true, true, true, true, true, true, true, true, true] rfl rfl (by kernel_rfl) (by decide) (fun K hK => ?_)
  refine skip_ (w1 := ?_) (by rfl) rfl ?_ ?_
  rotate_left
  · go_simp
    rfl
  refine hK.out _ _ ?_
  clear hK K
  refine done_ (by kernel_rfl) ?_
  go_wp2
  first | go_end0 | ((try simp only [Exit.inBlock, Exit.then]); refine bodyPost_ret (results_none rfl _ _ _) rfl ?_)
  refine ⟨.slice A9 (E.length + 1) k9, rfl, ?_, by rw [HBS.out] at HB3 ⊢; exact below_set HB3.out (by have := HHB.out; have := HBS.out; omega)⟩
  have hle2 : (E ++ [x]).length = E.length + 1 := by simp
  have hR4 := HR3.out
  rw [hle2] at hR4
  refine ⟨blk_put HBK.out 1 _ rfl, HHB.out, HHG.out, HHC.out, rz_of (blk_far HRS.out (ne_tag HRS.out HBK.out (by decide)) _) HRZ.out, rs, recol WB f Ms.length, blk_far HRS.out (ne_tag HRS.out HBK.out (by decide)) _, fun i hi => ?_, Kd.R_set hR4 HBK.out lsT1 1 _⟩
  obtain ⟨v, hv, hR⟩ := HRW.out i hi
  exact ⟨v, hv, Kd.R_set hR HBK.out lsT1 1 _⟩

def layH (W0 : World) (b base gL cL : Nat) (Ls : List (List Nat)) (D : List Int) : Prop := ∀ (lev a : Nat) (v : Value) (w : World) (vD : Value) (Ms : List (List Int)) (E : List Int) (B : Nat), Ms.length = lev + Ls.length → Ms.length ≤ 4 → NdT W0 Ls D a v → Below base W0 w → LS w b base gL cL vD Ms E → LBd Ms E B → B + lyC Ls.length ≤ 2000000000 →
  Calls Try.prog 33 #[.pointer (some ⟨b, 0, none⟩), v, .int .i64 (lev : Int)] w fun e w' => ∃ vD', e = .returned (.tuple #[]) ∧ LS w' b base gL cL vD' (lyA Ls D lev a (Ms, E)).1 (lyA Ls D lev a (Ms, E)).2 ∧ LBd (lyA Ls D lev a (Ms, E)).1 (lyA Ls D lev a (Ms, E)).2 (B + lyC Ls.length) ∧ Below base W0 w'
set_option maxHeartbeats 32000000 in
set_option maxRecDepth 100000 in
theorem lay_node (W0 w : World) (b base gL cL : Nat) (vD : Value) (Ms : List (List Int)) (E : List Int) (L : List Nat) (Ls : List (List Nat)) (D : List Int) (lev a nn : Nat) (A : Option Addr) (k B : Nat) (xs : List (Value × Value)) (hbase : base = W0.heap.size) (hnn : nn = L.getD a 0) (hml : Ms.length = lev + (Ls.length + 1))
    (hC : Kd.C kPair W0 A nn xs) (hx : ∀ c, c < nn → NdT W0 Ls D ((L.take a).sum + c) (ndP (xs.getD c pD))) (hpl : ∀ ad, A = some ad → 0 < nn → Pl ad) (h400 : nn ≤ 400) (hl3 : lev + (Ls.length + 1) ≤ 4)
    (hS : LS w b base gL cL vD Ms E) (hB : Below base W0 w) (hbd : LBd Ms E B) (hBB : B + lyC (Ls.length + 1) ≤ 2000000000) (ih : layH W0 b base gL cL Ls D) :
    Calls Try.prog 33 #[.pointer (some ⟨b, 0, none⟩), .agg #[.int .i64 0, .slice A nn k], .int .i64 (lev : Int)] w fun e w' => ∃ vD', e = .returned (.tuple #[]) ∧ LS w' b base gL cL vD' (lyA (L :: Ls) D lev a (Ms, E)).1 (lyA (L :: Ls) D lev a (Ms, E)).2 ∧ LBd (lyA (L :: Ls) D lev a (Ms, E)).1 (lyA (L :: Ls) D lev a (Ms, E)).2 (B + lyC (Ls.length + 1)) ∧ Below base W0 w' := by
  have hul := Try.underlying30
  have hun := Try.underlying45
  have hlv : lev < Ms.length := by omega
  have hS1 := hS.move ((Below.refl _ w).alloc (Nat.le_refl _) (.cells #[.int .i64 0, .slice A nn k] 45))
  obtain ⟨rs, f, hrs, hrow, hdat⟩ := hS1.rows
  have HRZ := Aside0.mk (hS1.hz rs hrs)
  obtain ⟨rv, hrl, hrv⟩ := hrow lev hlv
  obtain ⟨M0, hM0⟩ : ∃ M0, M0 = Ms.getD lev [] := ⟨_, rfl⟩
  rw [← hM0] at hrv
  have HM0 := Aside0.mk hM0
  have HM0L := Aside0.mk (show M0.length ≤ B from by rw [hM0]; exact hbd.getD lev)
  clear hM0
  have HS := Aside0.mk hS1
  have HRS := Aside0.mk hrs
  have HRW := Aside0.mk hrow
  have HDA := Aside0.mk hdat
  have HRV := Aside0.mk hrv
  have HRL := Aside0.mk hrl
  have HLV := Aside0.mk hlv
  have HL3 := Aside0.mk hl3
  have HX := Aside0.mk (show OA (w.alloc (.cells #[.int .i64 0, .slice A nn k] 45)) w.heap.size (.int .i64 0) (.slice A nn k) from blk_new w _)
  have HB := Aside0.mk (hB.alloc (by have := hS.lt; have := hS.hb; omega) (.cells #[.int .i64 0, .slice A nn k] 45))
  have HBD := Aside0.mk hbd
  have HC4 := Aside0.mk (show lyC (Ls.length + 1) = 400 * lyC Ls.length + 1 from rfl)
  have HBB := Aside0.mk (show B + 1 ≤ 2000000000 from by have := HC4.out; omega)
  have HBB2 := Aside0.mk hBB
  have HBS := Aside0.mk hbase
  have HHB := Aside0.mk hS.hb
  have HHG := Aside0.mk hS.hg
  have HHC := Aside0.mk hS.hc
  have HML := Aside0.mk hml
  have HNN := Aside0.mk hnn
  have HC := Aside0.mk hC
  have HXN := Aside0.mk hx
  have HPL := Aside0.mk hpl
  have HN4 := Aside0.mk h400
  have HIH := Aside0.mk ih
  have l0 : (0 : Int) ≤ (lev : Int) := by omega
  have l1 : (lev : Int) < (Ms.length : Int) := by omega
  have hle : ((lev : Int) == (Ms.length : Int)) = false := beq_eq_false_iff_ne.2 (by omega)
  clear hS hB hbd hBB hbase hlv hS1 hrs hrow hdat hrv hrl hml hnn hC hx hpl h400 ih hl3
  generalize hWA : w.alloc (.cells #[.int .i64 0, .slice A nn k] 45) = WA at HS HRS HRW HDA HRV HX HB
  have hcL : WA.cell? ⟨b, 0, none⟩ = some (.slice (some ⟨gL, 0, none⟩) Ms.length cL) := (blk_cell HS.out.blk 0).trans rfl
  have hcR : WA.cell? ⟨gL, lev, none⟩ = some rv := (blk_cell HRS.out lev).trans HRL.out
  have hcX : WA.cell? ⟨w.heap.size, 1, none⟩ = some (.slice A nn k) := (blk_cell HX.out 1).trans rfl
  go_enter Try.func33, Try.ntmps33
  go_upto_region 1 with (fail)
  try rw [hWA]
  clear hWA
  go_upto_region 3 with (fail)
  refine start_ (n := 19) (S := fun w' => w'.cell? ⟨b, 0, none⟩ = some (.slice (some ⟨gL, 0, none⟩) Ms.length cL) ∧ w'.cell? ⟨gL, lev, none⟩ = some rv ∧ w'.cell? ⟨w.heap.size, 1, none⟩ = some (.slice A nn k)) (ds := [18]) #[false, false, false, false, false, false, false, false, false, false, false, false, false, false, false, false, false, false, false] (by kernel_rfl) rfl rfl ⟨hcL, hcR, hcX⟩ (fun hHeld => ?_)
  have HS1 := Aside0.mk (show LS WA.drew b base gL cL vD Ms E from HS.out.move (below_drew1 (Below.refl _ _)))
  have HX1 := Aside0.mk (show OA WA.drew w.heap.size (.int .i64 0) (.slice A nn k) from blk_drew HX.out)
  have HB1 := Aside0.mk (below_drew1 HB.out)
  have HRS1 := Aside0.mk (show WA.drew.heap[gL]? = some (.cells rs 23 (0, 0)) from blk_drew HRS.out)
  have HRW1 := Aside0.mk (show ∀ i, i < Ms.length → ∃ v, rs[i]? = some v ∧ Kd.R kI 3 WA.drew base (fun k => f k = i) v (Ms.getD i []) from fun i hi => by
    obtain ⟨v, hv, hR⟩ := HRW.out i hi
    exact ⟨v, hv, Kd.R_drew hR⟩)
  have HDA1 := Aside0.mk (show Kd.R kI 3 WA.drew base (fun k => f k = Ms.length) vD E from Kd.R_drew HDA.out)
  have HRV1 := Aside0.mk (show Kd.R kI 3 WA.drew base (fun k => f k = lev) rv (M0) from Kd.R_drew HRV.out)
  generalize WA.drew = WB at HS1 HX1 HB1 HRS1 HRW1 HDA1 HRV1 hHeld ⊢
  clear HS HX HB HRS HRW HDA HRV hcL hcR hcX
  refine take_ (i := 0) (N := some 26) (v := ?_) (a' := ?_) #[true, false, false, false, false, false, false, false, false, false, false, false, false, false, false, false, false, false, false] rfl rfl (by kernel_rfl) (fun _ _ _ h => h) (Or.inl ⟨by rfl, ?_⟩) hHeld ?_ ?_
  rotate_left
  · rintro w' ⟨s0, s1, s2⟩
    go_simp
    with_reducible rfl
  rotate_left
  · simp only [Act.put, List.setIfInBounds_toArray, List.set_cons_zero, List.set_cons_succ, i64_w, i32_w]
    rfl
  refine take_ (i := 1) (N := some 27) (v := ?_) (a' := ?_) #[true, true, false, false, false, false, false, false, false, false, false, false, false, false, false, false, false, false, false] rfl rfl (by kernel_rfl) (fun _ _ _ h => h) (Or.inl ⟨by rfl, ?_⟩) hHeld ?_ ?_
  rotate_left
  · rintro w' ⟨s0, s1, s2⟩
    go_simp
    with_reducible rfl
  rotate_left
  · simp only [Act.put, List.setIfInBounds_toArray, List.set_cons_zero, List.set_cons_succ, i64_w, i32_w]
    rfl
  refine take_ (i := 2) (N := some 28) (v := ?_) (a' := ?_) #[true, true, true, false, false, false, false, false, false, false, false, false, false, false, false, false, false, false, false] rfl rfl (by kernel_rfl) (fun _ _ _ h => h) (Or.inl ⟨by rfl, ?_⟩) hHeld ?_ ?_
  rotate_left
  · rintro w' ⟨s0, s1, s2⟩
    go_simp
    with_reducible rfl
  rotate_left
  · simp only [Act.put, List.setIfInBounds_toArray, List.set_cons_zero, List.set_cons_succ, i64_w, i32_w]
    rfl
  refine take_ (i := 3) (N := some 29) (v := ?_) (a' := ?_) #[true, true, true, true, false, false, false, false, false, false, false, false, false, false, false, false, false, false, false] rfl rfl (by kernel_rfl) (fun _ _ _ h => h) (Or.inl ⟨by rfl, ?_⟩) hHeld ?_ ?_
  rotate_left
  · rintro w' ⟨s0, s1, s2⟩
    go_simp
    with_reducible rfl
  rotate_left
  · simp only [Act.put, List.setIfInBounds_toArray, List.set_cons_zero, List.set_cons_succ, i64_w, i32_w]
    rfl
  refine take_ (i := 4) (N := some 30) (v := ?_) (a' := ?_) #[true, true, true, true, true, false, false, false, false, false, false, false, false, false, false, false, false, false, false] rfl rfl (by kernel_rfl) (fun _ _ _ h => h) (Or.inl ⟨by rfl, ?_⟩) hHeld ?_ ?_
  rotate_left
  · rintro w' ⟨s0, s1, s2⟩
    go_simp
    with_reducible rfl
  rotate_left
  · simp only [Act.put, List.setIfInBounds_toArray, List.set_cons_zero, List.set_cons_succ, i64_w, i32_w]
    rfl
  refine take_ (i := 5) (N := some 31) (v := ?_) (a' := ?_) #[true, true, true, true, true, true, false, false, false, false, false, false, false, false, false, false, false, false, false] rfl rfl (by kernel_rfl) (fun _ _ _ h => h) (Or.inl ⟨by rfl, ?_⟩) hHeld ?_ ?_
  rotate_left
  · rintro w' ⟨s0, s1, s2⟩
    go_simp
    with_reducible rfl
  rotate_left
  · simp only [Act.put, List.setIfInBounds_toArray, List.set_cons_zero, List.set_cons_succ, i64_w, i32_w]
    rfl
  refine take_ (i := 6) (N := some 32) (v := ?_) (a' := ?_) #[true, true, true, true, true, true, true, false, false, false, false, false, false, false, false, false, false, false, false] rfl rfl (by kernel_rfl) (fun _ _ _ h => h) (Or.inl ⟨by rfl, ?_⟩) hHeld ?_ ?_
  rotate_left
  · rintro w' ⟨s0, s1, s2⟩
    go_simp
    with_reducible rfl
  rotate_left
  · simp only [Act.put, List.setIfInBounds_toArray, List.set_cons_zero, List.set_cons_succ, i64_w, i32_w]
    rfl
  refine take_ (i := 7) (N := some 33) (v := ?_) (a' := ?_) #[true, true, true, true, true, true, true, true, false, false, false, false, false, false, false, false, false, false, false] rfl rfl (by kernel_rfl) (fun _ _ _ h => h) (Or.inl ⟨by rfl, ?_⟩) hHeld ?_ ?_
  rotate_left
  · rintro w' ⟨s0, s1, s2⟩
    go_simp
    with_reducible rfl
  rotate_left
  · simp only [Act.put, List.setIfInBounds_toArray, List.set_cons_zero, List.set_cons_succ, i64_w, i32_w]
    rfl
  refine take_ (i := 8) (N := some 34) (v := ?_) (a' := ?_) #[true, true, true, true, true, true, true, true, true, false, false, false, false, false, false, false, false, false, false] rfl rfl (by kernel_rfl) (fun _ _ _ h => h) (Or.inl ⟨by rfl, ?_⟩) hHeld ?_ ?_
  rotate_left
  · rintro w' ⟨s0, s1, s2⟩
    go_simp
    with_reducible rfl
  rotate_left
  · simp only [Act.put, List.setIfInBounds_toArray, List.set_cons_zero, List.set_cons_succ, i64_w, i32_w]
    rfl
  refine take_ (i := 9) (N := some 35) (v := ?_) (a' := ?_) #[true, true, true, true, true, true, true, true, true, true, false, false, false, false, false, false, false, false, false] rfl rfl (by kernel_rfl) (fun _ _ _ h => h) (Or.inl ⟨by rfl, ?_⟩) hHeld ?_ ?_
  rotate_left
  · rintro w' ⟨s0, s1, s2⟩
    go_simp
    with_reducible rfl
  rotate_left
  · simp only [Act.put, List.setIfInBounds_toArray, List.set_cons_zero, List.set_cons_succ, i64_w, i32_w]
    rfl
  refine take_ (i := 10) (N := some 36) (v := ?_) (a' := ?_) #[true, true, true, true, true, true, true, true, true, true, true, false, false, false, false, false, false, false, false] rfl rfl (by kernel_rfl) (fun _ _ _ h => h) (Or.inl ⟨by rfl, ?_⟩) hHeld ?_ ?_
  rotate_left
  · rintro w' ⟨s0, s1, s2⟩
    go_simp
    with_reducible rfl
  rotate_left
  · simp only [Act.put, List.setIfInBounds_toArray, List.set_cons_zero, List.set_cons_succ, i64_w, i32_w]
    rfl
  refine take_ (i := 11) (N := some 37) (v := ?_) (a' := ?_) #[true, true, true, true, true, true, true, true, true, true, true, true, false, false, false, false, false, false, false] rfl rfl (by kernel_rfl) (fun _ _ _ h => h) (Or.inl ⟨by rfl, ?_⟩) hHeld ?_ ?_
  rotate_left
  · rintro w' ⟨s0, s1, s2⟩
    go_simp
    with_reducible rfl
  rotate_left
  · simp only [Act.put, List.setIfInBounds_toArray, List.set_cons_zero, List.set_cons_succ, i64_w, i32_w]
    rfl
  refine take_ (i := 12) (N := some 38) (v := ?_) (a' := ?_) #[true, true, true, true, true, true, true, true, true, true, true, true, true, false, false, false, false, false, false] rfl rfl (by kernel_rfl) (fun _ _ _ h => h) (Or.inl ⟨by rfl, ?_⟩) hHeld ?_ ?_
  rotate_left
  · rintro w' ⟨s0, s1, s2⟩
    go_simp
    with_reducible rfl
  rotate_left
  · simp only [Act.put, List.setIfInBounds_toArray, List.set_cons_zero, List.set_cons_succ, i64_w, i32_w]
    rfl
  refine take_ (i := 13) (N := some 39) (v := ?_) (a' := ?_) #[true, true, true, true, true, true, true, true, true, true, true, true, true, true, false, false, false, false, false] rfl rfl (by kernel_rfl) (fun _ _ _ h => h) (Or.inl ⟨by rfl, ?_⟩) hHeld ?_ ?_
  rotate_left
  · rintro w' ⟨s0, s1, s2⟩
    go_simp
    with_reducible rfl
  rotate_left
  · simp only [Act.put, List.setIfInBounds_toArray, List.set_cons_zero, List.set_cons_succ, i64_w, i32_w]
    rfl
  refine take_ (i := 14) (N := some 40) (v := ?_) (a' := ?_) #[true, true, true, true, true, true, true, true, true, true, true, true, true, true, true, false, false, false, false] rfl rfl (by kernel_rfl) (fun _ _ _ h => h) (Or.inl ⟨by rfl, ?_⟩) hHeld ?_ ?_
  rotate_left
  · rintro w' ⟨s0, s1, s2⟩
    go_simp
    with_reducible rfl
  rotate_left
  · simp only [Act.put, List.setIfInBounds_toArray, List.set_cons_zero, List.set_cons_succ, i64_w, i32_w]
    rfl
  refine one_ (i := 15) (N := some 41) #[true, true, true, true, true, true, true, true, true, true, true, true, true, true, true, true, false, false, false] rfl rfl (by kernel_rfl) (by decide) (fun K hK => ?_)
  refine value_ (w1 := WB.alloc (.cells #[.int .i64 (nn : Int)] 3)) (v := .slice (some ⟨WB.heap.size, 0, none⟩) 1 1) (by rfl) rfl ?_ ?_
  · go_simp
    first | rfl | done
  refine hK.out _ _ ⟨cell?_keep_alloc _ _ _ _ ((blk_cell HS1.out.blk 0).trans rfl), cell?_keep_alloc _ _ _ _ ((blk_cell HRS1.out lev).trans HRL.out), cell?_keep_alloc _ _ _ _ ((blk_cell HX1.out 1).trans rfl)⟩ (fun hHeld => ?_)
  clear hK K
  refine norm_ (a' := ?_) ?_ ?_
  rotate_left
  · simp only [Act.put, List.setIfInBounds_toArray, List.set_cons_zero, List.set_cons_succ, i64_w, i32_w]
    rfl
  refine one_ (i := 16) (N := some 42) #[true, true, true, true, true, true, true, true, true, true, true, true, true, true, true, true, true, false, false] rfl rfl (by kernel_rfl) (by decide) (fun K hK => ?_)
  have hrv2 : Kd.R kI 3 WB base (fun k => recol WB f lev k = lev) rv (M0) := recol_R HRV1.out
  refine Kd.R_append_step kI (w0 := WB) base (by rfl) (.tmp 37) (.tmp 41) 23 3 (.int .i64 0) 8 rfl Try.underlying23 int_info rfl (show 0 < 1 by decide) (by omega) rv (M0) (nn : Int) [.int .i64 (nn : Int)] (fun k => recol WB f lev k = lev) (fun _ => False) rfl rfl rfl (fun _ hk => hk.elim) (fun k hk => recol_new hk) hrv2 (Below.refl _ _) (by have := HS1.out.lt; have := HS1.out.hb; omega) (by have := HM0L.out; have := HBB.out; omega) ?_
  intro v1 w3 hR3 _ hg3 hat3
  have hgb : some b ≠ rv.ownBlock := Kd.R_ne hrv2 HS1.out.blk (by decide)
  have hgg : some gL ≠ rv.ownBlock := Kd.R_ne hrv2 HRS1.out (by decide)
  have hgx : some w.heap.size ≠ rv.ownBlock := Kd.R_ne hrv2 HX1.out (by decide)
  have hblk3 : w3.heap[b]? = some (.cells #[.slice (some ⟨gL, 0, none⟩) Ms.length cL, vD] 30 (0, 0)) := (hg3.block _ (blk_lt HS1.out.blk) hgb).trans HS1.out.blk
  have hrs3 : w3.heap[gL]? = some (.cells rs 23 (0, 0)) := (hg3.block _ (blk_lt HRS1.out) hgg).trans HRS1.out
  have hx3 : OA w3 w.heap.size (.int .i64 0) (.slice A nn k) := (hg3.block _ (blk_lt HX1.out) hgx).trans HX1.out
  have hrow3 : ∀ i, i < Ms.length → i ≠ lev → ∃ v, rs[i]? = some v ∧ Kd.R kI 3 w3 base (fun k => recol WB f lev k = i) v (Ms.getD i []) := fun i hi hil => by
    obtain ⟨v, hv, hR⟩ := HRW1.out i hi
    refine ⟨v, hv, Kd.R_grown (recol_R hR) hg3 (fun k hk he => ?_)⟩
    have := hrv2.1 k he.symm
    omega
  have hdat3 : Kd.R kI 3 w3 base (fun k => recol WB f lev k = Ms.length) vD E := Kd.R_grown (recol_R HDA1.out) hg3 (fun k hk he => by
    have := hrv2.1 k he.symm
    have := HLV.out
    omega)
  have HB3 := Aside0.mk (show Below base W0 w3 from HB1.out.grown hg3 (by rw [HBS.out]; exact HB1.out.size) (fun k hk => Kd.R_base hrv2 k hk))
  obtain ⟨A9, k9, hv1, _, _⟩ := Kd.R_reads hR3
  subst hv1
  have HBK := Aside0.mk hblk3
  have HRS := Aside0.mk hrs3
  have HRW := Aside0.mk hrow3
  have HDA := Aside0.mk hdat3
  have HX3 := Aside0.mk hx3
  have HR3 := Aside0.mk hR3
  refine hK.out _ _ ⟨(blk_cell hblk3 0).trans rfl, (blk_cell hrs3 lev).trans HRL.out, (blk_cell hx3 1).trans rfl⟩ (fun hHeld => ?_)
  clear hK K
  have hfo := blk_frozen HRS.out lev
  have hco : w3.cell? ⟨gL, lev, none⟩ = some rv := (blk_cell HRS.out lev).trans HRL.out
  clear HS1 HX1 HB1 HRS1 HRW1 HDA1 HRV1 hrv2 hR3 hg3 hat3 hgb hgg hgx hblk3 hrs3 hx3 hrow3 hdat3
  refine norm_ (a' := ?_) (show Act.put _ (some 42) (.slice A9 (M0 ++ [(nn : Int)]).length k9) = _ from ?_) ?_
  rotate_left
  · simp only [Act.put, List.setIfInBounds_toArray, List.set_cons_zero, List.set_cons_succ, i64_w, i32_w]
    rfl
  refine take_ (i := 17) (N := some 43) (v := ?_) (a' := ?_) #[true, true, true, true, true, true, true, true, true, true, true, true, true, true, true, true, true, true, false] rfl rfl (by kernel_rfl) (fun _ _ _ h => h) (Or.inl ⟨by rfl, ?_⟩) hHeld ?_ ?_
  rotate_left
  · rintro w' ⟨s0, s1, s2⟩
    go_simp
    with_reducible rfl
  rotate_left
  · simp only [Act.put, List.setIfInBounds_toArray, List.set_cons_zero, List.set_cons_succ, i64_w, i32_w]
    rfl
  refine last_ (i := 18) (N := none) #[true, true, true, true, true, true, true, true, true, true, true, true, true, true, true, true, true, true, true] rfl rfl (by kernel_rfl) (by decide) (fun K hK => ?_)
  refine skip_ (w1 := ?_) (by rfl) rfl ?_ ?_
  rotate_left
  · go_simp
    rfl
  refine hK.out _ _ ?_
  clear hK K
  refine done_ (by kernel_rfl) ?_
  obtain ⟨st, hst⟩ : ∃ st : Nat → List (List Int) × List Int, st = fun i => (List.range i).foldl (fun s c => lyA Ls D (lev + 1) ((L.take a).sum + c) s) (Ms.set lev (M0 ++ [(nn : Int)]), E) := ⟨_, rfl⟩
  have HS0 := Aside0.mk (show st 0 = (Ms.set lev (M0 ++ [(nn : Int)]), E) from by rw [hst]; rfl)
  have HSS := Aside0.mk (show ∀ i, st (i + 1) = lyA Ls D (lev + 1) ((L.take a).sum + i) (st i) from fun i => by
    rw [hst]; show (List.range (i + 1)).foldl _ _ = _; rw [List.range_succ, List.foldl_append]; rfl)
  have HSF := Aside0.mk (show st nn = lyA (L :: Ls) D lev a (Ms, E) from by
    rw [hst]
    show _ = (List.range (L.getD a 0)).foldl _ _
    rw [← HNN.out, HM0.out])
  have HSL := Aside0.mk (show ∀ i, (st i).1.length = lev + 1 + Ls.length from fun i => by
    induction i with
    | zero => rw [HS0.out]; show (List.set _ _ _).length = _; rw [List.length_set, HML.out]; omega
    | succ i ih => rw [HSS.out, lyA_len, ih])
  clear hst
  have hl1 : (M0 ++ [(nn : Int)]).length = M0.length + 1 := by simp
  have hR9 := HR3.out
  rw [hl1] at hR9
  have HB9 := Aside0.mk (show Below base W0 (w3.setCell ⟨gL, lev, none⟩ (.slice A9 (M0.length + 1) k9)) from by rw [HBS.out] at HB3 ⊢; exact below_set HB3.out (by have := HHG.out; have := HBS.out; omega))
  have HX9 := Aside0.mk (show OA (w3.setCell ⟨gL, lev, none⟩ (.slice A9 (M0.length + 1) k9)) w.heap.size (.int .i64 0) (.slice A nn k) from blk_far HX3.out (ne_tag HX3.out HRS.out (by decide)) _)
  have HL9 := Aside0.mk (show LS (w3.setCell ⟨gL, lev, none⟩ (.slice A9 (M0.length + 1) k9)) b base gL cL vD (Ms.set lev (M0 ++ [(nn : Int)])) E from by
    have hsl : (Ms.set lev (M0 ++ [(nn : Int)])).length = Ms.length := List.length_set
    have hrsz : lev < rs.size := (Array.getElem?_eq_some_iff.1 HRL.out).1
    refine ⟨?_, HHB.out, HHG.out, by rw [hsl]; exact HHC.out, rz_of (blk_put HRS.out lev _ rfl) (by rw [Array.size_setIfInBounds]; exact HRZ.out), _, recol WB f lev, blk_put HRS.out lev _ rfl, fun i hi => ?_, ?_⟩
    · rw [hsl]; exact blk_far HBK.out (ne_tag HBK.out HRS.out (by decide)) _
    · rw [hsl] at hi
      by_cases hil : i = lev
      · rw [hil]
        refine ⟨_, by rw [Array.getElem?_setIfInBounds_self_of_lt hrsz], ?_⟩
        rw [List.getD_eq_getElem?_getD, List.getElem?_set_self HLV.out]
        exact Kd.R_set hR9 HRS.out lsT2 lev _
      · obtain ⟨v, hv, hR⟩ := HRW.out i hi hil
        refine ⟨v, by rw [Array.getElem?_setIfInBounds_ne (fun h => hil h.symm)]; exact hv, ?_⟩
        rw [List.getD_eq_getElem?_getD, List.getElem?_set_ne (fun h => hil h.symm), ← List.getD_eq_getElem?_getD]
        exact Kd.R_set hR HRS.out lsT2 lev _
    · rw [hsl]; exact Kd.R_set HDA.out HRS.out lsT2 lev _)
  have HBD9 := Aside0.mk (show LBd (Ms.set lev (M0 ++ [(nn : Int)])) E (B + 1) from by rw [HM0.out]; exact HBD.out.set lev _)
  have hcX9 : (w3.setCell ⟨gL, lev, none⟩ (.slice A9 (M0.length + 1) k9)).cell? ⟨w.heap.size, 1, none⟩ = some (.slice A nn k) := (blk_cell HX9.out 1).trans rfl
  have HNNi := Aside0.mk (show (nn : Int) ≤ 400 from by have := HN4.out; omega)
  have HW2 := Aside0.mk (show wrap64 ((lev : Int) + 1) = ((lev + 1 : Nat) : Int) from by have := HL3.out; rw [wrap64]; omega)
  rw [hl1]
  generalize w3.setCell ⟨gL, lev, none⟩ (.slice A9 (M0.length + 1) k9) = W9 at HB9 HX9 HL9 hcX9 ⊢
  clear HBK HRS HRW HDA HX3 HR3 HB3 hR9 hl1 hHeld hfo hco
  trace_state
  go_wp2
  go_loopg [47] nn (fun kq v47 w' => ∃ (i : Nat) (vD' : Value), v47 = .int .i64 (i : Int) ∧ Aside0 (kq + i = nn) ∧ Aside0 (LS w' b base gL cL vD' (st i).1 (st i).2) ∧ Aside0 (LBd (st i).1 (st i).2 (B + 1 + i * lyC Ls.length)) ∧ Aside0 (Below base W0 w'))
  case atStart => exact ⟨0, vD, rfl, ⟨by omega⟩, ⟨by rw [HS0.out]; exact HL9.out⟩, ⟨by rw [HS0.out]; exact HBD9.out.mono (by omega)⟩, HB9⟩
  case round =>
    obtain ⟨i, vD', rfl, HI, HLi, HBDi, HBi⟩ := hrel
    by_cases hi : i < nn
    · have h1 : (i : Int) < (nn : Int) := by omega
      have h0 : (0 : Int) ≤ (i : Int) := by omega
      have hCr : Kd.C kPair wr A nn xs := Kd.C_below HC.out (by rw [← HBS.out]; exact HBi.out)
      obtain ⟨ad, rfl, hc1, hc2⟩ := pair_at2 hCr i hi
      have hNd := HXN.out i hi
      obtain ⟨x1, x2, hxx⟩ : ∃ x1 x2, xs.getD i pD = (x1, x2) := ⟨_, _, rfl⟩
      rw [hxx] at hc1 hc2 hNd
      have hpl2 := HPL.out ad rfl (by omega)
      have hc2' : wr.cell? ⟨(ad.add (i * 2)).block, (ad.add (i * 2)).off + 1, none⟩ = some x2 := by
        rw [hpl2.add] at hc2 ⊢
        exact hc2
      clear hpl2 hCr
      obtain ⟨z9, A8, n9, k8, e1, e2⟩ := nd_form (show Nd W0 (fun _ => True) Ls D _ (.agg #[x1, x2]) from hNd)
      subst e1
      subst e2
      have HND := Aside0.mk hNd
      have HH := Aside0.mk hi
      have HW := Aside0.mk (show wrap64 ((i : Int) + 1) = ((i + 1 : Nat) : Int) from by have := HN4.out; rw [wrap64]; omega)
      have HBG := Aside0.mk (show B + 1 + i * lyC Ls.length + lyC Ls.length ≤ B + lyC (Ls.length + 1) from by
        have h5 := HC4.out
        have h6 : (i + 1) * lyC Ls.length ≤ 400 * lyC Ls.length := Nat.mul_le_mul_right _ (by have := HN4.out; omega)
        rw [Nat.add_mul, Nat.one_mul] at h6
        omega)
      clear hi hxx hNd
      go_wp2_with fail
      have hcall : Calls Try.prog 33 #[.pointer (some ⟨b, 0, none⟩), .agg #[.int .i64 z9, .slice A8 n9 k8], .int .i64 (wrap64 ((lev : Int) + 1))] (wr.alloc (.cells #[.int .i64 z9, .slice A8 n9 k8] 45)) fun e w' => ∃ vD', e = .returned (.tuple #[]) ∧ LS w' b base gL cL vD' (st (i + 1)).1 (st (i + 1)).2 ∧ LBd (st (i + 1)).1 (st (i + 1)).2 (B + 1 + i * lyC Ls.length + lyC Ls.length) ∧ Below base W0 w' := by
        rw [HW2.out, HSS.out]
        exact HIH.out (lev + 1) _ _ _ vD' (st i).1 (st i).2 _ (HSL.out i) (by rw [HSL.out i]; have := HL3.out; have := HML.out; omega) HND.out (HBi.out.alloc (by rw [HBS.out]; exact HBi.out.size) _) (HLi.out.move ((Below.refl _ wr).alloc (Nat.le_refl _) _)) HBDi.out (by have := HBG.out; have := HBB2.out; omega)
      refine hcall.mono ?_
      clear hcall
      rintro e w2 ⟨vD2, rfl, hl2, hb2, hbe2⟩
      have HL2 := Aside0.mk hl2
      have HBD2 := Aside0.mk hb2
      have HBE2 := Aside0.mk hbe2
      clear hl2 hb2 hbe2
      go_wp2_with fail
      go_roundg (gk - 1)
      case measure => have := HI.out; have := HH.out; omega
      case rel =>
        refine ⟨i + 1, vD2, by rw [HW.out], ⟨by have := HI.out; have := HH.out; omega⟩, HL2, ⟨HBD2.out.mono (by rw [Nat.add_mul, Nat.one_mul]; omega)⟩, HBE2⟩
    · have h1 : (nn : Int) ≤ (i : Int) := by omega
      have HE := Aside0.mk (show i = nn from by have := HI.out; omega)
      clear hi
      go_wp2_with fail
      first | go_end0 | ((try simp only [Exit.inBlock, Exit.then]); refine bodyPost_ret (results_none rfl _ _ _) rfl ?_)
      have hLi := HLi.out
      have hBi := HBDi.out
      rw [HE.out, HSF.out] at hLi hBi
      refine ⟨vD', rfl, hLi, hBi.mono ?_, HBi.out⟩
      have h5 := HC4.out
      have h6 : nn * lyC Ls.length ≤ 400 * lyC Ls.length := Nat.mul_le_mul_right _ HN4.out
      omega
theorem lay_walk (W0 : World) (b base gL cL : Nat) (hbase : base = W0.heap.size) : ∀ (Ls : List (List Nat)) (D : List Int), (∀ L ∈ Ls, ∀ n ∈ L, n ≤ 400) → layH W0 b base gL cL Ls D
  | [], D, _ => fun lev a v w vD Ms E B hl hm hN hB hS hbd hBB => by
    obtain ⟨A, k, rfl⟩ := hN
    have hl' : lev = Ms.length := by simpa using hl.symm
    subst hl'
    refine (lay_leaf W0 w b base gL cL vD Ms E (D.getD a 0) A k B hbase hS hB hbd hBB).mono ?_
    rintro e w' ⟨vD', rfl, h1, h2⟩
    refine ⟨vD', rfl, h1, ⟨fun M hM => Nat.le_succ_of_le (hbd.1 M hM), ?_⟩, h2⟩
    show (E ++ [_]).length ≤ B + 1
    rw [List.length_append, List.length_singleton]
    have := hbd.2
    omega
  | L :: Ls, D, h3 => fun lev a v w vD Ms E B hl hm hN hB hS hbd hBB => by
    obtain ⟨A, k, xs, rfl, h1, hC, ho, hx⟩ := hN
    refine lay_node W0 w b base gL cL vD Ms E L Ls D lev a _ A k B xs hbase rfl hl hC hx (fun ad ha hp => (ho ad ha hp).2) ?_ (by simp at hl; omega) hS hB hbd hBB (lay_walk W0 b base gL cL hbase Ls D (fun M hM => h3 M (List.mem_cons_of_mem _ hM)))
    rw [List.getD_eq_getElem?_getD]
    cases hi : L[a]? with
    | none => exact Nat.zero_le _
    | some n => exact h3 L List.mem_cons_self n (List.mem_of_getElem? hi)
set_option maxHeartbeats 16000000 in
set_option maxRecDepth 100000 in
theorem put_leaf (W0 w : World) (b base gL cL : Nat) (vD : Value) (Ms : List (List Int)) (E : List Int) (x : Int) (A : Option Addr) (k B : Nat) (hbase : base = W0.heap.size) (hS : LS w b base gL cL vD Ms E) (hB : Below base W0 w) (hbd : LBd Ms E B) (hBB : B + 1 ≤ 2000000000) :
    Calls Try.prog 30 #[.pointer (some ⟨b, 0, none⟩), .agg #[.int .i64 x, .slice A 0 k], .int .i64 (Ms.length : Int)] w fun e w' => ∃ vD', e = .returned (.tuple #[]) ∧ LS w' b base gL cL vD' Ms (E ++ [x]) ∧ Below base W0 w' := by
  have hul := Try.underlying30
  have hun := Try.underlying52
  have HS := Aside0.mk (hS.move ((Below.refl _ w).alloc (Nat.le_refl _) (.cells #[.int .i64 x, .slice A 0 k] 52)))
  have HX := Aside0.mk (show OS (w.alloc (.cells #[.int .i64 x, .slice A 0 k] 52)) w.heap.size (.int .i64 x) (.slice A 0 k) from blk_new w _)
  have HB := Aside0.mk (hB.alloc (by have := hS.lt; have := hS.hb; omega) (.cells #[.int .i64 x, .slice A 0 k] 52))
  have HSZ := Aside0.mk (show w.heap.size < (w.alloc (.cells #[.int .i64 x, .slice A 0 k] 52)).heap.size from by simp)
  have HBD := Aside0.mk hbd
  have HBB := Aside0.mk hBB
  have HBS := Aside0.mk hbase
  have HHB := Aside0.mk hS.hb
  have HHG := Aside0.mk hS.hg
  have HHC := Aside0.mk hS.hc
  clear hS hB hbd hBB hbase
  generalize hWA : w.alloc (.cells #[.int .i64 x, .slice A 0 k] 52) = WA at HS HX HB HSZ
  have hcL : WA.cell? ⟨b, 0, none⟩ = some (.slice (some ⟨gL, 0, none⟩) Ms.length cL) := (blk_cell HS.out.blk 0).trans rfl
  have hcD : WA.cell? ⟨b, 1, none⟩ = some vD := (blk_cell HS.out.blk 1).trans rfl
  have hcX : WA.cell? ⟨w.heap.size, 0, none⟩ = some (.int .i64 x) := (blk_cell HX.out 0).trans rfl
  have hle : ((Ms.length : Int) == (Ms.length : Int)) = true := beq_self_eq_true _
  obtain ⟨dp, hdp⟩ : ∃ dp, dp = Ms.length := ⟨_, rfl⟩
  go_enter Try.func30, Try.ntmps30
  go_upto_region 1 with (fail)

  try rw [hWA]
  clear hWA hdp
  go_upto_region 2 with (fail)
  refine start_ (n := 12) (S := fun w' => w'.cell? ⟨b, 1, none⟩ = some vD ∧ w'.cell? ⟨w.heap.size, 0, none⟩ = some (.int .i64 x)) (ds := [11]) #[false, false, false, false, false, false, false, false, false, false, false, false] (by kernel_rfl) rfl rfl ⟨hcD, hcX⟩ (fun hHeld => ?_)
  have HS1 := Aside0.mk (show LS WA.drew b base gL cL vD Ms E from HS.out.move (below_drew1 (Below.refl _ _)))
  have HX1 := Aside0.mk (show OS WA.drew w.heap.size (.int .i64 x) (.slice A 0 k) from blk_drew HX.out)
  have HB1 := Aside0.mk (below_drew1 HB.out)
  have HSZ1 := Aside0.mk (show w.heap.size < WA.drew.heap.size from HSZ.out)
  generalize WA.drew = WB at HS1 HX1 HB1 HSZ1 hHeld ⊢
  clear HS HX HB HSZ hcD hcX
  refine take_ (i := 0) (N := some 15) (v := ?_) (a' := ?_) #[true, false, false, false, false, false, false, false, false, false, false, false] rfl rfl (by kernel_rfl) (fun _ _ _ h => h) (Or.inl ⟨by rfl, ?_⟩) hHeld ?_ ?_
  rotate_left
  · rintro w' ⟨s0, s1⟩
    go_simp
    with_reducible rfl
  rotate_left
  · simp only [Act.put, List.setIfInBounds_toArray, List.set_cons_zero, List.set_cons_succ, i64_w, i32_w]
    rfl
  refine take_ (i := 1) (N := some 16) (v := ?_) (a' := ?_) #[true, true, false, false, false, false, false, false, false, false, false, false] rfl rfl (by kernel_rfl) (fun _ _ _ h => h) (Or.inl ⟨by rfl, ?_⟩) hHeld ?_ ?_
  rotate_left
  · rintro w' ⟨s0, s1⟩
    go_simp
    with_reducible rfl
  rotate_left
  · simp only [Act.put, List.setIfInBounds_toArray, List.set_cons_zero, List.set_cons_succ, i64_w, i32_w]
    rfl
  refine take_ (i := 2) (N := some 17) (v := ?_) (a' := ?_) #[true, true, true, false, false, false, false, false, false, false, false, false] rfl rfl (by kernel_rfl) (fun _ _ _ h => h) (Or.inl ⟨by rfl, ?_⟩) hHeld ?_ ?_
  rotate_left
  · rintro w' ⟨s0, s1⟩
    go_simp
    with_reducible rfl
  rotate_left
  · simp only [Act.put, List.setIfInBounds_toArray, List.set_cons_zero, List.set_cons_succ, i64_w, i32_w]
    rfl
  refine take_ (i := 3) (N := some 18) (v := ?_) (a' := ?_) #[true, true, true, true, false, false, false, false, false, false, false, false] rfl rfl (by kernel_rfl) (fun _ _ _ h => h) (Or.inl ⟨by rfl, ?_⟩) hHeld ?_ ?_
  rotate_left
  · rintro w' ⟨s0, s1⟩
    go_simp
    with_reducible rfl
  rotate_left
  · simp only [Act.put, List.setIfInBounds_toArray, List.set_cons_zero, List.set_cons_succ, i64_w, i32_w]
    rfl
  refine take_ (i := 4) (N := some 19) (v := ?_) (a' := ?_) #[true, true, true, true, true, false, false, false, false, false, false, false] rfl rfl (by kernel_rfl) (fun _ _ _ h => h) (Or.inl ⟨by rfl, ?_⟩) hHeld ?_ ?_
  rotate_left
  · rintro w' ⟨s0, s1⟩
    go_simp
    with_reducible rfl
  rotate_left
  · simp only [Act.put, List.setIfInBounds_toArray, List.set_cons_zero, List.set_cons_succ, i64_w, i32_w]
    rfl
  refine take_ (i := 5) (N := some 20) (v := ?_) (a' := ?_) #[true, true, true, true, true, true, false, false, false, false, false, false] rfl rfl (by kernel_rfl) (fun _ _ _ h => h) (Or.inl ⟨by rfl, ?_⟩) hHeld ?_ ?_
  rotate_left
  · rintro w' ⟨s0, s1⟩
    go_simp
    with_reducible rfl
  rotate_left
  · simp only [Act.put, List.setIfInBounds_toArray, List.set_cons_zero, List.set_cons_succ, i64_w, i32_w]
    rfl
  refine take_ (i := 6) (N := some 21) (v := ?_) (a' := ?_) #[true, true, true, true, true, true, true, false, false, false, false, false] rfl rfl (by kernel_rfl) (fun _ _ _ h => h) (Or.inl ⟨by rfl, ?_⟩) hHeld ?_ ?_
  rotate_left
  · rintro w' ⟨s0, s1⟩
    go_simp
    with_reducible rfl
  rotate_left
  · simp only [Act.put, List.setIfInBounds_toArray, List.set_cons_zero, List.set_cons_succ, i64_w, i32_w]
    rfl
  refine one_ (i := 7) (N := some 22) #[true, true, true, true, true, true, true, true, false, false, false, false] rfl rfl (by kernel_rfl) (by decide) (fun K hK => ?_)
  refine value_ (w1 := WB.alloc (.cells #[.int .i64 x] 3)) (v := .slice (some ⟨WB.heap.size, 0, none⟩) 1 1) (by rfl) rfl ?_ ?_
  · go_simp
    first | rfl | done
  refine hK.out _ _ ⟨cell?_keep_alloc _ _ _ _ ((blk_cell HS1.out.blk 1).trans rfl), cell?_keep_alloc _ _ _ _ ((blk_cell HX1.out 0).trans rfl)⟩ (fun hHeld => ?_)
  clear hK K
  refine norm_ (a' := ?_) ?_ ?_
  rotate_left
  · simp only [Act.put, List.setIfInBounds_toArray, List.set_cons_zero, List.set_cons_succ, i64_w, i32_w]
    rfl
  refine one_ (i := 8) (N := some 23) #[true, true, true, true, true, true, true, true, true, false, false, false] rfl rfl (by kernel_rfl) (by decide) (fun K hK => ?_)
  obtain ⟨rs, f, hrs, hrow, hdat⟩ := HS1.out.rows
  have HRZ := Aside0.mk (HS1.out.hz rs hrs)
  have hdat2 : Kd.R kI 3 WB base (fun k => recol WB f Ms.length k = Ms.length) vD E := recol_R hdat
  refine Kd.R_append_step kI (w0 := WB) base (by rfl) (.tmp 19) (.tmp 22) 23 3 (.int .i64 0) 8 rfl Try.underlying23 int_info rfl (show 0 < 1 by decide) (by omega) vD E x [.int .i64 x] (fun k => recol WB f Ms.length k = Ms.length) (fun _ => False) rfl rfl rfl (fun _ hk => hk.elim) (fun k hk => recol_new hk) hdat2 (Below.refl _ _) (by have := HS1.out.lt; have := HS1.out.hb; omega) (by have := HBD.out.2; have := HBB.out; omega) ?_
  intro v1 w3 hR3 _ hg3 hat3
  have hgb : some b ≠ vD.ownBlock := Kd.R_ne hdat2 HS1.out.blk (by decide)
  have hgg : some gL ≠ vD.ownBlock := Kd.R_ne hdat2 hrs (by decide)
  have hgx : some w.heap.size ≠ vD.ownBlock := Kd.R_ne hdat2 HX1.out (by decide)
  have hblk3 : w3.heap[b]? = some (.cells #[.slice (some ⟨gL, 0, none⟩) Ms.length cL, vD] 30 (0, 0)) := (hg3.block _ (blk_lt HS1.out.blk) hgb).trans HS1.out.blk
  have hrs3 : w3.heap[gL]? = some (.cells rs 23 (0, 0)) := (hg3.block _ (blk_lt hrs) hgg).trans hrs
  have hx3 : w3.heap[w.heap.size]? = some (.cells #[.int .i64 x, .slice A 0 k] 52 (0, 0)) := (hg3.block _ (blk_lt HX1.out) hgx).trans HX1.out
  have hrow3 : ∀ i, i < Ms.length → ∃ v, rs[i]? = some v ∧ Kd.R kI 3 w3 base (fun k => recol WB f Ms.length k = i) v (Ms.getD i []) := fun i hi => by
    obtain ⟨v, hv, hR⟩ := hrow i hi
    refine ⟨v, hv, Kd.R_grown (recol_R hR) hg3 (fun k hk he => ?_)⟩
    have := hdat2.1 k he.symm
    omega
  have HB3 := Aside0.mk (show Below base W0 w3 from HB1.out.grown hg3 (by rw [HBS.out]; exact HB1.out.size) (fun k hk => Kd.R_base hdat2 k hk))
  obtain ⟨A9, k9, hv1, _, _⟩ := Kd.R_reads hR3
  subst hv1
  have HBK := Aside0.mk hblk3
  have HRS := Aside0.mk hrs3
  have HRW := Aside0.mk hrow3
  have HR3 := Aside0.mk hR3
  refine hK.out _ _ ⟨(blk_cell hblk3 1).trans rfl, (blk_cell hx3 0).trans rfl⟩ (fun hHeld => ?_)
  clear hK K
  have hfo := blk_frozen HBK.out 1
  have hco : w3.cell? ⟨b, 1, none⟩ = some vD := (blk_cell HBK.out 1).trans rfl
  have HSZ3 := Aside0.mk (show w.heap.size < w3.heap.size from blk_lt hx3)
  clear HX1 HB1 HSZ1 hrs hrow hdat hdat2 hR3 hg3 hat3 hgb hgg hgx hblk3 hrs3 hx3 hrow3
  refine norm_ (a' := ?_) (show Act.put _ (some 23) (.slice A9 (E ++ [x]).length k9) = _ from ?_) ?_
  rotate_left
  · simp only [Act.put, List.setIfInBounds_toArray, List.set_cons_zero, List.set_cons_succ, i64_w, i32_w]
    rfl
  refine take_ (i := 9) (N := some 24) (v := ?_) (a' := ?_) #[true, true, true, true, true, true, true, true, true, true, false, false] rfl rfl (by kernel_rfl) (fun _ _ _ h => h) (Or.inl ⟨by rfl, ?_⟩) hHeld ?_ ?_
  rotate_left
  · rintro w' ⟨s0, s1⟩
    go_simp
    with_reducible rfl
  rotate_left
  · simp only [Act.put, List.setIfInBounds_toArray, List.set_cons_zero, List.set_cons_succ, i64_w, i32_w]
    rfl
  refine take_ (i := 10) (N := some 25) (v := ?_) (a' := ?_) #[true, true, true, true, true, true, true, true, true, true, true, false] rfl rfl (by kernel_rfl) (fun _ _ _ h => h) (Or.inl ⟨by rfl, ?_⟩) hHeld ?_ ?_
  rotate_left
  · rintro w' ⟨s0, s1⟩
    go_simp
    with_reducible rfl
  rotate_left
  · simp only [Act.put, List.setIfInBounds_toArray, List.set_cons_zero, List.set_cons_succ, i64_w, i32_w]
    rfl
  refine last_ (i := 11) (N := none) #[true, true, true, true, true, true, true, true, true, true, true, true] rfl rfl (by kernel_rfl) (by decide) (fun K hK => ?_)
  refine skip_ (w1 := ?_) (by rfl) rfl ?_ ?_
  rotate_left
  · go_simp
    rfl
  refine hK.out _ _ ?_
  clear hK K
  refine done_ (by kernel_rfl) ?_
  go_wp2
  first | go_end0 | ((try simp only [Exit.inBlock, Exit.then]); refine bodyPost_ret (results_none rfl _ _ _) rfl ?_)
  refine ⟨.slice A9 (E.length + 1) k9, rfl, ?_, by rw [HBS.out] at HB3 ⊢; exact below_set HB3.out (by have := HHB.out; have := HBS.out; omega)⟩
  have hle2 : (E ++ [x]).length = E.length + 1 := by simp
  have hR4 := HR3.out
  rw [hle2] at hR4
  refine ⟨blk_put HBK.out 1 _ rfl, HHB.out, HHG.out, HHC.out, rz_of (blk_far HRS.out (ne_tag HRS.out HBK.out (by decide)) _) HRZ.out, rs, recol WB f Ms.length, blk_far HRS.out (ne_tag HRS.out HBK.out (by decide)) _, fun i hi => ?_, Kd.R_set hR4 HBK.out lsT1 1 _⟩
  obtain ⟨v, hv, hR⟩ := HRW.out i hi
  exact ⟨v, hv, Kd.R_set hR HBK.out lsT1 1 _⟩

def putH (W0 : World) (b base gL cL : Nat) (Ls : List (List Nat)) (D : List Int) : Prop := ∀ (lev a : Nat) (v : Value) (w : World) (vD : Value) (Ms : List (List Int)) (E : List Int) (B : Nat), Ms.length = lev + Ls.length → Ms.length ≤ 4 → NdT W0 Ls D a v → Below base W0 w → LS w b base gL cL vD Ms E → LBd Ms E B → B + lyC Ls.length ≤ 2000000000 →
  Calls Try.prog 30 #[.pointer (some ⟨b, 0, none⟩), v, .int .i64 (lev : Int)] w fun e w' => ∃ vD', e = .returned (.tuple #[]) ∧ LS w' b base gL cL vD' (lyA Ls D lev a (Ms, E)).1 (lyA Ls D lev a (Ms, E)).2 ∧ LBd (lyA Ls D lev a (Ms, E)).1 (lyA Ls D lev a (Ms, E)).2 (B + lyC Ls.length) ∧ Below base W0 w'
set_option maxHeartbeats 32000000 in
set_option maxRecDepth 100000 in
theorem put_node (W0 w : World) (b base gL cL : Nat) (vD : Value) (Ms : List (List Int)) (E : List Int) (L : List Nat) (Ls : List (List Nat)) (D : List Int) (lev a nn : Nat) (A : Option Addr) (k B : Nat) (xs : List (Value × Value)) (hbase : base = W0.heap.size) (hnn : nn = L.getD a 0) (hml : Ms.length = lev + (Ls.length + 1))
    (hC : Kd.C kPair W0 A nn xs) (hx : ∀ c, c < nn → NdT W0 Ls D ((L.take a).sum + c) (ndP (xs.getD c pD))) (hpl : ∀ ad, A = some ad → 0 < nn → Pl ad) (h400 : nn ≤ 400) (hl3 : lev + (Ls.length + 1) ≤ 4)
    (hS : LS w b base gL cL vD Ms E) (hB : Below base W0 w) (hbd : LBd Ms E B) (hBB : B + lyC (Ls.length + 1) ≤ 2000000000) (ih : putH W0 b base gL cL Ls D) :
    Calls Try.prog 30 #[.pointer (some ⟨b, 0, none⟩), .agg #[.int .i64 0, .slice A nn k], .int .i64 (lev : Int)] w fun e w' => ∃ vD', e = .returned (.tuple #[]) ∧ LS w' b base gL cL vD' (lyA (L :: Ls) D lev a (Ms, E)).1 (lyA (L :: Ls) D lev a (Ms, E)).2 ∧ LBd (lyA (L :: Ls) D lev a (Ms, E)).1 (lyA (L :: Ls) D lev a (Ms, E)).2 (B + lyC (Ls.length + 1)) ∧ Below base W0 w' := by
  have hul := Try.underlying30
  have hun := Try.underlying52
  have hlv : lev < Ms.length := by omega
  have hS1 := hS.move ((Below.refl _ w).alloc (Nat.le_refl _) (.cells #[.int .i64 0, .slice A nn k] 52))
  obtain ⟨rs, f, hrs, hrow, hdat⟩ := hS1.rows
  have HRZ := Aside0.mk (hS1.hz rs hrs)
  obtain ⟨rv, hrl, hrv⟩ := hrow lev hlv
  obtain ⟨M0, hM0⟩ : ∃ M0, M0 = Ms.getD lev [] := ⟨_, rfl⟩
  rw [← hM0] at hrv
  have HM0 := Aside0.mk hM0
  have HM0L := Aside0.mk (show M0.length ≤ B from by rw [hM0]; exact hbd.getD lev)
  clear hM0
  have HS := Aside0.mk hS1
  have HRS := Aside0.mk hrs
  have HRW := Aside0.mk hrow
  have HDA := Aside0.mk hdat
  have HRV := Aside0.mk hrv
  have HRL := Aside0.mk hrl
  have HLV := Aside0.mk hlv
  have HL3 := Aside0.mk hl3
  have HX := Aside0.mk (show OS (w.alloc (.cells #[.int .i64 0, .slice A nn k] 52)) w.heap.size (.int .i64 0) (.slice A nn k) from blk_new w _)
  have HB := Aside0.mk (hB.alloc (by have := hS.lt; have := hS.hb; omega) (.cells #[.int .i64 0, .slice A nn k] 52))
  have HBD := Aside0.mk hbd
  have HC4 := Aside0.mk (show lyC (Ls.length + 1) = 400 * lyC Ls.length + 1 from rfl)
  have HBB := Aside0.mk (show B + 1 ≤ 2000000000 from by have := HC4.out; omega)
  have HBB2 := Aside0.mk hBB
  have HBS := Aside0.mk hbase
  have HHB := Aside0.mk hS.hb
  have HHG := Aside0.mk hS.hg
  have HHC := Aside0.mk hS.hc
  have HML := Aside0.mk hml
  have HNN := Aside0.mk hnn
  have HC := Aside0.mk hC
  have HXN := Aside0.mk hx
  have HPL := Aside0.mk hpl
  have HN4 := Aside0.mk h400
  have HIH := Aside0.mk ih
  have l0 : (0 : Int) ≤ (lev : Int) := by omega
  have l1 : (lev : Int) < (Ms.length : Int) := by omega
  have hle : ((lev : Int) == (Ms.length : Int)) = false := beq_eq_false_iff_ne.2 (by omega)
  clear hS hB hbd hBB hbase hlv hS1 hrs hrow hdat hrv hrl hml hnn hC hx hpl h400 ih hl3
  generalize hWA : w.alloc (.cells #[.int .i64 0, .slice A nn k] 52) = WA at HS HRS HRW HDA HRV HX HB
  have hcL : WA.cell? ⟨b, 0, none⟩ = some (.slice (some ⟨gL, 0, none⟩) Ms.length cL) := (blk_cell HS.out.blk 0).trans rfl
  have hcR : WA.cell? ⟨gL, lev, none⟩ = some rv := (blk_cell HRS.out lev).trans HRL.out
  have hcX : WA.cell? ⟨w.heap.size, 1, none⟩ = some (.slice A nn k) := (blk_cell HX.out 1).trans rfl
  go_enter Try.func30, Try.ntmps30
  go_upto_region 1 with (fail)
  try rw [hWA]
  clear hWA
  go_upto_region 3 with (fail)
  refine start_ (n := 19) (S := fun w' => w'.cell? ⟨b, 0, none⟩ = some (.slice (some ⟨gL, 0, none⟩) Ms.length cL) ∧ w'.cell? ⟨gL, lev, none⟩ = some rv ∧ w'.cell? ⟨w.heap.size, 1, none⟩ = some (.slice A nn k)) (ds := [18]) #[false, false, false, false, false, false, false, false, false, false, false, false, false, false, false, false, false, false, false] (by kernel_rfl) rfl rfl ⟨hcL, hcR, hcX⟩ (fun hHeld => ?_)
  have HS1 := Aside0.mk (show LS WA.drew b base gL cL vD Ms E from HS.out.move (below_drew1 (Below.refl _ _)))
  have HX1 := Aside0.mk (show OS WA.drew w.heap.size (.int .i64 0) (.slice A nn k) from blk_drew HX.out)
  have HB1 := Aside0.mk (below_drew1 HB.out)
  have HRS1 := Aside0.mk (show WA.drew.heap[gL]? = some (.cells rs 23 (0, 0)) from blk_drew HRS.out)
  have HRW1 := Aside0.mk (show ∀ i, i < Ms.length → ∃ v, rs[i]? = some v ∧ Kd.R kI 3 WA.drew base (fun k => f k = i) v (Ms.getD i []) from fun i hi => by
    obtain ⟨v, hv, hR⟩ := HRW.out i hi
    exact ⟨v, hv, Kd.R_drew hR⟩)
  have HDA1 := Aside0.mk (show Kd.R kI 3 WA.drew base (fun k => f k = Ms.length) vD E from Kd.R_drew HDA.out)
  have HRV1 := Aside0.mk (show Kd.R kI 3 WA.drew base (fun k => f k = lev) rv (M0) from Kd.R_drew HRV.out)
  generalize WA.drew = WB at HS1 HX1 HB1 HRS1 HRW1 HDA1 HRV1 hHeld ⊢
  clear HS HX HB HRS HRW HDA HRV hcL hcR hcX
  refine take_ (i := 0) (N := some 26) (v := ?_) (a' := ?_) #[true, false, false, false, false, false, false, false, false, false, false, false, false, false, false, false, false, false, false] rfl rfl (by kernel_rfl) (fun _ _ _ h => h) (Or.inl ⟨by rfl, ?_⟩) hHeld ?_ ?_
  rotate_left
  · rintro w' ⟨s0, s1, s2⟩
    go_simp
    with_reducible rfl
  rotate_left
  · simp only [Act.put, List.setIfInBounds_toArray, List.set_cons_zero, List.set_cons_succ, i64_w, i32_w]
    rfl
  refine take_ (i := 1) (N := some 27) (v := ?_) (a' := ?_) #[true, true, false, false, false, false, false, false, false, false, false, false, false, false, false, false, false, false, false] rfl rfl (by kernel_rfl) (fun _ _ _ h => h) (Or.inl ⟨by rfl, ?_⟩) hHeld ?_ ?_
  rotate_left
  · rintro w' ⟨s0, s1, s2⟩
    go_simp
    with_reducible rfl
  rotate_left
  · simp only [Act.put, List.setIfInBounds_toArray, List.set_cons_zero, List.set_cons_succ, i64_w, i32_w]
    rfl
  refine take_ (i := 2) (N := some 28) (v := ?_) (a' := ?_) #[true, true, true, false, false, false, false, false, false, false, false, false, false, false, false, false, false, false, false] rfl rfl (by kernel_rfl) (fun _ _ _ h => h) (Or.inl ⟨by rfl, ?_⟩) hHeld ?_ ?_
  rotate_left
  · rintro w' ⟨s0, s1, s2⟩
    go_simp
    with_reducible rfl
  rotate_left
  · simp only [Act.put, List.setIfInBounds_toArray, List.set_cons_zero, List.set_cons_succ, i64_w, i32_w]
    rfl
  refine take_ (i := 3) (N := some 29) (v := ?_) (a' := ?_) #[true, true, true, true, false, false, false, false, false, false, false, false, false, false, false, false, false, false, false] rfl rfl (by kernel_rfl) (fun _ _ _ h => h) (Or.inl ⟨by rfl, ?_⟩) hHeld ?_ ?_
  rotate_left
  · rintro w' ⟨s0, s1, s2⟩
    go_simp
    with_reducible rfl
  rotate_left
  · simp only [Act.put, List.setIfInBounds_toArray, List.set_cons_zero, List.set_cons_succ, i64_w, i32_w]
    rfl
  refine take_ (i := 4) (N := some 30) (v := ?_) (a' := ?_) #[true, true, true, true, true, false, false, false, false, false, false, false, false, false, false, false, false, false, false] rfl rfl (by kernel_rfl) (fun _ _ _ h => h) (Or.inl ⟨by rfl, ?_⟩) hHeld ?_ ?_
  rotate_left
  · rintro w' ⟨s0, s1, s2⟩
    go_simp
    with_reducible rfl
  rotate_left
  · simp only [Act.put, List.setIfInBounds_toArray, List.set_cons_zero, List.set_cons_succ, i64_w, i32_w]
    rfl
  refine take_ (i := 5) (N := some 31) (v := ?_) (a' := ?_) #[true, true, true, true, true, true, false, false, false, false, false, false, false, false, false, false, false, false, false] rfl rfl (by kernel_rfl) (fun _ _ _ h => h) (Or.inl ⟨by rfl, ?_⟩) hHeld ?_ ?_
  rotate_left
  · rintro w' ⟨s0, s1, s2⟩
    go_simp
    with_reducible rfl
  rotate_left
  · simp only [Act.put, List.setIfInBounds_toArray, List.set_cons_zero, List.set_cons_succ, i64_w, i32_w]
    rfl
  refine take_ (i := 6) (N := some 32) (v := ?_) (a' := ?_) #[true, true, true, true, true, true, true, false, false, false, false, false, false, false, false, false, false, false, false] rfl rfl (by kernel_rfl) (fun _ _ _ h => h) (Or.inl ⟨by rfl, ?_⟩) hHeld ?_ ?_
  rotate_left
  · rintro w' ⟨s0, s1, s2⟩
    go_simp
    with_reducible rfl
  rotate_left
  · simp only [Act.put, List.setIfInBounds_toArray, List.set_cons_zero, List.set_cons_succ, i64_w, i32_w]
    rfl
  refine take_ (i := 7) (N := some 33) (v := ?_) (a' := ?_) #[true, true, true, true, true, true, true, true, false, false, false, false, false, false, false, false, false, false, false] rfl rfl (by kernel_rfl) (fun _ _ _ h => h) (Or.inl ⟨by rfl, ?_⟩) hHeld ?_ ?_
  rotate_left
  · rintro w' ⟨s0, s1, s2⟩
    go_simp
    with_reducible rfl
  rotate_left
  · simp only [Act.put, List.setIfInBounds_toArray, List.set_cons_zero, List.set_cons_succ, i64_w, i32_w]
    rfl
  refine take_ (i := 8) (N := some 34) (v := ?_) (a' := ?_) #[true, true, true, true, true, true, true, true, true, false, false, false, false, false, false, false, false, false, false] rfl rfl (by kernel_rfl) (fun _ _ _ h => h) (Or.inl ⟨by rfl, ?_⟩) hHeld ?_ ?_
  rotate_left
  · rintro w' ⟨s0, s1, s2⟩
    go_simp
    with_reducible rfl
  rotate_left
  · simp only [Act.put, List.setIfInBounds_toArray, List.set_cons_zero, List.set_cons_succ, i64_w, i32_w]
    rfl
  refine take_ (i := 9) (N := some 35) (v := ?_) (a' := ?_) #[true, true, true, true, true, true, true, true, true, true, false, false, false, false, false, false, false, false, false] rfl rfl (by kernel_rfl) (fun _ _ _ h => h) (Or.inl ⟨by rfl, ?_⟩) hHeld ?_ ?_
  rotate_left
  · rintro w' ⟨s0, s1, s2⟩
    go_simp
    with_reducible rfl
  rotate_left
  · simp only [Act.put, List.setIfInBounds_toArray, List.set_cons_zero, List.set_cons_succ, i64_w, i32_w]
    rfl
  refine take_ (i := 10) (N := some 36) (v := ?_) (a' := ?_) #[true, true, true, true, true, true, true, true, true, true, true, false, false, false, false, false, false, false, false] rfl rfl (by kernel_rfl) (fun _ _ _ h => h) (Or.inl ⟨by rfl, ?_⟩) hHeld ?_ ?_
  rotate_left
  · rintro w' ⟨s0, s1, s2⟩
    go_simp
    with_reducible rfl
  rotate_left
  · simp only [Act.put, List.setIfInBounds_toArray, List.set_cons_zero, List.set_cons_succ, i64_w, i32_w]
    rfl
  refine take_ (i := 11) (N := some 37) (v := ?_) (a' := ?_) #[true, true, true, true, true, true, true, true, true, true, true, true, false, false, false, false, false, false, false] rfl rfl (by kernel_rfl) (fun _ _ _ h => h) (Or.inl ⟨by rfl, ?_⟩) hHeld ?_ ?_
  rotate_left
  · rintro w' ⟨s0, s1, s2⟩
    go_simp
    with_reducible rfl
  rotate_left
  · simp only [Act.put, List.setIfInBounds_toArray, List.set_cons_zero, List.set_cons_succ, i64_w, i32_w]
    rfl
  refine take_ (i := 12) (N := some 38) (v := ?_) (a' := ?_) #[true, true, true, true, true, true, true, true, true, true, true, true, true, false, false, false, false, false, false] rfl rfl (by kernel_rfl) (fun _ _ _ h => h) (Or.inl ⟨by rfl, ?_⟩) hHeld ?_ ?_
  rotate_left
  · rintro w' ⟨s0, s1, s2⟩
    go_simp
    with_reducible rfl
  rotate_left
  · simp only [Act.put, List.setIfInBounds_toArray, List.set_cons_zero, List.set_cons_succ, i64_w, i32_w]
    rfl
  refine take_ (i := 13) (N := some 39) (v := ?_) (a' := ?_) #[true, true, true, true, true, true, true, true, true, true, true, true, true, true, false, false, false, false, false] rfl rfl (by kernel_rfl) (fun _ _ _ h => h) (Or.inl ⟨by rfl, ?_⟩) hHeld ?_ ?_
  rotate_left
  · rintro w' ⟨s0, s1, s2⟩
    go_simp
    with_reducible rfl
  rotate_left
  · simp only [Act.put, List.setIfInBounds_toArray, List.set_cons_zero, List.set_cons_succ, i64_w, i32_w]
    rfl
  refine take_ (i := 14) (N := some 40) (v := ?_) (a' := ?_) #[true, true, true, true, true, true, true, true, true, true, true, true, true, true, true, false, false, false, false] rfl rfl (by kernel_rfl) (fun _ _ _ h => h) (Or.inl ⟨by rfl, ?_⟩) hHeld ?_ ?_
  rotate_left
  · rintro w' ⟨s0, s1, s2⟩
    go_simp
    with_reducible rfl
  rotate_left
  · simp only [Act.put, List.setIfInBounds_toArray, List.set_cons_zero, List.set_cons_succ, i64_w, i32_w]
    rfl
  refine one_ (i := 15) (N := some 41) #[true, true, true, true, true, true, true, true, true, true, true, true, true, true, true, true, false, false, false] rfl rfl (by kernel_rfl) (by decide) (fun K hK => ?_)
  refine value_ (w1 := WB.alloc (.cells #[.int .i64 (nn : Int)] 3)) (v := .slice (some ⟨WB.heap.size, 0, none⟩) 1 1) (by rfl) rfl ?_ ?_
  · go_simp
    first | rfl | done
  refine hK.out _ _ ⟨cell?_keep_alloc _ _ _ _ ((blk_cell HS1.out.blk 0).trans rfl), cell?_keep_alloc _ _ _ _ ((blk_cell HRS1.out lev).trans HRL.out), cell?_keep_alloc _ _ _ _ ((blk_cell HX1.out 1).trans rfl)⟩ (fun hHeld => ?_)
  clear hK K
  refine norm_ (a' := ?_) ?_ ?_
  rotate_left
  · simp only [Act.put, List.setIfInBounds_toArray, List.set_cons_zero, List.set_cons_succ, i64_w, i32_w]
    rfl
  refine one_ (i := 16) (N := some 42) #[true, true, true, true, true, true, true, true, true, true, true, true, true, true, true, true, true, false, false] rfl rfl (by kernel_rfl) (by decide) (fun K hK => ?_)
  have hrv2 : Kd.R kI 3 WB base (fun k => recol WB f lev k = lev) rv (M0) := recol_R HRV1.out
  refine Kd.R_append_step kI (w0 := WB) base (by rfl) (.tmp 37) (.tmp 41) 23 3 (.int .i64 0) 8 rfl Try.underlying23 int_info rfl (show 0 < 1 by decide) (by omega) rv (M0) (nn : Int) [.int .i64 (nn : Int)] (fun k => recol WB f lev k = lev) (fun _ => False) rfl rfl rfl (fun _ hk => hk.elim) (fun k hk => recol_new hk) hrv2 (Below.refl _ _) (by have := HS1.out.lt; have := HS1.out.hb; omega) (by have := HM0L.out; have := HBB.out; omega) ?_
  intro v1 w3 hR3 _ hg3 hat3
  have hgb : some b ≠ rv.ownBlock := Kd.R_ne hrv2 HS1.out.blk (by decide)
  have hgg : some gL ≠ rv.ownBlock := Kd.R_ne hrv2 HRS1.out (by decide)
  have hgx : some w.heap.size ≠ rv.ownBlock := Kd.R_ne hrv2 HX1.out (by decide)
  have hblk3 : w3.heap[b]? = some (.cells #[.slice (some ⟨gL, 0, none⟩) Ms.length cL, vD] 30 (0, 0)) := (hg3.block _ (blk_lt HS1.out.blk) hgb).trans HS1.out.blk
  have hrs3 : w3.heap[gL]? = some (.cells rs 23 (0, 0)) := (hg3.block _ (blk_lt HRS1.out) hgg).trans HRS1.out
  have hx3 : OS w3 w.heap.size (.int .i64 0) (.slice A nn k) := (hg3.block _ (blk_lt HX1.out) hgx).trans HX1.out
  have hrow3 : ∀ i, i < Ms.length → i ≠ lev → ∃ v, rs[i]? = some v ∧ Kd.R kI 3 w3 base (fun k => recol WB f lev k = i) v (Ms.getD i []) := fun i hi hil => by
    obtain ⟨v, hv, hR⟩ := HRW1.out i hi
    refine ⟨v, hv, Kd.R_grown (recol_R hR) hg3 (fun k hk he => ?_)⟩
    have := hrv2.1 k he.symm
    omega
  have hdat3 : Kd.R kI 3 w3 base (fun k => recol WB f lev k = Ms.length) vD E := Kd.R_grown (recol_R HDA1.out) hg3 (fun k hk he => by
    have := hrv2.1 k he.symm
    have := HLV.out
    omega)
  have HB3 := Aside0.mk (show Below base W0 w3 from HB1.out.grown hg3 (by rw [HBS.out]; exact HB1.out.size) (fun k hk => Kd.R_base hrv2 k hk))
  obtain ⟨A9, k9, hv1, _, _⟩ := Kd.R_reads hR3
  subst hv1
  have HBK := Aside0.mk hblk3
  have HRS := Aside0.mk hrs3
  have HRW := Aside0.mk hrow3
  have HDA := Aside0.mk hdat3
  have HX3 := Aside0.mk hx3
  have HR3 := Aside0.mk hR3
  refine hK.out _ _ ⟨(blk_cell hblk3 0).trans rfl, (blk_cell hrs3 lev).trans HRL.out, (blk_cell hx3 1).trans rfl⟩ (fun hHeld => ?_)
  clear hK K
  have hfo := blk_frozen HRS.out lev
  have hco : w3.cell? ⟨gL, lev, none⟩ = some rv := (blk_cell HRS.out lev).trans HRL.out
  clear HS1 HX1 HB1 HRS1 HRW1 HDA1 HRV1 hrv2 hR3 hg3 hat3 hgb hgg hgx hblk3 hrs3 hx3 hrow3 hdat3
  refine norm_ (a' := ?_) (show Act.put _ (some 42) (.slice A9 (M0 ++ [(nn : Int)]).length k9) = _ from ?_) ?_
  rotate_left
  · simp only [Act.put, List.setIfInBounds_toArray, List.set_cons_zero, List.set_cons_succ, i64_w, i32_w]
    rfl
  refine take_ (i := 17) (N := some 43) (v := ?_) (a' := ?_) #[true, true, true, true, true, true, true, true, true, true, true, true, true, true, true, true, true, true, false] rfl rfl (by kernel_rfl) (fun _ _ _ h => h) (Or.inl ⟨by rfl, ?_⟩) hHeld ?_ ?_
  rotate_left
  · rintro w' ⟨s0, s1, s2⟩
    go_simp
    with_reducible rfl
  rotate_left
  · simp only [Act.put, List.setIfInBounds_toArray, List.set_cons_zero, List.set_cons_succ, i64_w, i32_w]
    rfl
  refine last_ (i := 18) (N := none) #[true, true, true, true, true, true, true, true, true, true, true, true, true, true, true, true, true, true, true] rfl rfl (by kernel_rfl) (by decide) (fun K hK => ?_)
  refine skip_ (w1 := ?_) (by rfl) rfl ?_ ?_
  rotate_left
  · go_simp
    rfl
  refine hK.out _ _ ?_
  clear hK K
  refine done_ (by kernel_rfl) ?_
  obtain ⟨st, hst⟩ : ∃ st : Nat → List (List Int) × List Int, st = fun i => (List.range i).foldl (fun s c => lyA Ls D (lev + 1) ((L.take a).sum + c) s) (Ms.set lev (M0 ++ [(nn : Int)]), E) := ⟨_, rfl⟩
  have HS0 := Aside0.mk (show st 0 = (Ms.set lev (M0 ++ [(nn : Int)]), E) from by rw [hst]; rfl)
  have HSS := Aside0.mk (show ∀ i, st (i + 1) = lyA Ls D (lev + 1) ((L.take a).sum + i) (st i) from fun i => by
    rw [hst]; show (List.range (i + 1)).foldl _ _ = _; rw [List.range_succ, List.foldl_append]; rfl)
  have HSF := Aside0.mk (show st nn = lyA (L :: Ls) D lev a (Ms, E) from by
    rw [hst]
    show _ = (List.range (L.getD a 0)).foldl _ _
    rw [← HNN.out, HM0.out])
  have HSL := Aside0.mk (show ∀ i, (st i).1.length = lev + 1 + Ls.length from fun i => by
    induction i with
    | zero => rw [HS0.out]; show (List.set _ _ _).length = _; rw [List.length_set, HML.out]; omega
    | succ i ih => rw [HSS.out, lyA_len, ih])
  clear hst
  have hl1 : (M0 ++ [(nn : Int)]).length = M0.length + 1 := by simp
  have hR9 := HR3.out
  rw [hl1] at hR9
  have HB9 := Aside0.mk (show Below base W0 (w3.setCell ⟨gL, lev, none⟩ (.slice A9 (M0.length + 1) k9)) from by rw [HBS.out] at HB3 ⊢; exact below_set HB3.out (by have := HHG.out; have := HBS.out; omega))
  have HX9 := Aside0.mk (show OS (w3.setCell ⟨gL, lev, none⟩ (.slice A9 (M0.length + 1) k9)) w.heap.size (.int .i64 0) (.slice A nn k) from blk_far HX3.out (ne_tag HX3.out HRS.out (by decide)) _)
  have HL9 := Aside0.mk (show LS (w3.setCell ⟨gL, lev, none⟩ (.slice A9 (M0.length + 1) k9)) b base gL cL vD (Ms.set lev (M0 ++ [(nn : Int)])) E from by
    have hsl : (Ms.set lev (M0 ++ [(nn : Int)])).length = Ms.length := List.length_set
    have hrsz : lev < rs.size := (Array.getElem?_eq_some_iff.1 HRL.out).1
    refine ⟨?_, HHB.out, HHG.out, by rw [hsl]; exact HHC.out, rz_of (blk_put HRS.out lev _ rfl) (by rw [Array.size_setIfInBounds]; exact HRZ.out), _, recol WB f lev, blk_put HRS.out lev _ rfl, fun i hi => ?_, ?_⟩
    · rw [hsl]; exact blk_far HBK.out (ne_tag HBK.out HRS.out (by decide)) _
    · rw [hsl] at hi
      by_cases hil : i = lev
      · rw [hil]
        refine ⟨_, by rw [Array.getElem?_setIfInBounds_self_of_lt hrsz], ?_⟩
        rw [List.getD_eq_getElem?_getD, List.getElem?_set_self HLV.out]
        exact Kd.R_set hR9 HRS.out lsT2 lev _
      · obtain ⟨v, hv, hR⟩ := HRW.out i hi hil
        refine ⟨v, by rw [Array.getElem?_setIfInBounds_ne (fun h => hil h.symm)]; exact hv, ?_⟩
        rw [List.getD_eq_getElem?_getD, List.getElem?_set_ne (fun h => hil h.symm), ← List.getD_eq_getElem?_getD]
        exact Kd.R_set hR HRS.out lsT2 lev _
    · rw [hsl]; exact Kd.R_set HDA.out HRS.out lsT2 lev _)
  have HBD9 := Aside0.mk (show LBd (Ms.set lev (M0 ++ [(nn : Int)])) E (B + 1) from by rw [HM0.out]; exact HBD.out.set lev _)
  have hcX9 : (w3.setCell ⟨gL, lev, none⟩ (.slice A9 (M0.length + 1) k9)).cell? ⟨w.heap.size, 1, none⟩ = some (.slice A nn k) := (blk_cell HX9.out 1).trans rfl
  have HNNi := Aside0.mk (show (nn : Int) ≤ 400 from by have := HN4.out; omega)
  have HW2 := Aside0.mk (show wrap64 ((lev : Int) + 1) = ((lev + 1 : Nat) : Int) from by have := HL3.out; rw [wrap64]; omega)
  rw [hl1]
  generalize w3.setCell ⟨gL, lev, none⟩ (.slice A9 (M0.length + 1) k9) = W9 at HB9 HX9 HL9 hcX9 ⊢
  clear HBK HRS HRW HDA HX3 HR3 HB3 hR9 hl1 hHeld hfo hco
  trace_state
  go_wp2
  go_loopg [47] nn (fun kq v47 w' => ∃ (i : Nat) (vD' : Value), v47 = .int .i64 (i : Int) ∧ Aside0 (kq + i = nn) ∧ Aside0 (LS w' b base gL cL vD' (st i).1 (st i).2) ∧ Aside0 (LBd (st i).1 (st i).2 (B + 1 + i * lyC Ls.length)) ∧ Aside0 (Below base W0 w'))
  case atStart => exact ⟨0, vD, rfl, ⟨by omega⟩, ⟨by rw [HS0.out]; exact HL9.out⟩, ⟨by rw [HS0.out]; exact HBD9.out.mono (by omega)⟩, HB9⟩
  case round =>
    obtain ⟨i, vD', rfl, HI, HLi, HBDi, HBi⟩ := hrel
    by_cases hi : i < nn
    · have h1 : (i : Int) < (nn : Int) := by omega
      have h0 : (0 : Int) ≤ (i : Int) := by omega
      have hCr : Kd.C kPair wr A nn xs := Kd.C_below HC.out (by rw [← HBS.out]; exact HBi.out)
      obtain ⟨ad, rfl, hc1, hc2⟩ := pair_at2 hCr i hi
      have hNd := HXN.out i hi
      obtain ⟨x1, x2, hxx⟩ : ∃ x1 x2, xs.getD i pD = (x1, x2) := ⟨_, _, rfl⟩
      rw [hxx] at hc1 hc2 hNd
      have hpl2 := HPL.out ad rfl (by omega)
      have hc2' : wr.cell? ⟨(ad.add (i * 2)).block, (ad.add (i * 2)).off + 1, none⟩ = some x2 := by
        rw [hpl2.add] at hc2 ⊢
        exact hc2
      clear hpl2 hCr
      obtain ⟨z9, A8, n9, k8, e1, e2⟩ := nd_form (show Nd W0 (fun _ => True) Ls D _ (.agg #[x1, x2]) from hNd)
      subst e1
      subst e2
      have HND := Aside0.mk hNd
      have HH := Aside0.mk hi
      have HW := Aside0.mk (show wrap64 ((i : Int) + 1) = ((i + 1 : Nat) : Int) from by have := HN4.out; rw [wrap64]; omega)
      have HBG := Aside0.mk (show B + 1 + i * lyC Ls.length + lyC Ls.length ≤ B + lyC (Ls.length + 1) from by
        have h5 := HC4.out
        have h6 : (i + 1) * lyC Ls.length ≤ 400 * lyC Ls.length := Nat.mul_le_mul_right _ (by have := HN4.out; omega)
        rw [Nat.add_mul, Nat.one_mul] at h6
        omega)
      clear hi hxx hNd
      go_wp2_with fail
      have hcall : Calls Try.prog 30 #[.pointer (some ⟨b, 0, none⟩), .agg #[.int .i64 z9, .slice A8 n9 k8], .int .i64 (wrap64 ((lev : Int) + 1))] (wr.alloc (.cells #[.int .i64 z9, .slice A8 n9 k8] 52)) fun e w' => ∃ vD', e = .returned (.tuple #[]) ∧ LS w' b base gL cL vD' (st (i + 1)).1 (st (i + 1)).2 ∧ LBd (st (i + 1)).1 (st (i + 1)).2 (B + 1 + i * lyC Ls.length + lyC Ls.length) ∧ Below base W0 w' := by
        rw [HW2.out, HSS.out]
        exact HIH.out (lev + 1) _ _ _ vD' (st i).1 (st i).2 _ (HSL.out i) (by rw [HSL.out i]; have := HL3.out; have := HML.out; omega) HND.out (HBi.out.alloc (by rw [HBS.out]; exact HBi.out.size) _) (HLi.out.move ((Below.refl _ wr).alloc (Nat.le_refl _) _)) HBDi.out (by have := HBG.out; have := HBB2.out; omega)
      refine hcall.mono ?_
      clear hcall
      rintro e w2 ⟨vD2, rfl, hl2, hb2, hbe2⟩
      have HL2 := Aside0.mk hl2
      have HBD2 := Aside0.mk hb2
      have HBE2 := Aside0.mk hbe2
      clear hl2 hb2 hbe2
      go_wp2_with fail
      go_roundg (gk - 1)
      case measure => have := HI.out; have := HH.out; omega
      case rel =>
        refine ⟨i + 1, vD2, by rw [HW.out], ⟨by have := HI.out; have := HH.out; omega⟩, HL2, ⟨HBD2.out.mono (by rw [Nat.add_mul, Nat.one_mul]; omega)⟩, HBE2⟩
    · have h1 : (nn : Int) ≤ (i : Int) := by omega
      have HE := Aside0.mk (show i = nn from by have := HI.out; omega)
      clear hi
      go_wp2_with fail
      first | go_end0 | ((try simp only [Exit.inBlock, Exit.then]); refine bodyPost_ret (results_none rfl _ _ _) rfl ?_)
      have hLi := HLi.out
      have hBi := HBDi.out
      rw [HE.out, HSF.out] at hLi hBi
      refine ⟨vD', rfl, hLi, hBi.mono ?_, HBi.out⟩
      have h5 := HC4.out
      have h6 : nn * lyC Ls.length ≤ 400 * lyC Ls.length := Nat.mul_le_mul_right _ HN4.out
      omega
theorem put_walk (W0 : World) (b base gL cL : Nat) (hbase : base = W0.heap.size) : ∀ (Ls : List (List Nat)) (D : List Int), (∀ L ∈ Ls, ∀ n ∈ L, n ≤ 400) → putH W0 b base gL cL Ls D
  | [], D, _ => fun lev a v w vD Ms E B hl hm hN hB hS hbd hBB => by
    obtain ⟨A, k, rfl⟩ := hN
    have hl' : lev = Ms.length := by simpa using hl.symm
    subst hl'
    refine (put_leaf W0 w b base gL cL vD Ms E (D.getD a 0) A k B hbase hS hB hbd hBB).mono ?_
    rintro e w' ⟨vD', rfl, h1, h2⟩
    refine ⟨vD', rfl, h1, ⟨fun M hM => Nat.le_succ_of_le (hbd.1 M hM), ?_⟩, h2⟩
    show (E ++ [_]).length ≤ B + 1
    rw [List.length_append, List.length_singleton]
    have := hbd.2
    omega
  | L :: Ls, D, h3 => fun lev a v w vD Ms E B hl hm hN hB hS hbd hBB => by
    obtain ⟨A, k, xs, rfl, h1, hC, ho, hx⟩ := hN
    refine put_node W0 w b base gL cL vD Ms E L Ls D lev a _ A k B xs hbase rfl hl hC hx (fun ad ha hp => (ho ad ha hp).2) ?_ (by simp at hl; omega) hS hB hbd hBB (put_walk W0 b base gL cL hbase Ls D (fun M hM => h3 M (List.mem_cons_of_mem _ hM)))
    rw [List.getD_eq_getElem?_getD]
    cases hi : L[a]? with
    | none => exact Nat.zero_le _
    | some n => exact h3 L List.mem_cons_self n (List.mem_of_getElem? hi)
end Go.Proofs.YtlakjonnkggomaaW.PrintMore
