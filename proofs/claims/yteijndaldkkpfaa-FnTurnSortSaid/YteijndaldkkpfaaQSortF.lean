/-
  Cut to what this claim uses.
-/
import Derived.Deep.Upon
import Derived.Test.YteijndaldkkpfaaQSortE
import Derived.Test.YteijndaldkkpfaaQTurnB
namespace Go.Proofs.YteijndaldkkpfaaW.SortW
open Go.Proofs Go.Shelf Go.RowKit Go.Lib Go.Deep
open Go.Sort hiding Below
open Go.Proofs.YteijndaldkkpfaaW.PrintWords Go.Proofs.YteijndaldkkpfaaW.PrintLast Go.Proofs.YteijndaldkkpfaaW.PrintMore
set_option linter.unusedVariables false
set_option linter.unusedSimpArgs false
section
variable {α : Type} [Inhabited α] {enc : α → Value} {w0 W : World} {blk off : Nat} {d : Array α}
theorem sw_block (h : SW enc w0 blk off d W) {k : Nat} (hk : k < w0.heap.size) (hne : k ≠ blk) : W.heap[k]? = w0.heap[k]? := by
  obtain ⟨n, os, rfl⟩ := h
  unfold sortWorld grow putRow mapBlock Sort.ahead
  simp only [Array.getElem?_append, Array.size_modify, hk, if_true, Array.getElem?_modify]
  rw [if_neg (Ne.symm hne)]
theorem sw_below (h : SW enc w0 blk off d W) (hb : blk < w0.heap.size) : Below blk w0 W := by
  refine ⟨?_, ?_, ?_, h.le, fun k hk => sw_block h (by omega) (by omega)⟩ <;> (obtain ⟨n, os, rfl⟩ := h; rfl)
theorem sw_row (h : SW enc w0 blk off d W) {t : TypeId} {cap : Nat} {f : Nat → Value} (hr : w0.rowIs blk t cap f) : W.rowIs blk t cap (fun j => if off ≤ j ∧ j < off + d.size then enc d[j - off]! else f j) := by
  obtain ⟨n, os, rfl⟩ := h
  obtain ⟨c, h1, h2, h3⟩ := hr
  have hlt : blk < w0.heap.size := (Array.getElem?_eq_some_iff.1 h1).1
  refine ⟨putCells enc off d c, ?_, by simp [putCells, h2], fun i hi => ?_⟩
  · unfold sortWorld grow putRow mapBlock Sort.ahead
    simp only [Array.getElem?_append, Array.size_modify, hlt, if_true, Array.getElem?_modify]
    rw [h1]; rfl
  · unfold putCells
    rw [Array.getElem?_mapIdx, h3 i hi]; rfl
end
set_option maxHeartbeats 4000000 in
set_option maxRecDepth 100000 in
theorem cmp_walk (B : Nat) (A1 : Option Addr) (c1 : Nat) (data : List Int) (x y : Nat) (w : World) (hB : w.cell? ⟨B, 0, none⟩ = some (.slice A1 data.length c1)) (hC : Kd.C (Kd.int .i64) w A1 data.length data) (hx : x < data.length) (hy : y < data.length) (hd : ∀ z ∈ data, 0 ≤ z ∧ z < 10007) :
    Calls Try.prog 58 #[.int .i64 x, .int .i64 y, .pointer (some ⟨B, 0, none⟩)] w fun e w' => e = .returned (.int .i64 (data.getD x 0 - data.getD y 0)) ∧ ∃ q, w' = w.drewN q := by
  obtain ⟨u, hu⟩ : ∃ u, u = data.getD x 0 := ⟨_, rfl⟩
  obtain ⟨v, hv⟩ : ∃ u, u = data.getD y 0 := ⟨_, rfl⟩
  have gm : ∀ j, j < data.length → data.getD j 0 ∈ data := fun j hj => by rw [List.getD_eq_getElem?_getD, List.getElem?_eq_getElem hj]; exact List.getElem_mem hj
  have hu1 := hd _ (gm x hx)
  have hv1 := hd _ (gm y hy)
  rw [← hu] at hu1
  rw [← hv] at hv1
  obtain ⟨ad, rfl, hc1⟩ := Kd.at_int hC (x : Int) (by omega) (by omega)
  obtain ⟨ad2, e2, hc2⟩ := Kd.at_int hC (y : Int) (by omega) (by omega)
  obtain rfl := Option.some.inj e2
  have er : ∀ j : Nat, rd data (j : Int) = data.getD j 0 := fun j => by simp [rd]
  rw [er, ← hu] at hc1
  rw [er, ← hv] at hc2
  have hc1 : w.cell? (ad.add x) = some (.int .i64 u) := by simpa using hc1
  have hc2 : w.cell? (ad.add y) = some (.int .i64 v) := by simpa using hc2
  have hx0 : (0 : Int) ≤ (x : Int) := by omega
  have hy0 : (0 : Int) ≤ (y : Int) := by omega
  have hxl : (x : Int) < (data.length : Int) := by omega
  have hyl : (y : Int) < (data.length : Int) := by omega
  have e1 : IntKind.i64.wrap (u - v) = u - v := by rw [IntKind.wrap_i64]; omega
  rw [← hu, ← hv]
  clear hu hv gm hd hC e2 er
  go_enter Try.func58, Try.ntmps58
  go_wp2_with fail
  go_quiet (fail)
  go_wp2
  all_goals (go_ret; exact ⟨rfl, ⟨_, rfl⟩⟩)
section
variable (data : List Int) (s n : Nat)
def keyD (x : Fin (data.length - 1 + 1)) : Int := data.getD x.val 0
def encD (x : Fin (data.length - 1 + 1)) : Value := .int .i64 (x.val : Int)
def segA : Array (Fin (data.length - 1 + 1)) := ((List.range n).map fun j => Fin.ofNat (data.length - 1 + 1) (s + j)).toArray
/-- The places of a segment, sorted by what stands there. -/
def segS : List Int := (Stab.stable (Stab.ltK (keyD data)) n (segA data s n)).toList.map fun x => (x.val : Int)
end
theorem segA_size (data : List Int) (s n : Nat) : (segA data s n).size = n := by simp [segA]
theorem segA_at (data : List Int) (s n j : Nat) (hj : j < n) (hs : s + n ≤ data.length) : ((segA data s n)[j]!).val = s + j := by
  rw [getElem!_pos _ j (by rw [segA_size]; exact hj)]
  simp [segA, Fin.ofNat]
  omega
theorem blocks_size {α : Type} [Inhabited α] (lt : α → α → Bool) (n : Nat) : ∀ (q a : Nat) (d : Array α), q = n - a → (Stab.blocks lt n a d).size = d.size := by
  intro q
  induction q using Nat.strongRecOn with
  | _ q ih =>
    intro a d hq
    by_cases h : a + 20 ≤ n
    · rw [Stab.blocks_go lt n a d h, ih _ (by omega) _ _ rfl, insertion_size]
    · rw [Stab.blocks_end lt n a d h, insertion_size]
theorem mergePass_size {α : Type} [Inhabited α] (lt : α → α → Bool) (s n : Nat) : ∀ (q a : Nat) (d : Array α), q = n - a → (Stab.mergePass lt s n a d).size = d.size := by
  intro q
  induction q using Nat.strongRecOn with
  | _ q ih =>
    intro a d hq
    by_cases h : a + 2 * s ≤ n ∧ 0 < s
    · rw [Stab.mergePass_go lt s n a d h, ih _ (by omega) _ _ rfl, Stab.symMerge_size _ _ _ _ _ _ rfl]
    · rw [Stab.mergePass_end lt s n a d h]; split; (exact Stab.symMerge_size _ _ _ _ _ _ rfl); rfl
theorem mergeAll_size {α : Type} [Inhabited α] (lt : α → α → Bool) (n : Nat) : ∀ (q s : Nat) (d : Array α), q = n - s → (Stab.mergeAll lt s n d).size = d.size := by
  intro q
  induction q using Nat.strongRecOn with
  | _ q ih =>
    intro s d hq
    by_cases h : s < n ∧ 0 < s
    · rw [Stab.mergeAll_go lt s n d h, ih _ (by omega) _ _ rfl, mergePass_size _ _ _ _ _ _ rfl]
    · rw [Stab.mergeAll_end lt s n d h]
theorem stable_size {α : Type} [Inhabited α] (lt : α → α → Bool) (n : Nat) (d : Array α) : (Stab.stable lt n d).size = d.size := by
  unfold Stab.stable; rw [mergeAll_size _ _ _ _ _ rfl, blocks_size _ _ _ _ _ rfl]
theorem segS_len (data : List Int) (s n : Nat) : (segS data s n).length = n := by
  unfold segS; rw [List.length_map, Array.length_toList, stable_size, segA_size]
theorem segS_at (data : List Int) (s n j : Nat) (hj : j < n) : encD data (Stab.stable (Stab.ltK (keyD data)) n (segA data s n))[j]! = .int .i64 ((segS data s n).getD j 0) := by
  have h : j < (Stab.stable (Stab.ltK (keyD data)) n (segA data s n)).size := by rw [stable_size, segA_size]; exact hj
  unfold encD segS
  rw [getElem!_pos _ j h, List.getD_eq_getElem?_getD, List.getElem?_map, List.getElem?_eq_getElem (by rw [Array.length_toList]; exact h)]
  rfl
def outS (data : List Int) (ls : List Nat) : Nat → List Int
  | 0 => []
  | i + 1 => outS data ls i ++ segS data (ls.take i).sum (ls.getD i 0)
theorem outS_len (data : List Int) (ls : List Nat) : ∀ i, (outS data ls i).length = (ls.take i).sum := by
  intro i
  induction i with
  | zero => rfl
  | succ i ih =>
    rw [outS, List.length_append, segS_len, ih, List.take_add_one]
    cases h : ls[i]? with
    | none => simp [List.getD_eq_getElem?_getD, h]
    | some n => simp [List.getD_eq_getElem?_getD, h, List.sum_append]
theorem C_of_cells' {W : World} {A s : Nat} {ys : List Int} (hb : ys.length ≤ 1000) (h : ∀ j, j < ys.length → W.cell? ⟨A, s + j, none⟩ = some (.int .i64 (ys.getD j 0))) : Kd.C (Kd.int .i64) W (some ⟨A, s, none⟩) ys.length ys :=
  ⟨rfl, by omega, fun _ => ⟨⟨A, s, none⟩, rfl, fun j p hp => ⟨[.int .i64 p], rfl, rfl, fun i u hu => by
    match i, hu with
    | 0, hu =>
      have hj := (List.getElem?_eq_some_iff.1 hp).1
      have h1 := h j hj
      have e : ys.getD j 0 = p := by rw [List.getD_eq_getElem?_getD, hp]; rfl
      rw [e] at h1
      simp only [List.getElem?_cons_zero, Option.some.injEq] at hu
      subst hu
      have e2 : (⟨A, s, none⟩ : Addr).add (j * (Kd.int .i64).sz + 0) = ⟨A, s + j, none⟩ := by
        show (⟨A, s, none⟩ : Addr).add (j * 1 + 0) = _
        rw [Nat.mul_one, Nat.add_zero]
        unfold Addr.add; split <;> simp_all
      rw [e2]; exact h1
    | i + 1, hu => simp at hu⟩⟩⟩
theorem sort_new {w3 : World} {base A g n xc e : Nat} {ps : List (Nat × Nat)} (h : Kd.R (kCut A) e w3 base (fun k => k ≠ A) (.slice (some ⟨g, 0, none⟩) n xc) ps) (hA : A < w3.heap.size) {k : Nat} (hk : w3.heap.size ≤ k) : k ≠ A ∧ some k ≠ (Value.slice (some ⟨g, 0, none⟩) n xc).ownBlock :=
  ⟨by omega, fun e => by have := ((Kd.R_bound h).1 k e.symm).2.2.1; omega⟩
theorem blk_ltA' {w3 : World} {A t cap : Nat} {P : (Nat → Value) → Prop} (h : ∃ f, w3.rowIs A t cap f ∧ P f) : A < w3.heap.size := by
  obtain ⟨f, ⟨c, h1, _⟩, _⟩ := h
  exact blk_lt h1
set_option maxHeartbeats 4000000 in
set_option maxRecDepth 1000000 in
theorem sortNone_walk (p : Option Addr) (cap : Nat) (fv : Value) (w : World) : Calls Try.prog 57 #[.slice p 0 cap, fv] w fun e w' => e = .returned (.tuple #[]) ∧ w' = w := by
  have ins : ∀ w, Calls Try.prog 101 #[.slice p 0 cap, .int .i64 0, .int .i64 0, fv] w fun e w' => e = .returned (.tuple #[]) ∧ w' = w := fun w => by
    go_enter Try.func101, Try.ntmps101
    go_wp2
    refine wp_loop_rounds 1 ?_
    rw [rounds_succ]
    go_wp2
    go_end0
    exact ⟨rfl, rfl⟩
  have stb : ∀ w, Calls Try.prog 91 #[.slice p 0 cap, .int .i64 0, fv] w fun e w' => e = .returned (.tuple #[]) ∧ w' = w := fun w => by
    go_enter Try.func91, Try.ntmps91
    go_wp2
    refine wp_loop_rounds 1 ?_
    rw [rounds_succ]
    go_wp2_with fail
    refine (ins _).mono ?_
    rintro e w1 ⟨rfl, rfl⟩
    go_wp2
    refine wp_loop_rounds 1 ?_
    rw [rounds_succ]
    go_wp2
    go_end0
    exact ⟨rfl, rfl⟩
  go_enter Try.func57, Try.ntmps57
  go_wp2_with fail
  refine (stb _).mono ?_
  rintro e w1 ⟨rfl, rfl⟩
  go_wp2
  go_end0
  exact ⟨rfl, rfl⟩
/-- One segment: cells s .. s + n of block A, which hold their own numbers. -/
theorem segSort_walk (B A s n cap bb : Nat) (A1 : Option Addr) (c1 : Nat) (data : List Int) (w : World) (f : Nat → Value) (hrow : w.rowIs A 3 cap f) (hsc : s + n ≤ cap) (hf : ∀ j, j < n → f (s + j) = .int .i64 ((s + j : Nat) : Int)) (hsd : s + n ≤ data.length) (hd4 : data.length ≤ 400)
    (hbb : bb ≤ A) (hBA : B ≠ A) (hB : w.cell? ⟨B, 0, none⟩ = some (.slice A1 data.length c1)) (hC : ∀ W, Below bb w W → Kd.C (Kd.int .i64) W A1 data.length data) (hd : ∀ z ∈ data, 0 ≤ z ∧ z < 10007) :
    Calls Try.prog 57 #[.slice (some ⟨A, s, none⟩) n n, .func (.func 58) #[] #[.pointer (some ⟨B, 0, none⟩)]] w fun e w' => e = .returned (.tuple #[]) ∧
      Below A w w' ∧ (∀ k, k ≠ A → k < w.heap.size → w'.heap[k]? = w.heap[k]?) ∧ w'.rowIs A 3 cap (fun j => if s ≤ j ∧ j < s + n then .int .i64 ((segS data s n).getD (j - s) 0) else f j) := by
  by_cases hn : n = 0
  · subst hn
    refine (sortNone_walk _ _ _ _).mono ?_
    rintro e w' ⟨rfl, rfl⟩
    refine ⟨rfl, Below.refl _ _, fun _ _ _ => rfl, hrow.congr fun j _ => ?_⟩
    rw [if_neg (by omega)]
  have hAl := hrow.lt
  have hBl : B < w.heap.size := World.block_lt_of_cell? w _ hB
  have hS0 : (segA data s n).size = n := segA_size data s n
  have hH : Holds (encD data) w A s (segA data s n) := fun j hj => by
    rw [hS0] at hj
    refine ⟨?_, hrow.frozen _⟩
    rw [hrow.cell (by omega), hf j hj]
    unfold encD
    rw [segA_at data s n j hj hsd]
  have hR : Row1 (encD data) w A s (segA data s n) := ⟨fun x => rfl, hH, hAl⟩
  have hcmp : CmpLays1 Try.prog 58 #[.pointer (some ⟨B, 0, none⟩)] (encD data) (fun x y => data.getD x.val 0 - data.getD y.val 0) A s (segA data s n).size w := by
    intro m os dk hsz x y
    have hsw : SW (encD data) w A s dk (sortWorld (encD data) w A s m dk os) := ⟨m, os, rfl⟩
    refine (cmp_walk B A1 c1 data x.val y.val _ ?_ (hC _ ((sw_below hsw hAl).mono hbb)) (by have := x.isLt; omega) (by have := y.isLt; omega) hd).mono fun e w' he => ⟨he.1, ?_⟩
    · exact (World.cell?_of_block (w := w) (sw_block hsw hBl hBA)).trans hB
    · obtain ⟨q, hq⟩ := he.2
      exact ⟨q, #[], by rw [hq, grow_empty]⟩
  have hlt : ltOf (fun x y : Fin (data.length - 1 + 1) => data.getD x.val 0 - data.getD y.val 0) = Stab.ltK (keyD data) := by
    funext x y
    show decide (data.getD x.val 0 - data.getD y.val 0 < 0) = decide (data.getD x.val 0 < data.getD y.val 0)
    exact decide_eq_decide.2 (by omega)
  refine (sortStable_walk (encD data) (fun x y => data.getD x.val 0 - data.getD y.val 0) 58 #[.pointer (some ⟨B, 0, none⟩)] A s n n (segA data s n) w (enters_of Try.func58 (by kernel_rfl) rfl) hcmp hR hS0 (by omega) (segA data s n) w hS0 (SW.start hH)).mono ?_
  rintro e w' ⟨rfl, hS⟩
  rw [hlt] at hS
  refine ⟨rfl, sw_below hS hAl, fun k h1 h2 => sw_block hS h2 h1, (sw_row hS hrow).congr fun j hj => ?_⟩
  rw [stable_size, hS0]
  split
  · rw [segS_at data s n (j - s) (by omega)]
  · rfl
end Go.Proofs.YteijndaldkkpfaaW.SortW
