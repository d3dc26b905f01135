/-
  Arrays as they lie in memory; the program's raised.
-/
import Derived.BigRegion
import Derived.Deep.QuietTactic
import Derived.Test.YtlakjonnkggomaaProg
import Derived.Test.YtlakjonnkggomaaWMore
namespace Go.Proofs.YtlakjonnkggomaaW.PrintMore
set_option linter.unusedVariables false
set_option linter.unusedSimpArgs false
open Go.Proofs Go.Deep
open Go.RowKit Go.Proofs.YtlakjonnkggomaaW.PrintWords Go.Proofs.YtlakjonnkggomaaW.PrintLast Go.Proofs.YtlakjonnkggomaaW.PrintMore
/-- Two cells. -/
def kPair : Kd (Value × Value) where
  sz := 2
  E := []
  K := fun _ x cs => cs = [x.1, x.2] ∧ x.1.oneCell' = true ∧ x.2.oneCell' = true
  M := fun _ _ _ x cs => cs = [x.1, x.2] ∧ x.1.oneCell' = true ∧ x.2.oneCell' = true
  K_len := by rintro w x cs ⟨rfl, _⟩; rfl
  K_one := by
    rintro w x cs ⟨rfl, h1, h2⟩ u hu
    simp at hu
    rcases hu with rfl | rfl
    · exact h1
    · exact h2
  K_below := fun _ h => h
  K_of_M := fun h => h
  M_mono := fun _ h => h
  M_bound := fun h => h
  M_move := fun _ h => h
  M_lower := fun _ h => h
def pA (a b : Value) : Value × Value := (a, b)
def pD : Value × Value := (.int .i64 0, .slice none 0 0)
def ndP (x : Value × Value) : Value := .agg #[x.1, x.2]
def lv_nts (ls : List Nat) : List Int := ls.map fun (n : Nat) => (n : Int)
theorem lv_nts_at (ls : List Nat) (i : Nat) (h : i < ls.length) : rd (lv_nts ls) (i : Int) = (ls[i] : Int) := by
  unfold rd lv_nts
  simp [List.getD_eq_getElem?_getD, h]
theorem lv_nts_len (ls : List Nat) : (lv_nts ls).length = ls.length := by unfold lv_nts; rw [List.length_map]
theorem lv_take_sum (ls : List Nat) : ∀ (i : Nat) (h : i < ls.length), (ls.take (i + 1)).sum = (ls.take i).sum + ls[i] := by
  intro i h
  rw [List.take_add_one, List.getElem?_eq_getElem h, List.sum_append]
  simp
theorem lv_take_sum_le (ls : List Nat) : ∀ (i : Nat), (ls.take i).sum ≤ ls.sum := by
  induction ls with
  | nil => intro i; simp
  | cons n r ih => intro i; cases i with
    | zero => simp
    | succ i => have := ih i; simp; omega
/-- An address of a cell of a plain row. -/
def Pl (ad : Addr) : Prop := ad = ⟨ad.block, ad.off, none⟩
theorem Pl.add {ad : Addr} (h : Pl ad) (n : Nat) : ad.add n = ⟨ad.block, ad.off + n, none⟩ := by
  rw [h]; first | rfl | (unfold Addr.add; rfl) | simp [Addr.add]
theorem Pl.add' {ad : Addr} (h : Pl ad) (n : Nat) : Pl (ad.add n) := by rw [h.add n]; rfl
/-- The array at a place of its level, as it lies in memory: at the last level a number, else as many parts as its length says, which lie at the next level's places behind those of the arrays ahead of it. -/
def Nd (W : World) (ok : Nat → Prop) : List (List Nat) → List Int → Nat → Value → Prop
  | [], D, a, v => ∃ A k, v = .agg #[.int .i64 (D.getD a 0), .slice A 0 k]
  | L :: Ls, D, a, v => ∃ (A : Option Addr) (k : Nat) (xs : List (Value × Value)), v = .agg #[.int .i64 0, .slice A (L.getD a 0) k] ∧ L.getD a 0 ≤ k ∧ Kd.C kPair W A (L.getD a 0) xs ∧
      (∀ ad, A = some ad → 0 < L.getD a 0 → ok ad.block ∧ Pl ad) ∧ ∀ c, c < L.getD a 0 → Nd W ok Ls D ((L.take a).sum + c) (ndP (xs.getD c pD))
abbrev NdT (W : World) := Nd W (fun _ => True)
theorem nd_below {W W' : World} {ok : Nat → Prop} (h : Below W.heap.size W W') : ∀ (Ls : List (List Nat)) (D : List Int) (a : Nat) (v : Value), Nd W ok Ls D a v → Nd W' ok Ls D a v
  | [], _, _, _, hn => hn
  | L :: Ls, D, a, v, ⟨A, k, xs, e, h1, hc, ho, hx⟩ => ⟨A, k, xs, e, h1, Kd.C_below hc h, ho, fun c hcl => nd_below h Ls D _ _ (hx c hcl)⟩
theorem nd_mono {W : World} {ok ok' : Nat → Prop} (h : ∀ k, k < W.heap.size → ok k → ok' k) : ∀ (Ls : List (List Nat)) (D : List Int) (a : Nat) (v : Value), Nd W ok Ls D a v → Nd W ok' Ls D a v
  | [], _, _, _, hn => hn
  | L :: Ls, D, a, v, ⟨A, k, xs, e, h1, hc, ho, hx⟩ => ⟨A, k, xs, e, h1, hc, fun ad ha hp => ⟨h _ (by
      obtain ⟨ad', e', hcc⟩ := hc.2.2 hp
      rw [ha] at e'
      cases e'
      have hl : 0 < xs.length := by rw [hc.1]; exact hp
      obtain ⟨cs, hcl, hK, hcell⟩ := hcc 0 _ (List.getElem?_eq_getElem hl)
      have := hcell 0 xs[0].1 (by rw [hK.1]; rfl)
      exact World.block_lt_of_cell? W _ this) (ho ad ha hp).1, (ho ad ha hp).2⟩, fun c hcl => nd_mono h Ls D _ _ (hx c hcl)⟩
theorem pair_move {W W' : World} {A : Option Addr} {n : Nat} {xs : List (Value × Value)} (h : Kd.C kPair W A n xs) (hm : ∀ ad, A = some ad → 0 < n → W'.heap[ad.block]? = W.heap[ad.block]?) : Kd.C kPair W' A n xs := by
  obtain ⟨h1, h2, h3⟩ := h
  refine ⟨h1, h2, fun hp => ?_⟩
  obtain ⟨ad, e, hcc⟩ := h3 hp
  refine ⟨ad, e, fun j p hj => ?_⟩
  obtain ⟨cs, hcl, hK, hcell⟩ := hcc j p hj
  refine ⟨cs, hcl, hK, fun i u hu => ?_⟩
  have hb : W'.heap[(ad.add (j * kPair.sz + i)).block]? = W.heap[(ad.add (j * kPair.sz + i)).block]? := by
    have hq : (ad.add (j * kPair.sz + i)).block = ad.block := by first | rfl | (cases ad; rfl) | (cases ad; unfold Addr.add; split <;> rfl) | simp
    rw [hq]; exact hm ad e hp
  exact (World.cell?_of_block (w := W) hb).trans (hcell i u hu)
theorem nd_move {W W' : World} {ok : Nat → Prop} (h : ∀ k, ok k → W'.heap[k]? = W.heap[k]?) : ∀ (Ls : List (List Nat)) (D : List Int) (a : Nat) (v : Value), Nd W ok Ls D a v → Nd W' ok Ls D a v
  | [], _, _, _, hn => hn
  | L :: Ls, D, a, v, ⟨A, k, xs, e, h1, hc, ho, hx⟩ => ⟨A, k, xs, e, h1, pair_move hc (fun ad ha hp => h _ (ho ad ha hp).1), ho, fun c hcl => nd_move h Ls D _ _ (hx c hcl)⟩
/-- The lengths fit: so many arrays at the first level, and so on. -/
def VdN : Nat → List (List Nat) → List Int → Prop
  | e, [], D => D.length = e
  | e, L :: Ls, D => L.length = e ∧ VdN L.sum Ls D
/-- All arrays of a level. -/
def Fo_ (W : World) (Ls : List (List Nat)) (D : List Int) (A : Option Addr) (n : Nat) : Prop :=
  ∃ xs, Kd.C kPair W A n xs ∧ (∀ ad, A = some ad → Pl ad) ∧ ∀ c, c < n → NdT W Ls D c (ndP (xs.getD c pD))
theorem fo_below {W W' : World} (h : Below W.heap.size W W') {Ls : List (List Nat)} {D : List Int} {A : Option Addr} {n : Nat} (hf : Fo_ W Ls D A n) : Fo_ W' Ls D A n := by
  obtain ⟨xs, h1, h3, h2⟩ := hf
  exact ⟨xs, Kd.C_below h1 h, h3, fun c hc => nd_below h Ls D c _ (h2 c hc)⟩
theorem arr_info : (Try.prog.info? 45).map (fun i => (i.zero, i.size, i.bytes)) = some (some (.agg #[.int .i64 0, .slice none 0 0]), 2, 32) := by kernel_rfl
theorem arr_info0 : ∃ i, Try.prog.info? 45 = some i ∧ i.zero = some (.agg #[.int .i64 0, .slice none 0 0]) ∧ i.size = 2 ∧ i.bytes = 32 := by
  obtain ⟨i, h1, h2⟩ := Option.map_eq_some_iff.1 arr_info
  simp only [Prod.mk.injEq] at h2
  exact ⟨i, h1, h2.1, h2.2.1, h2.2.2⟩
theorem make_arr (m : Nat) (hm : m ≤ 1048576) (W : World) : (Instr.makeSlice 43 (.int .i64 0) (.int .i64 (m : Int))).run Try.prog W = .ok (.slice (some ⟨W.heap.size, 0, none⟩) 0 m) (W.alloc (.cells (madeCells #[.int .i64 0, .slice none 0 0] (m * 2)) 45)) := by
  obtain ⟨i, h1, h2, h3, h4⟩ := arr_info0
  have h := run_make (P := Try.prog) W 43 45 i _ Try.underlying43 h1 h2 .i64 .i64 0 (m : Int) (by omega) (by omega) (by rw [h4]; omega) (by omega)
  rw [h3] at h
  simp only [Int.toNat_natCast, Int.toNat_zero] at h
  exact h
theorem own_none (W : World) (base m e : Nat) (cs : Array Value) (hb : base ≤ W.heap.size) (hm : m ≤ 1048576) (hs : cs.size = m * 2) : Kd.R kPair e (W.alloc (.cells cs e)) base (fun _ => True) (.slice (some ⟨W.heap.size, 0, none⟩) 0 m) [] := by
  refine ⟨fun _ _ => trivial, [], ⟨by simp, .inr ⟨W.heap.size, m, cs, rfl, hb, blk_new W _, Nat.zero_le _, by unfold maxLen; omega, hs, by simp⟩⟩, rfl, fun j p hj => by cases hj⟩
theorem pair_M (W : World) (base : Nat) (ok : Nat → Prop) (a b : Value) (ha : a.oneCell' = true) (hb : b.oneCell' = true) : kPair.M W base ok (a, b) [a, b] := ⟨rfl, ha, hb⟩
theorem lv_wrap_succ (i n : Nat) (hi : i < n) (hn : n ≤ 1048576) : wrap64 ((i : Int) + 1) = ((i + 1 : Nat) : Int) := by rw [wrap64]; omega
theorem lv_cell_keep {W W' : World} (h : Below W.heap.size W W') (p : Addr) (u : Value) (hp : W.cell? p = some u) : W'.cell? p = some u := (h.cell (World.block_lt_of_cell? W _ hp)).trans hp
theorem lv_C_below {w W : World} {A : Option Addr} {n : Nat} {l : List Int} (h : Kd.C (Kd.int .i64) w A n l) (hb : Below w.heap.size w W) : Kd.C (Kd.int .i64) W A n l := Kd.C_below h hb
/-- The last level's arrays. -/
def lvl0 (D : List Int) : List (Value × Value) := D.map fun n => (.int .i64 n, .slice none 0 0)
theorem lvl0_snoc (D : List Int) (i : Nat) (h : i < D.length) : lvl0 (D.take (i + 1)) = lvl0 (D.take i) ++ [(.int .i64 (D.getD i 0), .slice none 0 0)] := by
  unfold lvl0
  rw [List.take_add_one, List.getElem?_eq_getElem h, List.map_append, List.getD_eq_getElem?_getD, List.getElem?_eq_getElem h]; rfl
/-- The world behind the copy of a layout that came in. -/
def lvW (w : World) (a b : Value) : World := w.alloc (.cells #[a, b] 30)
theorem lv_below (w : World) (a b : Value) : Below w.heap.size w (lvW w a b) := (Below.refl _ w).alloc (Nat.le_refl _) _
theorem lv_size (w : World) (a b : Value) : (lvW w a b).heap.size = w.heap.size + 1 := by unfold lvW; simp
theorem lv_cell0 (w : World) (a b : Value) : (lvW w a b).cell? ⟨w.heap.size, 0, none⟩ = some a := World.cell?_alloc_new _ _ _ _
theorem lv_cell1 (w : World) (a b : Value) : (lvW w a b).cell? ⟨w.heap.size, 1, none⟩ = some b := World.cell?_alloc_new _ _ _ _
theorem lvl0_fo {W : World} {D : List Int} {v : Value} {e base : Nat} {ok : Nat → Prop} (h : Kd.R kPair e W base ok v (lvl0 D)) (hn : v.ownBlock ≠ none) : ∃ A k, v = .slice (some A) D.length k ∧ D.length ≤ k ∧ Fo_ W [] D (some A) D.length := by
  obtain ⟨A, c, rfl, hl, hC⟩ := Kd.R_reads h
  have hlen : (lvl0 D).length = D.length := by unfold lvl0; rw [List.length_map]
  rw [hlen] at hl hC hn ⊢
  cases A with
  | none => exact absurd rfl hn
  | some A =>
    refine ⟨A, c, rfl, hl, lvl0 D, hC, fun ad had => ?_, fun j hj => ⟨none, 0, ?_⟩⟩
    · obtain ⟨g, hg⟩ := Kd.R_head h
      cases had
      rw [hg]; rfl
    unfold ndP lvl0
    rw [List.getD_eq_getElem?_getD, List.getElem?_map, List.getD_eq_getElem?_getD, List.getElem?_eq_getElem hj]
    rfl
end Go.Proofs.YtlakjonnkggomaaW.PrintMore
