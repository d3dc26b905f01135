/-
  Cut to what this claim uses.
-/
import Derived.Test.YtpklhagedifglaaQLibFnDepth
import Derived.Test.YtpklhagedifglaaQVd3
import Derived.Test.YtpklhagedifglaaQVd4
namespace Go.Proofs.Ytpklhagedifglaa.Pure
open Go.RowKit Go.Proofs.Ytpklhagedifglaa.Vd Go.Proofs.YtpklhagedifglaaW.PrintWords Go.Proofs.YtpklhagedifglaaW.PrintLast Go.Proofs.YtpklhagedifglaaW.PrintMore
set_option linter.unusedVariables false
set_option linter.unusedSimpArgs false
theorem w64s {x : Int} (h0 : -1000 ≤ x) (h1 : x ≤ 1000) : wrap64 x = x := by unfold wrap64; omega
theorem sd1_rg (c : UInt8) (x : Int) (h : -1 ≤ x ∧ x ≤ 3) : -1 ≤ sd1 c x ∧ sd1 c x ≤ 3 := by
  unfold sd1
  repeat' split
  all_goals first | omega | (rw [w64s (by omega) (by omega)]; omega)
theorem sd1_nn {c : UInt8} {x : Int} (h : 0 ≤ sd1 c x) : 0 ≤ x := by
  unfold sd1 at h
  repeat' split at h
  all_goals omega
theorem sd2_rg (c : UInt8) (x y : Int) : -1 ≤ sd2 c x y ∧ sd2 c x y ≤ 3 := by
  unfold sd2
  repeat' split
  all_goals omega
theorem sd2_nn {c : UInt8} {x y : Int} (h : 0 ≤ sd2 c x y) : 0 ≤ x ∧ 0 ≤ y := by
  unfold sd2 at h
  repeat' split at h
  all_goals omega
theorem sdl_rg (c : UInt8) (s t : Int) (h : s ≤ 3) : -1 ≤ sdl c s t ∧ sdl c s t ≤ 3 := by
  unfold sdl
  repeat' split
  all_goals first | omega | (rw [w64s (by omega) (by omega)]; omega)
theorem sdl_nn {c : UInt8} {s t : Int} (h : 0 ≤ sdl c s t) : 1 ≤ s ∧ 0 ≤ t := by
  unfold sdl at h
  repeat' split at h
  all_goals omega
/-- Depths lie between -1 and 3. -/
theorem dp_rg : ∀ (t : Tm) (F : Dp), (∀ c, -1 ≤ F c ∧ F c ≤ 3) → -1 ≤ t.dp F ∧ t.dp F ≤ 3 := by
  intro t
  induction t with
  | leaf c => intro F h; rw [Tm.dp]; split; omega; exact h c
  | un c x ih => intro F h; rw [Tm.dp]; exact sd1_rg _ _ (ih F h)
  | bin c x y ih1 ih2 => intro F h; rw [Tm.dp]; exact sd2_rg _ _ _
  | loop c u x y ih1 ih2 => intro F h; rw [Tm.dp]; exact sdl_rg _ _ _ (ih1 F h).2
/-- What gives something has only variables that give something. -/
theorem dp_free : ∀ (t : Tm) (F : Dp), 0 ≤ t.dp F → ∀ d, 0 < t.fc d → 0 ≤ F d := by
  intro t
  induction t with
  | leaf c =>
    intro F h d hd
    rw [Tm.dp] at h
    rw [Tm.fc] at hd
    split at hd
    · rename_i hc
      rw [hc.1, if_neg (by simp)] at h
      rw [hc.2]; exact h
    · omega
  | un c x ih => intro F h d hd; rw [Tm.dp] at h; rw [Tm.fc] at hd; exact ih F (sd1_nn h) d hd
  | bin c x y ih1 ih2 =>
    intro F h d hd
    rw [Tm.dp] at h
    rw [Tm.fc] at hd
    by_cases c1 : 0 < x.fc d
    · exact ih1 F (sd2_nn h).1 d c1
    · exact ih2 F (sd2_nn h).2 d (by omega)
  | loop c u x y ih1 ih2 =>
    intro F h d hd
    rw [Tm.dp] at h
    rw [Tm.fc] at hd
    obtain ⟨h1, h2⟩ := sdl_nn h
    by_cases c1 : 0 < x.fc d
    · exact ih1 F (by omega) d c1
    · by_cases e : d = u
      · rw [if_pos e] at hd; omega
      · rw [if_neg e] at hd
        have := ih2 _ h2 d (by omega)
        unfold updD at this
        rw [if_neg e] at this
        exact this
theorem F0_rg (c : UInt8) : -1 ≤ F0 c ∧ F0 c ≤ 3 := by
  unfold F0 envF upd
  split
  · simp
  · split <;> simp
theorem F0_nn {c : UInt8} (h : 0 ≤ F0 c) : c = 97 ∨ c = 98 := by
  unfold F0 envF upd at h
  split at h
  · rename_i e; exact .inr e
  · split at h
    · rename_i e; exact .inl e
    · simp at h
theorem tl1' (c : UInt8) : (ch c).toList = [c] := by rw [Lib.toList_data] <;> rfl
theorem depth_l0 (s : ByteArray) (x : Int) (f : ByteArray) (hf : ∀ c ∈ f.data.toList, c = 97 ∨ c = 98) (hz : f.size ≤ 100) (R : Bool) (C : Nat)
    (ih : ∀ k, C < k → laws_FnDepth.l0 k s x f f.size (f.size : Int) = some R) : ∀ (q i k : Nat), q = f.size - i → i ≤ f.size → q + C < k → laws_FnDepth.l0 k s x f f.size i = some R := by
  intro q
  induction q with
  | zero =>
    intro i k hq hi hk
    obtain rfl : i = f.size := by omega
    exact ih k (by omega)
  | succ q ihq =>
    intro i k hq hi hk
    obtain ⟨k, rfl⟩ : ∃ j, k = j + 1 := ⟨k - 1, by omega⟩
    have hi' : i < f.size := by omega
    have hb : bt f (i : Int) = 97 ∨ bt f (i : Int) = 98 := by
      have e : bt f (i : Int) = ((f[i]'hi').toNat : Int) := (bt_at f (i : Int) (by simpa using hi')).symm
      have hm : f[i]'hi' ∈ f.data.toList := by
        show f.data[i]'hi' ∈ f.data.toList
        exact Array.mem_toList_iff.2 (Array.getElem_mem _)
      rcases hf _ hm with h | h <;> rw [e, h]
      · left; rfl
      · right; rfl
    have hw : wrap64 ((i : Int) + 1) = ((i + 1 : Nat) : Int) := by rw [w64s (by omega) (by omega)]; omega
    rw [laws_FnDepth.l0, if_pos (by omega), if_pos (by omega), if_pos (by omega), hw]
    have := ihq (i + 1) k (by omega) (by omega) (by omega)
    rcases hb with h | h
    · rw [if_pos h]; exact this
    · by_cases g : bt f (i : Int) = 97
      · rw [if_pos g]; exact this
      · rw [if_neg g, if_pos h]; exact this
theorem depth_law (k : Nat) (t : Tm) (s : ByteArray) (ht : tmOf s.data.toList = some t) (hd : 0 ≤ t.dp F0) (hk : 300 ≤ k) : laws_FnDepth.l0 k s (t.dp F0) ⟨t.fv.toArray⟩ ((⟨t.fv.toArray⟩ : ByteArray).size : Int) 0 = some true := by
  have h80 := (tmOf_tx ht).2
  have hsg := tmOf_sg ht
  have hre := tmOf_parts ht
  have h3 := (dp_rg t F0 F0_rg).2
  have hfv : ∀ c ∈ (⟨t.fv.toArray⟩ : ByteArray).data.toList, c = 97 ∨ c = 98 := by
    intro c hc
    have hc : c ∈ t.fv := by simpa using hc
    unfold Tm.fv at hc
    have h := (List.mem_filter.1 hc).2
    exact F0_nn (dp_free t F0 hd c (of_decide_eq_true h))
  have hl7 : (⟨t.fv.toArray⟩ : ByteArray).size ≤ 7 := by
    show t.fv.toArray.size ≤ 7
    rw [List.size_toArray]
    exact List.length_filter_le _ _
  refine depth_l0 s (t.dp F0) ⟨t.fv.toArray⟩ hfv (by omega) true 20 (fun k hk => ?_) _ 0 k rfl (by omega) (by omega)
  obtain ⟨k, rfl⟩ : ∃ j, k = j + 10 := ⟨k - 10, by omega⟩
  rw [laws_FnDepth.l0, if_neg (by omega)]
  simp only [impl_PartsOfTerm.f, impl_SignOf.f, ht, Option.bind_some, Option.elim]
  cases t with
  | leaf c =>
    rw [show (Tm.leaf c).ps = [] from rfl, if_neg (by simp), if_neg (by simp), laws_FnDepth.j2, if_neg (by simp), if_pos h3, if_pos (by simp)]
  | un c x =>
    have hx : x.tx.size ≤ 80 := by simp only [Tm.tx, ByteArray.size_append] at h80; omega
    have hxt := tmOf_re hre hx
    have hxd : 0 ≤ x.dp F0 := by rw [Tm.dp] at hd; exact sd1_nn hd
    rw [show (Tm.un c x).ps = [x.tx] from rfl, if_pos (by simp), laws_FnDepth.j2, if_pos rfl, laws_FnDepth.l1, if_pos (by simp), if_pos (by omega), if_pos (by simp)]
    rw [show rdOf ByteArray.empty [x.tx] 0 = x.tx from rfl]
    simp only [impl_DepthOfTerm.f, hxt, Option.bind_some, Option.elim]
    rw [if_neg (by omega), w64s (x := 0 + 1) (by omega) (by omega), laws_FnDepth.l1, if_neg (by simp), if_pos h3, if_neg (by simp), if_pos (by simp)]
    rw [show rdOf ByteArray.empty [x.tx] 0 = x.tx from rfl]
    simp only [impl_IsFunction.f, hxt, Option.bind_some, Option.elim]
    simp; omega
  | bin c x y =>
    have hx : x.tx.size ≤ 80 ∧ y.tx.size ≤ 80 := by simp only [Tm.tx, ByteArray.size_append] at h80; omega
    have hxt := tmOf_re hre.1 hx.1
    have hyt := tmOf_re hre.2 hx.2
    have hd2 : 0 ≤ x.dp F0 ∧ 0 ≤ y.dp F0 := by rw [Tm.dp] at hd; exact sd2_nn hd
    obtain ⟨n1, n2⟩ := sg_not c (.inr (.inr hsg))
    rw [show (Tm.bin c x y).ps = [x.tx, y.tx] from rfl, show (Tm.bin c x y).sg = c from rfl, if_neg (by simp), if_pos (by simp), tl1', if_neg (by simpa using n1), show ([c] != ([123] : List UInt8)) = true by simpa using n2,
      laws_FnDepth.j2, if_pos rfl, laws_FnDepth.l1, if_pos (by simp), if_pos (by omega), if_pos (by simp)]
    rw [show rdOf ByteArray.empty [x.tx, y.tx] 0 = x.tx from rfl]
    simp only [impl_DepthOfTerm.f, hxt, Option.bind_some, Option.elim]
    rw [if_neg (by omega), w64s (x := 0 + 1) (by omega) (by omega), laws_FnDepth.l1, if_pos (by simp), if_pos (by omega), if_pos (by simp)]
    rw [show rdOf ByteArray.empty [x.tx, y.tx] (0 + 1) = y.tx from rfl]
    simp only [impl_DepthOfTerm.f, hyt, Option.bind_some, Option.elim]
    rw [if_neg (by omega), w64s (x := 0 + 1 + 1) (by omega) (by omega), laws_FnDepth.l1, if_neg (by simp), if_pos h3, if_neg (by simp), if_pos (by simp)]
    rw [show rdOf ByteArray.empty [x.tx, y.tx] 0 = x.tx from rfl]
    simp only [impl_IsFunction.f, hxt, Option.bind_some, Option.elim]
    simp; omega
  | loop c u x y =>
    have hx : x.tx.size ≤ 80 := by simp only [Tm.tx, ByteArray.size_append] at h80; omega
    have hxt := tmOf_re hre.1 hx
    have hxd : 1 ≤ x.dp F0 := by rw [Tm.dp] at hd; exact (sdl_nn hd).1
    have fin : ∀ (b : Bool), b = false → laws_FnDepth.j2 (k + 9) ((Tm.loop c u x y).dp F0) [x.tx, y.tx] b = some true := by
      rintro b rfl
      rw [laws_FnDepth.j2, if_neg (by simp), if_pos h3, if_neg (by simp), if_pos (by simp)]
      rw [show rdOf ByteArray.empty [x.tx, y.tx] 0 = x.tx from rfl]
      simp only [impl_IsFunction.f, hxt, Option.bind_some, Option.elim]
      simp; omega
    rw [show (Tm.loop c u x y).ps = [x.tx, y.tx] from rfl, show (Tm.loop c u x y).sg = c from rfl, if_neg (by simp), if_pos (by simp), tl1']
    rcases hsg with h | h
    · rw [if_pos (by rw [h])]; exact fin false rfl
    · rw [if_neg (by rw [h]; decide)]; exact fin _ (by rw [h]; rfl)
theorem FnDepth : laws_FnDepth.Pure := by
  intro c hm _ hw
  by_cases h0 : c.length ≤ 1048576
  case neg => exact ⟨1, by unfold laws_FnDepth.f; rw [if_pos (by omega)]⟩
  obtain ⟨K, hK⟩ : ∃ K, 1000 ≤ K := ⟨1000, Nat.le_refl _⟩
  obtain ⟨s, es, hs⟩ := drawDepth_any (K + 10) c (by omega) (wf_u8 hw) h0
  refine ⟨K + 10, ?_⟩
  have hz : s.size ≤ 1048576 := by omega
  obtain ⟨D, hD⟩ : ∃ D : Int, D = (tmOf s.data.toList).elim (-1) fun t => t.dp F0 := ⟨_, rfl⟩
  have hD1 : -1 ≤ D := by
    rw [hD]
    cases tmOf s.data.toList with
    | none => simp
    | some t => exact (dp_rg t F0 F0_rg).1
  unfold laws_FnDepth.f impl_DepthOfTerm.f spec_DepthOfTerm.f impl_IsFunction.f spec_IsFunction.f
  rw [if_neg (by omega), es]
  simp only [Option.bind_some, if_pos hz, if_true, ← hD]
  have e1 : (decide (¬ D = -1) != decide (D ≥ 0)) = false := by
    by_cases h : D = -1
    · rw [h]; decide
    · have : 0 ≤ D := by omega
      simp [h, this]
  have e2 : (decide (¬ D = -1) != decide (0 ≤ D)) = false := e1
  rw [e1, if_neg (by simp), show K + 10 = (K + 9) + 1 from rfl, laws_FnDepth.j0, if_neg (by simp)]
  by_cases hn : D < 0
  · rw [if_pos hn, show D = -1 by omega]; rfl
  · rw [if_neg hn]
    cases ht : tmOf s.data.toList with
    | none => rw [ht] at hD; exact absurd hD (by simp; omega)
    | some t =>
      rw [ht] at hD
      simp only [impl_FreeVars.f, ht, Option.bind_some, Option.elim]
      have hD' : D = t.dp F0 := hD
      rw [hD']
      exact depth_law (K + 9) t s ht (by omega) (by omega)
end Go.Proofs.Ytpklhagedifglaa.Pure
