/-
  Cut to what this claim uses.
-/
import Derived.Test.YtpklhagedifglaaQTermJ
namespace Go.Proofs.YtpklhagedifglaaW.PrintMore
set_option linter.unusedVariables false
set_option linter.unusedSimpArgs false
open Go.Proofs Go.Deep
open Go.RowKit Go.Proofs.YtpklhagedifglaaW.PrintWords
set_option maxHeartbeats 8000000 in
set_option maxRecDepth 100000 in
theorem nd_none (w0 w : World) (b : Nat) (T : ByteArray) (n i : Nat) (c : UInt8) (hB : Below w0.heap.size w0 w) (hg : w0.heap.size ≤ b) (hr : RD w b T i false)
    (hnx : ∀ w, Below w0.heap.size w0 w → RD w b T i false → Calls Try.prog 62 #[.pointer (some ⟨b, 0, none⟩)] w fun e w' => e = .returned (.int .u8 (c.toNat : Int)) ∧ (∃ i' bad', RD w' b T i' bad') ∧ RK w0 w w' b)
    (hp : parse (n + 1) (T.data.toList.drop i) = none) (hd : isDig c = false) (hv : isVar c = false) (hu : isUn c = false) (h40 : ¬ c = 40) (h91 : ¬ c = 91) (h123 : ¬ c = 123) :
    Calls Try.prog 46 #[.pointer (some ⟨b, 0, none⟩)] w fun e w' => NDr (n + 1) T i false b w0 w e w' := by
  have HP := Aside0.mk hp
  have HU := Aside0.mk hu
  have ne : ∀ (d : UInt8) (k : Int), k = (d.toNat : Int) → ¬ c = d → ((c.toNat : Int) == k) = false := by
    intro d k hk h
    subst hk
    simp; intro e; apply h; apply UInt8.toNat_inj.1; exact_mod_cast e
  have hd1 : inR c 48 57 = false := (inR_dig c).trans hd
  have hv0 : ¬ c = 97 ∧ ¬ c = 98 ∧ inR c 118 122 = false := by
    rw [inR_bound]
    refine ⟨fun e => by subst e; exact absurd hv (by decide), fun e => by subst e; exact absurd hv (by decide), ?_⟩
    cases hb : isBound c with
    | false => rfl
    | true =>
      exfalso
      simp only [isBound, Bool.and_eq_true, decide_eq_true_eq, UInt8.le_iff_toNat_le] at hb
      have h1 : 118 ≤ c.toNat := by simpa using hb.1
      have h2 : c.toNat ≤ 122 := by simpa using hb.2
      have : c.toNat = 118 ∨ c.toNat = 119 ∨ c.toNat = 120 ∨ c.toNat = 121 ∨ c.toNat = 122 := by omega
      have key : ∀ k : UInt8, c.toNat = k.toNat → isVar k = true → False := fun k h1 h2 => by rw [UInt8.toNat_inj.1 h1] at hv; rw [hv] at h2; cases h2
      rcases this with h | h | h | h | h
      · exact key 118 h (by decide)
      · exact key 119 h (by decide)
      · exact key 120 h (by decide)
      · exact key 121 h (by decide)
      · exact key 122 h (by decide)
  have hv1 := ne 97 97 rfl hv0.1
  have hv2 := ne 98 98 rfl hv0.2.1
  have hv3 := hv0.2.2
  have hv4 := ne 40 40 rfl h40
  have hv5 := ne 91 91 rfl h91
  have hv6 := ne 123 123 rfl h123
  have HR := Aside0.mk hr
  have HB := Aside0.mk hB
  have HG := Aside0.mk hg
  have HNX := Aside0.mk hnx
  have HLT := Aside0.mk hr.lt
  have hcv := conv_u8 c
  clear hr hB hg hnx hp hd hv hu h40 h91 h123 ne hv0
  go_enter Try.func46, Try.ntmps46
  go_wp2_with fail
  refine (HNX.out _ (HB.out.alloc HB.out.size _) (HR.out.alloc _)).mono ?_
  rintro e w1 ⟨rfl, ⟨i', bad', hr1⟩, hk1⟩
  have hL : LB w1 w.heap.size 0 0 none 0 0 := (LB.new w 0 0 none 0 0).keep hk1.2 (by have := HLT.out; omega)
  have HR1 := Aside0.mk hr1
  have HK1 := Aside0.mk (show RK w0 w w1 b from ((RK.refl HB.out).alloc _).trans hk1)
  have hL5 : LB (w1.setCell ⟨b, 2, none⟩ (.bool true)) w.heap.size 0 0 none 0 0 := blk_far hL (by show _ ≠ b; have := HLT.out; omega) _
  have HL5 := Aside0.mk hL5
  have b2 : w1.cell? ⟨b, 2, none⟩ = some (.bool bad') := blk_cell hr1.1 2
  have b3 : w1.frozen? ⟨b, 2, none⟩ = false := blk_frozen hr1.1 2
  have L0 : (w1.setCell ⟨b, 2, none⟩ (.bool true)).cell? ⟨w.heap.size, 0, none⟩ = some (.int .u8 0) := blk_cell hL5 0
  have L1 : (w1.setCell ⟨b, 2, none⟩ (.bool true)).cell? ⟨w.heap.size, 1, none⟩ = some (.int .u8 0) := blk_cell hL5 1
  have L2 : (w1.setCell ⟨b, 2, none⟩ (.bool true)).cell? ⟨w.heap.size, 2, none⟩ = some (.slice none 0 0) := blk_cell hL5 2
  have F0 : (w1.setCell ⟨b, 2, none⟩ (.bool true)).frozen? ⟨w.heap.size, 0, none⟩ = false := blk_frozen hL5 0
  have F1 : (w1.setCell ⟨b, 2, none⟩ (.bool true)).frozen? ⟨w.heap.size, 1, none⟩ = false := blk_frozen hL5 1
  have F2 : (w1.setCell ⟨b, 2, none⟩ (.bool true)).frozen? ⟨w.heap.size, 2, none⟩ = false := blk_frozen hL5 2
  clear hL hL5 hr1 hk1
  go_wp2_with (first | (go_at_call 63; refine (l1In_c _ _ _ _).mono ?_; rintro e wz ⟨rfl, hw⟩; rw [hw]; clear hw wz) | (go_at_call 64; refine (l13Find_un c false HU.out _).mono ?_; rintro e wz ⟨⟨y, rfl, hy⟩, hw⟩; rw [hw]; clear hw wz))
  refine bodyPost_ret (results_single rfl (.cell w.heap.size 45 _ (0, 0) _ rfl (LB.put HL5.out 0 0 none 0 0) Try.underlying45 rfl node_info .nil)) rfl ?_
  exact nd_ret HB.out.size HLT.out ⟨below_set HK1.out.1 HG.out, HK1.out.2.set_ _ _⟩ (HR1.out.set2 true) 0 0 none 0 0 fun W' hW => .inl ⟨rfl, .inr HP.out⟩
theorem node_walk : ∀ n, NIH n := by
  have nil : ∀ (n : Nat) (w0 w : World) (b : Nat) (T : ByteArray) (i : Nat), T.data.toList.drop i = [] → T.data.toList.length ≤ 1048576 → Below w0.heap.size w0 w → w0.heap.size ≤ b → RD w b T i false →
      Calls Try.prog 46 #[.pointer (some ⟨b, 0, none⟩)] w fun e w' => NDr (n + 1) T i false b w0 w e w' := by
    intro n w0 w b T i hd hT hB hg hr
    refine nd_none w0 w b T n i 0 hB hg hr ?_ (by rw [hd]; rfl) (by decide) (by decide) (by decide) (by decide) (by decide) (by decide)
    intro w hB hr
    refine (nx_end w0 w b T i false hB hg hr (by rw [size_list]; exact List.drop_eq_nil_iff.1 hd)).mono ?_
    rintro e w' ⟨h1, h2, h3⟩
    exact ⟨h1, ⟨_, _, h2⟩, h3⟩
  intro n
  induction n with
  | zero =>
    intro w0 w b T i hn hT hB hg hr
    have hd : T.data.toList.drop i = [] := List.length_eq_zero_iff.1 (by omega)
    refine (nil 0 w0 w b T i hd hT hB hg hr).mono ?_
    rintro e w' ⟨a, c, A, m, k, i', bad', h1, h2, h3, h4⟩
    refine ⟨a, c, A, m, k, i', bad', h1, h2, h3, ?_⟩
    rcases h4 with ⟨h4, _⟩ | ⟨_, _, t, h5, _⟩
    · exact .inl ⟨h4, .inr rfl⟩
    · rw [hd] at h5; cases h5
  | succ n ih =>
    intro w0 w b T i hn hT hB hg hr
    cases hl : T.data.toList.drop i with
    | nil => exact nil n w0 w b T i hl hT hB hg hr
    | cons c r =>
      rw [hl] at hn
      have hn : r.length ≤ n := by simpa using hn
      cases hd : isDig c with
      | true => exact nd_dig w0 w b T n i c r hl hT hB hg hr hd
      | false =>
        cases hv : isVar c with
        | true => exact nd_var w0 w b T n i c r hl hT hB hg hr hd hv
        | false =>
          cases hu : isUn c with
          | true => exact nd_un w0 w b T n i c r hl hT hB hg hr hd hv hu hn ih
          | false =>
            by_cases h40 : c = 40
            · exact nd_bin w0 w b T n i c r hl hT hB hg hr h40 hn ih
            by_cases h91 : c = 91
            · exact nd_loop91 w0 w b T n i c r hl hT hB hg hr h91 hn ih
            by_cases h123 : c = 123
            · exact nd_loop123 w0 w b T n i c r hl hT hB hg hr h123 hn ih
            refine nd_none w0 w b T n i c hB hg hr ?_ (by rw [hl]; simp [parse, hd, hv, hu, h40, h91, h123]) hd hv hu h40 h91 h123
            intro w hB hr
            refine (nx_more w0 w b T i false c r hB hg hr hl hT).mono ?_
            rintro e w' ⟨h1, h2, h3⟩
            exact ⟨h1, ⟨_, _, h2⟩, h3⟩
/-- What l5Read answers. -/
def LR (l : List UInt8) (w : World) (e : Ending) (w' : World) : Prop :=
  ∃ a c A m k, e = .returned (.tuple #[ndV a c A m k, .bool (tmOf l).isSome]) ∧ Below w.heap.size w w' ∧ (∀ t, tmOf l = some t → NdAt w' w.heap.size (ndV a c A m k) t) ∧ (tmOf l = none → ndV a c A m k = ndV 0 0 none 0 0)
set_option maxHeartbeats 8000000 in
set_option maxRecDepth 100000 in
theorem l5Read_walk (s : ByteArray) (w : World) (hs : s.size ≤ 1048576) : Calls Try.prog 23 #[.string s] w fun e w' => LR s.data.toList w e w' := by
  have HS := Aside0.mk (show s.data.toList.length ≤ 1048576 from by rw [← size_list]; exact hs)
  clear hs
  obtain ⟨W1, hW1⟩ : ∃ W1, W1 = (w.alloc (.cells #[.int .u8 0, .int .u8 0, .slice none 0 0] 45)).alloc (.cells #[.string s, .int .i64 0, .bool false] 79) := ⟨_, rfl⟩
  have hz : (w.alloc (.cells #[.int .u8 0, .int .u8 0, .slice none 0 0] 45)).heap.size = w.heap.size + 1 := by simp
  have HB1 := Aside0.mk (show Below w.heap.size w W1 from by rw [hW1]; exact ((Below.refl _ w).alloc (Nat.le_refl _) _).alloc (by simp) _)
  have HR1 := Aside0.mk (show RD W1 (w.heap.size + 1) s 0 false from by rw [hW1, ← hz]; exact ⟨blk_new _ _, Nat.zero_le _⟩)
  have HV1 := Aside0.mk (show LB W1 w.heap.size 0 0 none 0 0 from by rw [hW1]; exact (LB.new w 0 0 none 0 0).alloc _)
  have HZ := Aside0.mk (show W1.heap.size = w.heap.size + 2 from by rw [hW1]; simp)
  have HW := Aside0.mk hW1
  clear hz hW1
  go_enter Try.func23, Try.ntmps23
  go_wp2_with fail
  rw [← HW.out]
  refine (node_walk s.data.toList.length w W1 (w.heap.size + 1) s 0 (by simp) HS.out HB1.out (Nat.le_succ _) HR1.out).mono ?_
  rintro e w2 ⟨a, c, A, m, k, i', bad', rfl, hr2, hk2, hp2⟩
  have hL := HV1.out.keep hk2.2 (by omega)
  have HV2 := Aside0.mk hL
  have HK2 := Aside0.mk hk2.1
  have HLE := Aside0.mk hr2.2
  have HGZ := Aside0.mk (show w.heap.size + 1 < w2.heap.size from hr2.lt)
  have HP2 : Aside0 ((bad' = true ∧ tmOf s.data.toList = none) ∨ (bad' = false ∧ ∃ t, parse s.data.toList.length s.data.toList = some (t, s.data.toList.drop i') ∧ NdAt w2 W1.heap.size (ndV a c A m k) t)) := ⟨by
    unfold PT at hp2
    rw [List.drop_zero] at hp2
    rcases hp2 with ⟨h1, h2 | h2⟩ | ⟨h1, _, t, h2, h3⟩
    · cases h2
    · refine .inl ⟨h1, ?_⟩
      unfold tmOf; rw [h2]; split <;> rfl
    · exact .inr ⟨h1, t, h2, h3⟩⟩
  have cB : ∀ o, (w2.alloc o).cell? ⟨w.heap.size + 1, 2, none⟩ = some (.bool bad') := fun o => blk_cell (blk_alloc hr2.1 o) 2
  have cA : ∀ o, (w2.alloc o).cell? ⟨w.heap.size + 1, 1, none⟩ = some (.int .i64 (i' : Int)) := fun o => blk_cell (blk_alloc hr2.1 o) 1
  have L0 : ∀ o, (w2.alloc o).cell? ⟨w.heap.size, 0, none⟩ = some (.int .u8 0) := fun o => blk_cell (blk_alloc hL o) 0
  have L1 : ∀ o, (w2.alloc o).cell? ⟨w.heap.size, 1, none⟩ = some (.int .u8 0) := fun o => blk_cell (blk_alloc hL o) 1
  have L2 : ∀ o, (w2.alloc o).cell? ⟨w.heap.size, 2, none⟩ = some (.slice none 0 0) := fun o => blk_cell (blk_alloc hL o) 2
  have F0 : ∀ o, (w2.alloc o).frozen? ⟨w.heap.size, 0, none⟩ = false := fun o => blk_frozen (blk_alloc hL o) 0
  have F1 : ∀ o, (w2.alloc o).frozen? ⟨w.heap.size, 1, none⟩ = false := fun o => blk_frozen (blk_alloc hL o) 1
  have F2 : ∀ o, (w2.alloc o).frozen? ⟨w.heap.size, 2, none⟩ = false := fun o => blk_frozen (blk_alloc hL o) 2
  have HX := Aside0.mk (size_list s)
  clear hL hr2 hk2 hp2
  have bad : ∀ {W : World}, LB W w.heap.size 0 0 none 0 0 → Below w.heap.size w W → tmOf s.data.toList = none → LR s.data.toList w (.returned (.tuple #[ndV 0 0 none 0 0, .bool false])) (((W.setCell ⟨w.heap.size, 0, none⟩ (.int .u8 0)).setCell ⟨w.heap.size, 1, none⟩ (.int .u8 0)).setCell ⟨w.heap.size, 2, none⟩ (.slice none 0 0)) := by
    intro W hL hB ht
    refine ⟨0, 0, none, 0, 0, by rw [ht]; rfl, below_set (below_set (below_set hB (Nat.le_refl _)) (Nat.le_refl _)) (Nat.le_refl _), fun t h => (by rw [ht] at h; cases h), fun _ => rfl⟩
  have BAD := Aside0.mk @bad
  clear bad
  unfold ndV
  cases bad' with
  | true =>
    have HT : Aside0 (tmOf s.data.toList = none) := ⟨by rcases HP2.out with ⟨_, h⟩ | ⟨h, _⟩; exact h; cases h⟩
    go_wp2
    refine bodyPost_ret (results_list (rs := [.cell 2 45, .tmp 3]) rfl (by simp) (.cell w.heap.size 45 _ (0, 0) _ rfl (LB.put (HV2.out.alloc _) 0 0 none 0 0) Try.underlying45 rfl node_info (.tmp .nil))) rfl ?_
    exact BAD.out (HV2.out.alloc _) (HK2.out.alloc HK2.out.size _) HT.out
  | false =>
    have HT : Aside0 (∃ t, parse s.data.toList.length s.data.toList = some (t, s.data.toList.drop i') ∧ NdAt w2 W1.heap.size (ndV a c A m k) t) := ⟨by rcases HP2.out with ⟨h, _⟩ | ⟨_, h⟩; cases h; exact h⟩
    clear HP2
    by_cases h1 : i' = s.size
    case neg =>
      have HN : Aside0 (tmOf s.data.toList = none) := ⟨by
        obtain ⟨t, h2, _⟩ := HT.out
        unfold tmOf; rw [h2]
        cases hd : s.data.toList.drop i' with
        | nil => exfalso; have := List.drop_eq_nil_iff.1 hd; have := HLE.out; have := HX.out; omega
        | cons d u => split <;> rfl⟩
      have h2 : ((i' : Int) != (s.size : Int)) = true := by simp; omega
      clear h1
      go_wp2
      refine bodyPost_ret (results_list (rs := [.cell 2 45, .tmp 3]) rfl (by simp) (.cell w.heap.size 45 _ (0, 0) _ rfl (LB.put (HV2.out.alloc _) 0 0 none 0 0) Try.underlying45 rfl node_info (.tmp .nil))) rfl ?_
      exact BAD.out (HV2.out.alloc _) (HK2.out.alloc HK2.out.size _) HN.out
    have h2 : ((i' : Int) != (s.size : Int)) = false := by simp; omega
    have HI := Aside0.mk h1
    clear h1
    by_cases h3 : s.size ≤ 80
    case neg =>
      have h4 : (80 : Int) < (s.size : Int) := by omega
      have HN : Aside0 (tmOf s.data.toList = none) := ⟨by unfold tmOf; rw [if_neg (by rw [← HX.out]; exact h3)]⟩
      clear h3
      go_wp2
      refine bodyPost_ret (results_list (rs := [.cell 2 45, .tmp 3]) rfl (by simp) (.cell w.heap.size 45 _ (0, 0) _ rfl (LB.put (HV2.out.alloc _) 0 0 none 0 0) Try.underlying45 rfl node_info (.tmp .nil))) rfl ?_
      exact BAD.out (HV2.out.alloc _) (HK2.out.alloc HK2.out.size _) HN.out
    have h4 : (s.size : Int) ≤ 80 := by omega
    have HN : Aside0 (∃ t, tmOf s.data.toList = some t ∧ NdAt w2 W1.heap.size (ndV a c A m k) t) := ⟨by
      obtain ⟨t, h5, h6⟩ := HT.out
      refine ⟨t, ?_, h6⟩
      unfold tmOf; rw [if_pos (by rw [← HX.out]; exact h3), h5, List.drop_eq_nil_of_le (by have := HI.out; have := HX.out; omega)]⟩
    clear h3
    go_wp2
    refine bodyPost_ret (results_list (rs := [.cell 2 45, .tmp 3]) rfl (by simp) (.cell w.heap.size 45 _ (0, 0) _ rfl (LB.put (HV2.out.alloc _) a c A m k) Try.underlying45 rfl node_info (.tmp .nil))) rfl ?_
    obtain ⟨t, h5, h6⟩ := HN.out
    have hlt : w.heap.size < W1.heap.size := by have := HZ.out; omega
    refine ⟨a, c, A, m, k, by rw [h5]; rfl, below_set (below_set (below_set (HK2.out.alloc HK2.out.size _) (Nat.le_refl _)) (Nat.le_refl _)) (Nat.le_refl _), fun t' h => ?_, fun h => (by rw [h5] at h; cases h)⟩
    rw [h5] at h; cases h
    exact nd_lo (Nat.le_of_lt hlt) _ _ (nd_set hlt (nd_set hlt (nd_set hlt (nd_alloc _ h6))))
end Go.Proofs.YtpklhagedifglaaW.PrintMore
