-- Written for this claim by a program (wip/hyb/hyb.py).
import Derived.Test.YtjelhemaohjkdaaVc0
import Derived.Test.YtjelhemaohjkdaaVc1
import Derived.Test.YtjelhemaohjkdaaVc2
namespace Go.Proofs.Ytjelhemaohjkdaa.Vc
open Go.RowKit Go.Proofs.YtjelhemaohjkdaaW.PrintWords Go.Proofs.YtjelhemaohjkdaaW.PrintLast Go.Proofs.YtjelhemaohjkdaaW.PrintMore
attribute [local go_sem] max2_int min2_int max_two min_two max_three min_three max_four min_four   -- for this text's walks alone
set_option linter.unusedVariables false
set_option linter.unusedSimpArgs false

/-! ### spec_CodeOf: function 29 -/
def tm38 : Tm → S38
  | .leaf c => ⟨if isDig c = true then 48 else 97, (c.toNat : Int), []⟩
  | .un c x => ⟨(c.toNat : Int), 0, [(tm38 x)]⟩
  | .bin c x y => ⟨(c.toNat : Int), 0, [(tm38 x), (tm38 y)]⟩
  | .loop c u x y => ⟨(c.toNat : Int), (u.toNat : Int), [(tm38 x), (tm38 y)]⟩
theorem ad_q (q n : Nat) : (⟨q, 0, none⟩ : Addr).add n = ⟨q, n, none⟩ := by (unfold Addr.add; split <;> simp_all)
theorem nd_C1 (w : World) (q : Nat) (x : S38) (cs : List Value) (hK : k38.K w x cs) (hc : ∀ i u, cs[i]? = some u → w.cell? ⟨q, i, none⟩ = some u) : Kd.C k38 w (some ⟨q, 0, none⟩) 1 [x] :=
  ⟨rfl, by omega, fun _ => ⟨⟨q, 0, none⟩, rfl, fun j p hp => by
    match j, hp with
    | 0, hp => simp at hp; subst hp; exact ⟨cs, k38.K_len hK, hK, fun i u hu => by rw [ad_q]; simpa using hc i u hu⟩
    | j + 1, hp => simp at hp⟩⟩
theorem nd_C2 (w : World) (q : Nat) (x y : S38) (cs ds : List Value) (hK : k38.K w x cs) (hL : k38.K w y ds) (hc : ∀ i u, cs[i]? = some u → w.cell? ⟨q, i, none⟩ = some u) (hd : ∀ i u, ds[i]? = some u → w.cell? ⟨q, 3 + i, none⟩ = some u) : Kd.C k38 w (some ⟨q, 0, none⟩) 2 [x, y] :=
  ⟨rfl, by omega, fun _ => ⟨⟨q, 0, none⟩, rfl, fun j p hp => by
    match j, hp with
    | 0, hp => simp at hp; subst hp; exact ⟨cs, k38.K_len hK, hK, fun i u hu => by rw [ad_q]; simpa using hc i u hu⟩
    | 1, hp => simp at hp; subst hp; exact ⟨ds, k38.K_len hL, hL, fun i u hu => by rw [ad_q]; exact (show w.cell? ⟨q, 1 * 3 + i, none⟩ = _ from by rw [Nat.one_mul]; exact hd i u hu)⟩
    | j + 2, hp => simp at hp⟩⟩
theorem nd_s38 {w : World} {lo : Nat} : ∀ (t : Tm) (v : Value), NdAt w lo v t → ∃ A k, v = ndV (tm38 t).f0 (tm38 t).f1 A (tm38 t).f2.length k ∧ (tm38 t).f2.length ≤ k ∧ Kd.C k38 w A (tm38 t).f2.length (tm38 t).f2 := by
  intro t
  induction t with
  | leaf c =>
    rintro v ⟨A, k, rfl⟩
    exact ⟨A, k, rfl, Nat.zero_le _, rfl, by show (0 : Nat) ≤ _; omega, fun h => by simp [tm38] at h⟩
  | un c x ih =>
    rintro v ⟨q, k, f0, f1, f2, h0, rfl, h2, h3, h4, h5, h6⟩
    obtain ⟨A, kx, e, l, hC⟩ := ih _ h6
    unfold ndV at e
    injection e with e; simp at e; obtain ⟨rfl, rfl, rfl⟩ := e
    refine ⟨some ⟨q, 0, none⟩, k, rfl, h2, nd_C1 w q (tm38 x) _ (k38_mk w (tm38 x) l hC) fun i u hu => ?_⟩
    match i, hu with
    | 0, hu => simp at hu; rw [h3, hu]
    | 1, hu => simp at hu; rw [h4, hu]
    | 2, hu => simp at hu; rw [h5, hu]
    | i + 3, hu => simp at hu
  | bin c x y ih1 ih2 =>
    rintro v ⟨q, k, f0, f1, f2, f3, f4, f5, h0, rfl, h2, h3, h4, h5, h6, h7, h8, h9, ha⟩
    obtain ⟨A, kx, e, l, hC⟩ := ih1 _ h9
    unfold ndV at e
    injection e with e; simp at e; obtain ⟨rfl, rfl, rfl⟩ := e
    obtain ⟨A', ky, e, l', hC'⟩ := ih2 _ ha
    unfold ndV at e
    injection e with e; simp at e; obtain ⟨rfl, rfl, rfl⟩ := e
    refine ⟨some ⟨q, 0, none⟩, k, rfl, h2, nd_C2 w q (tm38 x) (tm38 y) _ _ (k38_mk w (tm38 x) l hC) (k38_mk w (tm38 y) l' hC') (fun i u hu => ?_) (fun i u hu => ?_)⟩
    · match i, hu with
      | 0, hu => simp at hu; rw [h3, hu]
      | 1, hu => simp at hu; rw [h4, hu]
      | 2, hu => simp at hu; rw [h5, hu]
      | i + 3, hu => simp at hu
    · match i, hu with
      | 0, hu => simp at hu; rw [h6, hu]
      | 1, hu => simp at hu; rw [h7, hu]
      | 2, hu => simp at hu; rw [h8, hu]
      | i + 3, hu => simp at hu
  | loop c u' x y ih1 ih2 =>
    rintro v ⟨q, k, f0, f1, f2, f3, f4, f5, h0, rfl, h2, h3, h4, h5, h6, h7, h8, h9, ha⟩
    obtain ⟨A, kx, e, l, hC⟩ := ih1 _ h9
    unfold ndV at e
    injection e with e; simp at e; obtain ⟨rfl, rfl, rfl⟩ := e
    obtain ⟨A', ky, e, l', hC'⟩ := ih2 _ ha
    unfold ndV at e
    injection e with e; simp at e; obtain ⟨rfl, rfl, rfl⟩ := e
    refine ⟨some ⟨q, 0, none⟩, k, rfl, h2, nd_C2 w q (tm38 x) (tm38 y) _ _ (k38_mk w (tm38 x) l hC) (k38_mk w (tm38 y) l' hC') (fun i u hu => ?_) (fun i u hu => ?_)⟩
    · match i, hu with
      | 0, hu => simp at hu; rw [h3, hu]
      | 1, hu => simp at hu; rw [h4, hu]
      | 2, hu => simp at hu; rw [h5, hu]
      | i + 3, hu => simp at hu
    · match i, hu with
      | 0, hu => simp at hu; rw [h6, hu]
      | 1, hu => simp at hu; rw [h7, hu]
      | 2, hu => simp at hu; rw [h8, hu]
      | i + 3, hu => simp at hu
def spec_CodeOf.f (k : Nat) (a0 : ByteArray) : Option (ByteArray × Bool) := if a0.size ≤ 1048576 then (tmOf a0.data.toList).elim (some (⟨#[]⟩, false)) fun t => (spec_l7List.f k (tm38 t).f0 (tm38 t).f1 (tm38 t).f2).bind fun l => (spec_l7Text.f k l).bind fun s => some (s, true) else none
theorem spec_CodeOf.mono : ∀ a0 k, LeO (spec_CodeOf.f k a0) (spec_CodeOf.f (k + 1) a0) := by
  intro a0 k
  unfold spec_CodeOf.f
  refine LeO.ite ?_ (LeO.refl _)
  cases tmOf a0.data.toList with
  | none => exact LeO.refl _
  | some t => exact LeO.bind (spec_l7List.mono _ _ _ _) fun l => LeO.bind (spec_l7Text.mono _ _) fun _ => LeO.refl _
set_option maxHeartbeats 1000000 in
set_option maxRecDepth 100000 in
theorem spec_CodeOf.calls (k : Nat) (a0 : ByteArray) (r1 : ByteArray) (r2 : Bool) (w : World) (h : spec_CodeOf.f k a0 = some (r1, r2)) :
    Calls Try.prog 29 #[.string a0] w fun e w' => e = .returned (.tuple #[.string r1, .bool r2]) ∧ Below w.heap.size w w' := by
  unfold spec_CodeOf.f at h
  by_cases hs : a0.size ≤ 1048576
  case neg => rw [if_neg hs] at h; cases h
  rw [if_pos hs] at h
  have HH := Aside0.mk h
  clear h
  go_enter Try.func29, Try.ntmps29
  go_wp2_with fail
  refine (l5Read_walk a0 _ hs).mono ?_
  rintro e w1 ⟨a, c, A, m, k', rfl, hb, h1, h2⟩
  have HB := Aside0.mk hb
  have HND := Aside0.mk h1
  clear hb h1 h2
  unfold ndV
  cases ht : tmOf a0.data.toList with
  | none =>
    have h := HH.out
    rw [ht] at h
    simp only [Option.elim_none, Option.some.injEq, Prod.mk.injEq] at h
    obtain ⟨rfl, rfl⟩ := h
    have HT := Aside0.mk ht
    clear ht
    go_wp2
    refine bodyPost_ret (results_tmp2 rfl _ _ _) rfl ⟨rfl, by repeat (first | exact HB.out | apply below_alloc | apply below_drew1)⟩
  | some t =>
    have h := HH.out
    rw [ht] at h
    simp only [Option.elim_some] at h
    obtain ⟨l, hl, h⟩ := Option.bind_eq_some_iff.mp h
    obtain ⟨s, hs', h⟩ := Option.bind_eq_some_iff.mp h
    simp only [Option.some.injEq, Prod.mk.injEq] at h
    obtain ⟨rfl, rfl⟩ := h
    obtain ⟨A', kk, e, hle, hC⟩ := nd_s38 t _ (HND.out t ht)
    unfold ndV at e
    injection e with e; simp at e; obtain ⟨rfl, rfl, rfl, rfl, rfl⟩ := e
    have HC := Aside0.mk hC
    have HL := Aside0.mk hl
    have HS := Aside0.mk hs'
    have HLE := Aside0.mk hle
    have HT := Aside0.mk ht
    clear ht hC hl hs' hle
    go_wp2_with fail
    refine (spec_l7List.calls k _ _ A k' _ l _ (Kd.C_below HC.out (below_alloc (Below.refl _ _) _)) HLE.out HL.out).mono ?_
    rintro e w2 ⟨v0, rfl, hR, hb2⟩
    obtain ⟨Ar, cr, rfl, hle2, hCR⟩ := Kd.R_reads hR
    have HB2 := Aside0.mk ((below_alloc HB.out _).trans (hb2.mono (below_alloc HB.out _).size))
    have HCR := Aside0.mk hCR
    have HL2 := Aside0.mk hle2
    clear hR hb2 hle2 hCR
    go_wp2_with fail
    refine (spec_l7Text.calls k Ar cr l s _ HCR.out HL2.out HS.out).mono ?_
    rintro e w3 ⟨rfl, hd⟩
    have HB3 := Aside0.mk (show Below w.heap.size w w3 from HB2.out.trans (hd.below.mono HB2.out.size))
    clear hd
    go_wp2
    refine bodyPost_ret (results_tmp2 rfl _ _ _) rfl ⟨rfl, HB3.out⟩

/-! ### impl_CodeOf: function 30 -/
def impl_CodeOf.f (a0 : ByteArray) : Option (ByteArray × Bool) := some ((tmOf a0.data.toList).elim (⟨#[]⟩, false) fun t => (joinB t.cs ⟨#[32]⟩, true))
theorem impl_CodeOf.calls (a0 : ByteArray) (r1 : ByteArray) (r2 : Bool) (w : World) (h : impl_CodeOf.f a0 = some (r1, r2)) :
    Calls Try.prog 30 #[.string a0] w fun e w' => e = .returned (.tuple #[.string r1, .bool r2]) ∧ Below w.heap.size w w' := by
  have e := Option.some.inj h
  refine (impl_CodeOf_walk a0 w).mono fun e' w' hh => ⟨?_, hh.2⟩
  rw [hh.1]
  cases ht : tmOf a0.data.toList with
  | none => rw [ht] at e; simp only [Option.elim_none, Prod.mk.injEq] at e; obtain ⟨rfl, rfl⟩ := e; rfl
  | some t => rw [ht] at e; simp only [Option.elim_some, Prod.mk.injEq] at e; obtain ⟨rfl, rfl⟩ := e; rfl

end Go.Proofs.Ytjelhemaohjkdaa.Vc
