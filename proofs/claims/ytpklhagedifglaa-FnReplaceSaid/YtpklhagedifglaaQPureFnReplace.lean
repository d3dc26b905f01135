/-
  Cut to what this claim uses.
-/
import Derived.Test.YtpklhagedifglaaQLibFnReplace
import Derived.Test.YtpklhagedifglaaQVq1
import Derived.Test.YtpklhagedifglaaQVq3
import Derived.Test.YtpklhagedifglaaQVq4
namespace Go.Proofs.Ytpklhagedifglaa.Pure
open Go.RowKit Go.Proofs.Ytpklhagedifglaa.Vq Go.Proofs.YtpklhagedifglaaW.PrintWords Go.Proofs.YtpklhagedifglaaW.PrintLast Go.Proofs.YtpklhagedifglaaW.PrintMore
set_option linter.unusedVariables false
set_option linter.unusedSimpArgs false
theorem rw64 (i : Nat) (h : i ≤ 1000) : wrap64 ((i : Int) + 1) = ((i + 1 : Nat) : Int) := by unfold wrap64; omega
theorem ba_inj' {a b : ByteArray} (h : a.data.toList = b.data.toList) : a = b := by
  cases a; cases b; simp only [ByteArray.mk.injEq]; exact Array.toList_inj.1 h
/-- One byte of a text. -/
theorem one_at (l : List UInt8) (i : Nat) (h : i < l.length) : (((⟨l.toArray⟩ : ByteArray).extract (i : Int).toNat ((i + 1 : Nat) : Int).toNat)) = ch l[i] := by
  apply ba_inj'
  rw [Int.toNat_natCast, Int.toNat_natCast]
  simp [ByteArray.data_extract]
  rw [List.take_add_one]
  simp [List.getElem?_eq_getElem h]
theorem tl1r (c : UInt8) : (ch c).toList = [c] := by rw [Lib.toList_data] <;> rfl
theorem mem_take_succ (l : List UInt8) (i : Nat) (h : i < l.length) (z : UInt8) : z ∈ l.take (i + 1) ↔ z ∈ l.take i ∨ l[i] = z := by
  rw [List.take_add_one, List.getElem?_eq_getElem h, List.mem_append]
  simp [eq_comm]
section
variable (t s u : ByteArray) (z : UInt8) (la lb li : List UInt8)
abbrev tB (l : List UInt8) : ByteArray := ⟨l.toArray⟩
theorem tB_size (l : List UInt8) : (tB l).size = l.length := by simp [tB, ByteArray.size]
theorem rep_l0 (hl : la.length ≤ 100) (R : Bool) (C : Nat) (ih : ∀ k, C < k → laws_FnReplace.l0 k t (ch z) u s (tB la) (tB lb) (tB li) (decide (z ∈ la)) (la.length : Int) (la.length : Int) = some R) :
    ∀ (q i k : Nat), q = la.length - i → i ≤ la.length → q + C < k → laws_FnReplace.l0 k t (ch z) u s (tB la) (tB lb) (tB li) (decide (z ∈ la.take i)) (la.length : Int) i = some R := by
  intro q
  induction q with
  | zero =>
    intro i k hq hi hk
    obtain rfl : i = la.length := by omega
    rw [List.take_of_length_le (Nat.le_refl _)]
    exact ih k (by omega)
  | succ q ihq =>
    intro i k hq hi hk
    obtain ⟨k, rfl⟩ : ∃ j, k = j + 1 := ⟨k - 1, by omega⟩
    have hi' : i < la.length := by omega
    have hn := ihq (i + 1) k (by omega) (by omega) (by omega)
    rw [laws_FnReplace.l0, if_pos (by omega), rw64 i (by omega)]
    by_cases hz : z ∈ la.take i
    · rw [if_pos (decide_eq_true hz)]
      rw [decide_eq_true ((mem_take_succ la i hi' z).2 (.inl hz))] at hn
      exact hn
    · rw [if_neg (by rw [decide_eq_false hz]; simp), if_pos (by omega), if_pos (by omega), if_pos (by rw [tB_size]; omega), one_at la i hi', tl1r, tl1r]
      have e : ([la[i]] == [z]) = decide (z ∈ la.take (i + 1)) := by
        rw [show decide (z ∈ la.take (i + 1)) = decide (la[i] = z) from decide_eq_decide.2 (by rw [mem_take_succ la i hi' z]; simp [hz])]
        by_cases g : la[i] = z <;> simp [g]
      rw [e]; exact hn
theorem rep_l3 (c : UInt8) (j : Nat) (hl : la.length ≤ 100) (C : Nat) (hc : c ∈ li ∨ (c ∈ la ∧ c ≠ z)) (ih : ∀ k, C < k → laws_FnReplace.l1 k t (ch z) u s (tB la) (tB lb) (tB li) (lb.length : Int) ((j + 1 : Nat) : Int) = some true) (hj : j ≤ 100) :
    ∀ (q i k : Nat), q = la.length - i → i ≤ la.length → q + C + 1 < k → laws_FnReplace.l3 k t (ch z) u s (tB la) (tB lb) (tB li) (ch c) (decide (c ∈ li ∨ (c ∈ la.take i ∧ c ≠ z))) (lb.length : Int) j (la.length : Int) i = some true := by
  intro q
  induction q with
  | zero =>
    intro i k hq hi hk
    obtain rfl : i = la.length := by omega
    obtain ⟨k, rfl⟩ : ∃ j, k = j + 1 := ⟨k - 1, by omega⟩
    rw [List.take_of_length_le (Nat.le_refl _), laws_FnReplace.l3, if_neg (by omega), if_pos (decide_eq_true hc), rw64 j (by omega)]
    exact ih k (by omega)
  | succ q ihq =>
    intro i k hq hi hk
    obtain ⟨k, rfl⟩ : ∃ j, k = j + 1 := ⟨k - 1, by omega⟩
    have hi' : i < la.length := by omega
    have hn := ihq (i + 1) k (by omega) (by omega) (by omega)
    rw [laws_FnReplace.l3, if_pos (by omega), rw64 i (by omega)]
    by_cases hz : c ∈ li ∨ (c ∈ la.take i ∧ c ≠ z)
    · rw [if_pos (decide_eq_true hz)]
      rw [decide_eq_true (show c ∈ li ∨ (c ∈ la.take (i + 1) ∧ c ≠ z) from hz.imp id fun h => ⟨(mem_take_succ la i hi' c).2 (.inl h.1), h.2⟩)] at hn
      exact hn
    · have n1 : c ∉ li := fun h => hz (.inl h)
      have n2 : ¬ (c ∈ la.take i ∧ c ≠ z) := fun h => hz (.inr h)
      rw [if_neg (by rw [decide_eq_false hz]; simp), if_pos (by omega), if_pos (by omega), if_pos (by rw [tB_size]; omega), one_at la i hi', tl1r, tl1r, tl1r]
      by_cases g : la[i] = c
      · rw [if_pos (by rw [g])]
        have e : ([c] != [z]) = decide (c ∈ li ∨ (c ∈ la.take (i + 1) ∧ c ≠ z)) := by
          by_cases h : c = z
          · rw [decide_eq_false (fun h2 => h2.elim n1 (fun h3 => h3.2 h))]; simp [h]
          · rw [decide_eq_true (show c ∈ li ∨ (c ∈ la.take (i + 1) ∧ c ≠ z) from .inr ⟨(mem_take_succ la i hi' c).2 (.inr g), h⟩)]; simp [h]
        rw [e]; exact hn
      · rw [if_neg (by simpa using g)]
        rw [decide_eq_false (show ¬ (c ∈ li ∨ (c ∈ la.take (i + 1) ∧ c ≠ z)) from fun h => h.elim n1 fun h3 => ((mem_take_succ la i hi' c).1 h3.1).elim (fun h4 => n2 ⟨h4, h3.2⟩) g)] at hn
        exact hn
theorem rep_l2 (c : UInt8) (j : Nat) (hl : la.length ≤ 100) (hli : li.length ≤ 100) (C : Nat) (hc : c ∈ li ∨ (c ∈ la ∧ c ≠ z)) (ih : ∀ k, C < k → laws_FnReplace.l1 k t (ch z) u s (tB la) (tB lb) (tB li) (lb.length : Int) ((j + 1 : Nat) : Int) = some true) (hj : j ≤ 100) :
    ∀ (q i k : Nat), q = li.length - i → i ≤ li.length → q + 200 + C < k → laws_FnReplace.l2 k t (ch z) u s (tB la) (tB lb) (tB li) (ch c) (decide (c ∈ li.take i)) (lb.length : Int) j (li.length : Int) i = some true := by
  intro q
  induction q with
  | zero =>
    intro i k hq hi hk
    obtain rfl : i = li.length := by omega
    obtain ⟨k, rfl⟩ : ∃ j, k = j + 1 := ⟨k - 1, by omega⟩
    rw [List.take_of_length_le (Nat.le_refl _), laws_FnReplace.l2, if_neg (by omega), tB_size]
    have := rep_l3 t s u z la lb li c j hl C hc ih hj la.length 0 k (by omega) (by omega) (by omega)
    simpa using this
  | succ q ihq =>
    intro i k hq hi hk
    obtain ⟨k, rfl⟩ : ∃ j, k = j + 1 := ⟨k - 1, by omega⟩
    have hi' : i < li.length := by omega
    have hn := ihq (i + 1) k (by omega) (by omega) (by omega)
    rw [laws_FnReplace.l2, if_pos (by omega), rw64 i (by omega)]
    by_cases hz : c ∈ li.take i
    · rw [if_pos (decide_eq_true hz)]
      rw [decide_eq_true ((mem_take_succ li i hi' c).2 (.inl hz))] at hn
      exact hn
    · rw [if_neg (by rw [decide_eq_false hz]; simp), if_pos (by omega), if_pos (by omega), if_pos (by rw [tB_size]; omega), one_at li i hi', tl1r, tl1r]
      have e : ([li[i]] == [c]) = decide (c ∈ li.take (i + 1)) := by
        rw [show decide (c ∈ li.take (i + 1)) = decide (li[i] = c) from decide_eq_decide.2 (by rw [mem_take_succ li i hi' c]; simp [hz])]
        by_cases g : li[i] = c <;> simp [g]
      rw [e]; exact hn
theorem rep_l1 (hl : la.length ≤ 100) (hli : li.length ≤ 100) (hlb : lb.length ≤ 100) (hall : ∀ c ∈ lb, c ∈ li ∨ (c ∈ la ∧ c ≠ z)) (C : Nat) (ih : ∀ k, C < k → laws_FnReplace.l1 k t (ch z) u s (tB la) (tB lb) (tB li) (lb.length : Int) (lb.length : Int) = some true) :
    ∀ (q j k : Nat), q = lb.length - j → j ≤ lb.length → q * 400 + C < k → laws_FnReplace.l1 k t (ch z) u s (tB la) (tB lb) (tB li) (lb.length : Int) j = some true := by
  intro q
  induction q with
  | zero =>
    intro j k hq hj hk
    obtain rfl : j = lb.length := by omega
    exact ih k (by omega)
  | succ q ihq =>
    intro j k hq hj hk
    obtain ⟨k, rfl⟩ : ∃ j, k = j + 1 := ⟨k - 1, by omega⟩
    have hj' : j < lb.length := by omega
    rw [laws_FnReplace.l1, if_pos (by omega), rw64 j (by omega), if_pos (by omega), if_pos (by omega), if_pos (by rw [tB_size]; omega), one_at lb j hj', tB_size]
    have := rep_l2 t s u z la lb li lb[j] j hl hli (q * 400 + C) (hall _ (List.getElem_mem _)) (fun k hk => ihq (j + 1) k (by omega) (by omega) hk) (by omega) li.length 0 k (by omega) (by omega) (by omega)
    simpa using this
end
theorem varIn_ch {v : ByteArray} {z : UInt8} (h : varIn v = some z) : v = ch z ∧ Go.Proofs.YtpklhagedifglaaW.PrintMore.isVar z = true := by
  unfold varIn at h
  split at h
  · rename_i c hc
    split at h
    · rename_i hv
      cases h
      exact ⟨ba_inj' hc, hv⟩
    · cases h
  · cases h
theorem var_dig {z : UInt8} (h : Go.Proofs.YtpklhagedifglaaW.PrintMore.isVar z = true) : isDig z = false := by
  have : z = 97 ∨ z = 98 ∨ z = 118 ∨ z = 119 ∨ z = 120 ∨ z = 121 ∨ z = 122 := by simpa [Go.Proofs.YtpklhagedifglaaW.PrintMore.isVar] using h
  rcases this with rfl | rfl | rfl | rfl | rfl | rfl | rfl <;> decide
theorem fv_iff (t : Tm) (c : UInt8) : c ∈ t.fv ↔ Go.Proofs.YtpklhagedifglaaW.PrintMore.isVar c = true ∧ 0 < t.fc c := by
  unfold Tm.fv
  rw [List.mem_filter]
  unfold Go.Proofs.YtpklhagedifglaaW.PrintMore.isVar
  rw [List.contains_iff_mem]
  simp
theorem fv_le7 (t : Tm) : t.fv.length ≤ 100 := by
  have : t.fv.length ≤ 7 := List.length_filter_le _ _
  omega
theorem F0_a : F0 97 = 1 := by unfold F0 envF upd; simp
theorem rep_main (k : Nat) (tt vv uu : ByteArray) (n x r : Tm) (z : UInt8) (ht : tmOf tt.data.toList = some n) (hu : tmOf uu.data.toList = some x) (hv : varIn vv = some z) (hp : n.pt z x = some r) (hr : r.tx.size ≤ 80) (hk : 100000 ≤ k) :
    laws_FnReplace.l0 k tt vv uu r.tx ⟨n.fv.toArray⟩ ⟨r.fv.toArray⟩ ⟨x.fv.toArray⟩ false ((⟨n.fv.toArray⟩ : ByteArray).size : Int) 0 = some true := by
  obtain ⟨etx, h80⟩ := tmOf_tx ht
  obtain rfl : tt = n.tx := ba_inj' etx
  obtain ⟨rfl, hvar⟩ := varIn_ch hv
  have hnk := tmOf_ok ht
  have hxk := tmOf_ok hu
  have hrk : r.ok := pt_ok z x hxk n r hnk hp
  have hrt := tmOf_ok' hrk hr
  have h1 := rep_l0 n.tx r.tx uu z n.fv r.fv x.fv (fv_le7 n) true 50000 (fun k hk => ?_) n.fv.length 0 k (by omega) (by omega) (by have := fv_le7 n; omega)
  · rw [show ((⟨n.fv.toArray⟩ : ByteArray).size : Int) = (n.fv.length : Int) from by rw [tB_size n.fv]]
    simpa using h1
  · obtain ⟨k, rfl⟩ : ∃ j, k = j + 1 := ⟨k - 1, by omega⟩
    rw [laws_FnReplace.l0, if_neg (by omega)]
    by_cases hz : z ∈ n.fv
    · rw [if_pos (decide_eq_true hz), tB_size r.fv]
      refine rep_l1 n.tx r.tx uu z n.fv r.fv x.fv (fv_le7 n) (fv_le7 x) (fv_le7 r) (fun c hc => ?_) 100 (fun k hk => ?_) r.fv.length 0 k (by omega) (by omega) (by have : r.fv.length ≤ 7 := List.length_filter_le _ _; omega)
      · obtain ⟨c1, c2⟩ := (fv_iff r c).1 hc
        rcases pt_free z x n r hp c c2 with h | ⟨h, h'⟩
        · exact .inl ((fv_iff x c).2 ⟨c1, h⟩)
        · exact .inr ⟨(fv_iff n c).2 ⟨c1, h⟩, h'⟩
      · obtain ⟨k, rfl⟩ : ∃ j, k = j + 1 := ⟨k - 1, by omega⟩
        have hs : repl n.tx (ch z) (ch z) = some n.tx := by
          have e1 : tmOf (ch z).data.toList = some (.leaf z) := tmOf_ok' (x := .leaf z) (show (Go.Proofs.YtpklhagedifglaaW.PrintMore.isVar z || isDig z) = true by rw [hvar]; rfl) (by show (1 : Nat) ≤ 80; omega)
          unfold repl
          rw [ht, e1, hv]
          simp only [Option.bind_some]
          rw [pt_self z (var_dig hvar) n, Option.bind_some, if_pos h80]
        rw [laws_FnReplace.l1, if_neg (by omega)]
        simp only [impl_ReplaceVar.f, hs, Option.bind_some, Option.elim, impl_DepthOfTerm.f, hu, ht, hrt, tl1r]
        by_cases ha : z = 97
        · subst ha
          rw [if_pos rfl]
          by_cases hd : x.dp F0 = 1
          · rw [if_pos hd, if_pos (pt_depth 97 x n r F0 hp (by rw [F0_a, hd])).symm]; simp
          · rw [if_neg hd]; simp
        · rw [if_neg (by simpa using ha)]; simp
    · rw [if_neg (by rw [decide_eq_false hz]; simp)]
      have h0 : n.fc z = 0 := by
        by_cases c : n.fc z = 0
        · exact c
        · exact absurd ((fv_iff n z).2 ⟨hvar, by omega⟩) hz
      rw [pt_none z x n h0] at hp
      cases hp
      simp
theorem FnReplace : laws_FnReplace.Pure := by
  intro c1 c2 hm1 _ hw1 hm2 _ hw2
  obtain ⟨K, hK⟩ : ∃ K, 200000 ≤ K := ⟨200000, Nat.le_refl _⟩
  refine ⟨K + 10, ?_⟩
  unfold laws_FnReplace.f
  by_cases h1 : c1.length ≤ 1048576
  case neg => rw [if_pos (by omega), show K + 10 = (K + 9) + 1 from rfl, laws_FnReplace.j0, if_pos rfl]
  rw [if_neg (by omega), show K + 10 = (K + 9) + 1 from rfl, laws_FnReplace.j0]
  by_cases h2 : c2.length ≤ 1048576
  case neg => rw [if_pos (decide_eq_true (by omega))]
  rw [if_neg (by rw [decide_eq_false (by omega)]; simp)]
  obtain ⟨t, v, u, e1, z1, z2, z3⟩ := drawRepl_any (K + 9) c1 (by omega) (wf_u8 hw1) h1
  obtain ⟨w, e2, z4⟩ := drawFree_any (K + 9) c2 (by omega) (wf_u8 hw2) h2
  rw [e1]
  simp only [Option.bind_some, impl_ReplaceVar.f, spec_ReplaceVar.f]
  rw [if_pos (show t.size ≤ 1048576 ∧ v.size ≤ 1048576 ∧ u.size ≤ 1048576 from ⟨by omega, by omega, by omega⟩), e2]
  simp only [Option.bind_some, impl_FreeVars.f, spec_FreeVars.f, if_true, bne_self_eq_false, Bool.false_eq_true, if_false]
  rw [if_pos (show w.size ≤ 1048576 by omega)]
  simp only [Option.bind_some, if_true]
  rw [show K + 9 = (K + 8) + 1 from rfl, laws_FnReplace.j1]
  cases hr : repl t v u with
  | none =>
    simp only [Option.elim, Bool.not_false, if_true, beq_self_eq_true, impl_FreeVars.f, spec_FreeVars.f, Option.bind_some]
    rw [if_pos (show w.size ≤ 1048576 by omega)]
    simp
  | some s =>
    have hr2 := hr
    unfold repl at hr2
    obtain ⟨n, ht, hr2⟩ := Option.bind_eq_some_iff.1 hr2
    obtain ⟨x, hu, hr2⟩ := Option.bind_eq_some_iff.1 hr2
    obtain ⟨z, hv, hr2⟩ := Option.bind_eq_some_iff.1 hr2
    obtain ⟨r, hp, hr2⟩ := Option.bind_eq_some_iff.1 hr2
    split at hr2
    · rename_i h80
      cases hr2
      have hrk : r.ok := pt_ok z x (tmOf_ok hu) n r (tmOf_ok ht) hp
      simp only [Option.elim, Bool.not_true, Bool.false_eq_true, if_false, impl_FreeVars.f, ht, hu, tmOf_ok' hrk h80, Option.bind_some]
      exact rep_main (K + 8) t v u n x r z ht hu hv hp h80 (by omega)
    · cases hr2
end Go.Proofs.Ytpklhagedifglaa.Pure
