/-
  Cut to what this claim uses.
-/
import Derived.Lib.LazyBuf
import Derived.Test.YteijndaldkkpfaaQTurnA
namespace Go.Proofs.YteijndaldkkpfaaW.PrintMore
set_option linter.unusedVariables false
set_option linter.unusedSimpArgs false
open Go.Proofs Go.Deep
open Go.RowKit Go.Proofs.YteijndaldkkpfaaW.PrintWords Go.Proofs.YteijndaldkkpfaaW.PrintLast Go.Proofs.YteijndaldkkpfaaW.PrintMore
theorem C_below {w W : World} {A : Option Addr} {n : Nat} {l : List Int} (h : Kd.C (Kd.int .i64) w A n l) (hb : Below w.heap.size w W) : Kd.C (Kd.int .i64) W A n l := by
  first | exact Kd.C_below h hb | exact Kd.C_keep h (fun p u hp => cell_keep hb p u hp)
set_option maxHeartbeats 4000000 in
set_option maxRecDepth 100000 in
theorem total_walk (w : World) (A0 : Option Addr) (c0 : Nat) (ls : List Nat) (hr : Kd.C (Kd.int .i64) w A0 ls.length (nats ls)) (hlen : ls.length ≤ 400) (hsum : ls.sum ≤ 400) :
    Calls Try.prog 74 #[.slice A0 ls.length c0] w fun e w' => e = .returned (.int .i64 (ls.sum : Int)) ∧ w' = w := by
  have HR := Aside0.mk hr
  have HLE := Aside0.mk hlen
  have HSM := Aside0.mk hsum
  clear hr hlen hsum
  go_enter Try.func74, Try.ntmps74
  go_wp2
  go_loopg [3, 8] (ls.length) (fun kq v3 v8 w' => ∃ (i s : Nat), v3 = .int .i64 (s : Int) ∧ v8 = .int .i64 (i : Int) ∧ Aside0 (kq + i = ls.length) ∧ Aside0 (s = (ls.take i).sum) ∧ Aside0 (w' = w))
  case atStart => exact ⟨0, 0, rfl, rfl, ⟨by omega⟩, ⟨rfl⟩, ⟨rfl⟩⟩
  case round =>
    obtain ⟨i, s, rfl, rfl, HI, HSS, HW⟩ := hrel
    have hw := HW.out
    subst hw
    by_cases hi : i < ls.length
    · have hlt : (i : Int) < (ls.length : Int) := by omega
      have h0 : (0 : Int) ≤ (i : Int) := by omega
      obtain ⟨ad, rfl, hc⟩ := Kd.at_int HR.out (i : Int) h0 hlt
      rw [nats_at ls i hi] at hc
      obtain ⟨n, hn⟩ : ∃ n : Nat, n = ls[i] := ⟨_, rfl⟩
      rw [← hn] at hc
      have hc' : wr.cell? (ad.add i) = some (.int .i64 (n : Int)) := by simpa using hc
      have hsn : s + n ≤ 400 := by
        have h1 := take_sum ls i hi
        have h2 := take_sum_le ls (i + 1)
        have h3 := HSM.out
        have h4 := HSS.out
        omega
      have HNN := Aside0.mk (show (ls.take (i + 1)).sum = s + n from by rw [take_sum ls i hi, ← HSS.out, hn])
      have HH := Aside0.mk hi
      have HSN := Aside0.mk hsn
      have e1 : IntKind.i64.wrap ((s : Int) + (n : Int)) = ((s + n : Nat) : Int) := by rw [IntKind.wrap_i64]; omega
      have E1 := Aside0.mk e1
      clear hc hn hi hsn e1
      go_wp2
      go_roundg (gk - 1)
      case measure => have := HI.out; have := HH.out; omega
      case rel =>
        refine ⟨i + 1, s + n, ?_, ?_, ⟨by have := HI.out; have := HH.out; omega⟩, ⟨HNN.out.symm⟩, ⟨rfl⟩⟩
        · have := HSN.out
          have e1 := E1.out
          have e2 : wrap64 ((s : Int) + (n : Int)) = ((s + n : Nat) : Int) := by rw [wrap64]; omega
          first | rfl | (rw [← e1]; done) | (rw [← e2]; done) | (simp [e1]; done) | (simp [e2]; done) | (show Value.int .i64 _ = _; rw [e1]; done) | (show Value.int .i64 _ = _; rw [e2])
        · have := HLE.out; have := HH.out
          have e1 : IntKind.i64.wrap ((i : Int) + 1) = ((i + 1 : Nat) : Int) := by rw [IntKind.wrap_i64]; omega
          have e2 : wrap64 ((i : Int) + 1) = ((i + 1 : Nat) : Int) := by rw [wrap64]; omega
          first | rfl | (rw [← e1]; done) | (rw [← e2]; done) | (simp [e1]; done) | (simp [e2]; done) | (show Value.int .i64 _ = _; rw [e1]; done) | (show Value.int .i64 _ = _; rw [e2])
    · have h1 : (ls.length : Int) ≤ (i : Int) := by omega
      have HE := Aside0.mk (show i = ls.length from by have := HI.out; omega)
      clear hi
      go_wp2
      go_ret
      refine ⟨?_, rfl⟩
      have := HSS.out
      rw [HE.out, List.take_of_length_le (Nat.le_refl _)] at this
      rw [← this]; rfl
theorem R_rebase {α : Type} {enc : α → Value} {h1 : ∀ x, (enc x).oneCell' = true} {e : TypeId} {w : World} {base base' : Nat} {ok ok' : Nat → Prop} {v : Value} {xs : List α} (h : Kd.R (Kd.scalar enc h1) e w base ok v xs) (hb : base' ≤ base) (hok : ∀ k, v.ownBlock = some k → base ≤ k → ok' k) : Kd.R (Kd.scalar enc h1) e w base' ok' v xs := by
  obtain ⟨hl, ho⟩ := Kd.own_of_R h
  rcases ho with ⟨rfl, hz⟩ | ⟨g, cap, cur, rfl, hg, hh, a1, a2, a3, a4⟩
  · exact Kd.R_of_own ⟨hl, .inl ⟨rfl, hz⟩⟩ (fun k hk => by cases hk)
  · exact Kd.R_of_own ⟨hl, .inr ⟨g, cap, cur, rfl, Nat.le_trans hb hg, hh, a1, a2, a3, a4⟩⟩ (fun k hk => hok k hk (by have : g = k := Option.some.inj hk; omega))
def upto (n : Nat) : List Int := (List.range n).map fun (j : Nat) => (j : Int)
set_option maxHeartbeats 8000000 in
set_option maxRecDepth 100000 in
theorem indices_walk (w : World) (A0 : Option Addr) (c0 : Nat) (ls : List Nat) (hr : Kd.C (Kd.int .i64) w A0 ls.length (nats ls)) (hc0 : ls.length ≤ c0) (hlen : ls.length ≤ 400) (hsum : ls.sum ≤ 400) :
    Calls Try.prog 56 #[.slice A0 ls.length c0] w fun e w' => ∃ v A ps cap, e = .returned v ∧ w.heap.size ≤ A ∧ (∃ f, w'.rowIs A 3 cap f ∧ ∀ j, j < ls.sum → f j = .int .i64 (j : Int)) ∧ ls.sum ≤ cap ∧
      Kd.R (kCut A) 22 w' w.heap.size (fun k => k ≠ A) v ps ∧ ps.length = ls.length ∧ Cuts ls ps ∧ Below w.heap.size w w' := by
  have HR := Aside0.mk hr
  have HLE := Aside0.mk hlen
  have HSM := Aside0.mk hsum
  have HC0 := Aside0.mk hc0
  have HO0 := Aside0.mk (own_emptyS (Value.int .i64) (fun _ => rfl) 3 w w.heap.size (Nat.le_refl _))
  have HB0 := Aside0.mk (show Below w.heap.size w (w.alloc (.cells #[] 3)) from (Below.refl _ w).alloc (Nat.le_refl _) _)
  clear hr hlen hsum hc0
  go_enter Try.func56, Try.ntmps56
  go_wp2_with fail
  refine (total_walk _ A0 c0 ls (C_below HR.out HB0.out) HLE.out HSM.out).mono ?_
  rintro e w1 ⟨rfl, hw1⟩
  rw [hw1]
  clear hw1 w1
  obtain ⟨S, hS⟩ : ∃ S, S = ls.sum := ⟨_, rfl⟩
  rw [← hS]
  have HS := Aside0.mk hS
  have HS4 := Aside0.mk (show S ≤ 400 from by rw [hS]; exact HSM.out)
  clear hS
  go_wp2
  go_loopg [3, 8] S (fun kq v3 v8 w' => ∃ (i : Nat), v8 = .int .i64 (i : Int) ∧ Aside0 (kq + i = S) ∧ Aside0 (Kd.R (Kd.int .i64) 3 w' w.heap.size (fun _ => True) v3 (upto i)) ∧ Aside0 (Below w.heap.size w w') ∧ Aside0 (v3.ownBlock ≠ none))
  case atStart => exact ⟨0, rfl, ⟨by omega⟩, HO0, HB0, ⟨fun h => by cases h⟩⟩
  case round =>
    obtain ⟨i, rfl, HI, HO, HB, HON⟩ := hrel
    by_cases hi : i < S
    · have hlt : (i : Int) < (S : Int) := by omega
      have HH := Aside0.mk hi
      have HLX := Aside0.mk (show (upto i).length ≤ 400 from by unfold upto; rw [List.length_map, List.length_range]; have := HS4.out; omega)
      clear hi
      go_wp2_with (first | ((with_reducible refine gate_builtin (b := .append) (xs := #[.tmp 11, .tmp 13]) rfl ?_); at_builtin; refine Kd.R_append (Kd.int .i64) (w0 := w) w.heap.size rfl (.tmp 11) (.tmp 13) 22 3 (.int .i64 0) 8 rfl Try.underlying22 int_info rfl Nat.zero_lt_one (by omega) _ (upto i) (i : Int) [.int .i64 (i : Int)] (fun _ => True) (fun _ => False) rfl ?aX ?aP (fun _ hk => hk.elim) ?aF ?aO ?aB ?aS ?aL ?_; (case aX => first | rfl | (simp [Act.eval]; done)); (case aP => exact rfl); (case aF => exact fun _ _ => trivial); (case aO => exact HO.out); (case aB => exact HB.out); (case aS => exact HB.out.size); (case aL => have := HLX.out; omega); intro v4 w21 ho hb4 hg4 hat4; have HO3 := Aside0.mk ho; have HB3 := Aside0.mk hb4; have HON4 := Aside0.mk (show v4.ownBlock ≠ none from (by rcases hat4 with e | ⟨b, e, _⟩; rw [e]; exact HON.out; rw [e]; exact fun h => by cases h)); clear ho hb4 hg4 hat4))
      go_roundg (gk - 1)
      case measure => have := HI.out; have := HH.out; omega
      case rel =>
        refine ⟨i + 1, ?_, ⟨by have := HI.out; have := HH.out; omega⟩, ⟨?_⟩, HB3, HON4⟩
        · have := HS4.out; have := HH.out
          have e1 : IntKind.i64.wrap ((i : Int) + 1) = ((i + 1 : Nat) : Int) := by rw [IntKind.wrap_i64]; omega
          have e2 : wrap64 ((i : Int) + 1) = ((i + 1 : Nat) : Int) := by rw [wrap64]; omega
          first | rfl | (rw [← e1]; done) | (rw [← e2]; done) | (simp [e1]; done) | (simp [e2]; done) | (show Value.int .i64 _ = _; rw [e1]; done) | (show Value.int .i64 _ = _; rw [e2])
        · have e : upto (i + 1) = upto i ++ [(i : Int)] := by unfold upto; rw [List.range_succ, List.map_append]; rfl
          rw [e]; exact HO3.out
    · have h1 : (S : Int) ≤ (i : Int) := by omega
      have HE := Aside0.mk (show i = S from by have := HI.out; omega)
      clear hi
      have hO := HO.out
      rw [HE.out] at hO
      have hlen : (upto S).length = S := by unfold upto; rw [List.length_map, List.length_range]
      have hex : ∃ g cap cur, u3 = .slice (some ⟨g, 0, none⟩) S cap ∧ w.heap.size ≤ g ∧ wr.heap[g]? = some (.cells cur 3 (0, 0)) ∧ S ≤ cap ∧ cur.size = cap := by
        rcases (Kd.own_of_R hO).2 with ⟨e, _⟩ | ⟨g, cap, cur, e, hg, hh, hle, _, hsz, _⟩
        · exact absurd (by rw [e]; rfl) HON.out
        · rw [hlen] at e hle
          exact ⟨g, cap, cur, e, hg, hh, hle, by rw [hsz, Nat.mul_one]⟩
      obtain ⟨g, cap, cur, hv, hg, hh, hle, hcsz⟩ := hex
      subst hv
      have HRW := Aside0.mk (show ∃ f, wr.rowIs g 3 cap f ∧ ∀ j, j < S → f j = .int .i64 (j : Int) from by
        refine ⟨fun j => cur.getD j default, ⟨cur, hh, hcsz, fun j hj => by show cur[j]? = some (cur.getD j default); rw [Array.getD_eq_getD_getElem?, Array.getElem?_eq_getElem (by omega)]; rfl⟩, fun j hj => ?_⟩
        have h1 := (Kd.R_celln (0 : Int) hO (j : Int) (by omega) (by omega)).1
        rw [show ((j : Nat) : Int).toNat = j from by omega, blk_cell hh] at h1
        show cur.getD j default = _
        rw [Array.getD_eq_getD_getElem?, h1]
        show Value.int .i64 (rdOf 0 (upto S) (j : Int)) = _
        congr 1
        unfold rdOf upto
        rw [show ((j : Nat) : Int).toNat = j from by omega, List.getD_eq_getElem?_getD, List.getElem?_map, List.getElem?_range hj]; rfl)
      have HGW := Aside0.mk hg
      have HRWL := Aside0.mk (show g < wr.heap.size from blk_lt hh)
      have HLC := Aside0.mk hle
      clear hO hh hcsz hlen hg hle
      go_wp2_with fail
      refine (segs_walk wr A0 c0 ls g S cap (C_below HR.out HB.out) HC0.out HLE.out (by rw [HS.out]; exact Nat.le_refl _) HLC.out).mono ?_
      rintro e w3 ⟨v, rfl, ps, hR, hpl, hcu, hb3⟩
      have HB3 := Aside0.mk (HB.out.trans (hb3.mono HB.out.size))
      have HX := Aside0.mk (show Kd.R (kCut g) 22 w3 w.heap.size (fun k => k ≠ g) v ps from R_rebase hR HB.out.size (fun k _ hk => by have := HRWL.out; omega))
      have HY := Aside0.mk (And.intro hpl hcu)
      have HRW3 := Aside0.mk (show ∃ f, w3.rowIs g 3 cap f ∧ ∀ j, j < S → f j = .int .i64 (j : Int) from by
        obtain ⟨f, ⟨c, h1, h2, h3⟩, h4⟩ := HRW.out
        exact ⟨f, ⟨c, blk_below h1 hb3, h2, h3⟩, h4⟩)
      clear hR hpl hcu hb3
      go_wp2
      go_ret
      refine ⟨v, g, ps, cap, rfl, HGW.out, ?_, by rw [← HS.out]; exact HLC.out, HX.out, HY.out.1, HY.out.2, HB3.out⟩
      rw [← HS.out]; exact HRW3.out
end Go.Proofs.YteijndaldkkpfaaW.PrintMore
