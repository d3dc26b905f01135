/-
  The text of a layout is read back: plain Lean.
-/
import Derived.Lib.AtoiAll
import Derived.Lib.AtoiAllCases
import Derived.Lib.SplitLaws
import Derived.Lib.IndexBytes
import Derived.Shelf.Strings.FieldsAny
import Derived.Test.YtlakjonnkggomaaDoorFmC
namespace Go.Proofs.YtlakjonnkggomaaDoorW.PrintMore
set_option linter.unusedVariables false
set_option linter.unusedSimpArgs false
open Go.Proofs Go.Deep
open Go.RowKit Go.Proofs.YtlakjonnkggomaaDoorW.PrintWords Go.Proofs.YtlakjonnkggomaaDoorW.PrintLast Go.Proofs.YtlakjonnkggomaaDoorW.PrintMore
/-- A text cut at a byte. -/
def cutGo (c : UInt8) : List UInt8 → List UInt8 → List (List UInt8)
  | cur, [] => [cur]
  | cur, b :: l => if b = c then cur :: cutGo c [] l else cutGo c (cur ++ [b]) l
theorem cutGo_app (c : UInt8) : ∀ (x cur r : List UInt8), c ∉ x → cutGo c cur (x ++ r) = cutGo c (cur ++ x) r
  | [], cur, r, _ => by simp
  | b :: x, cur, r, h => by
    have hb : ¬ b = c := fun e => h (by simp [e])
    have hx : c ∉ x := fun e => h (List.mem_cons_of_mem _ e)
    rw [List.cons_append, cutGo, if_neg hb, cutGo_app c x _ r hx, List.append_assoc]
    rfl
theorem cutGo_all (c : UInt8) (x cur : List UInt8) (h : c ∉ x) : cutGo c cur x = [cur ++ x] := by
  have := cutGo_app c x cur [] h
  rw [List.append_nil] at this
  rw [this, cutGo]
theorem cutGo_at (c : UInt8) (x r cur : List UInt8) (h : c ∉ x) : cutGo c cur (x ++ c :: r) = (cur ++ x) :: cutGo c [] r := by
  rw [cutGo_app c x cur _ h, cutGo, if_pos rfl]
theorem cutGo_len (c : UInt8) : ∀ (l cur : List UInt8), (cutGo c cur l).length = l.count c + 1
  | [], cur => rfl
  | b :: l, cur => by
    rw [cutGo]
    by_cases h : b = c
    · rw [if_pos h, List.length_cons, cutGo_len c l, h, List.count_cons_self]
    · rw [if_neg h, cutGo_len c l, List.count_cons_of_ne h]
theorem cut_first (c : UInt8) : ∀ (l : List UInt8), c ∈ l → ∃ x r, l = x ++ c :: r ∧ c ∉ x
  | [], h => by cases h
  | b :: l, h => by
    by_cases hb : b = c
    · exact ⟨[], l, by rw [hb]; rfl, by simp⟩
    · have hl : c ∈ l := by rcases List.mem_cons.1 h with e | e; exact absurd e.symm hb; exact e
      obtain ⟨x, r, e, hx⟩ := cut_first c l hl
      exact ⟨b :: x, r, by rw [e]; rfl, by simp [hx]; exact fun e => hb e.symm⟩
theorem indexByte_app (c : UInt8) : ∀ (x r : List UInt8), c ∉ x → Lib.indexByte (x ++ c :: r) c = x.length
  | [], r, _ => by simp [Lib.indexByte]
  | b :: x, r, h => by
    have hb : ¬ b = c := fun e => h (by simp [e])
    have := indexByte_app c x r (fun e => h (List.mem_cons_of_mem _ e))
    rw [List.cons_append]
    unfold Lib.indexByte
    simp [hb, this]
    try omega
theorem indexByte_not (c : UInt8) : ∀ (x : List UInt8), c ∉ x → Lib.indexByte x c = -1
  | [], _ => rfl
  | b :: x, h => by
    have hb : ¬ b = c := fun e => h (by simp [e])
    have := indexByte_not c x (fun e => h (List.mem_cons_of_mem _ e))
    unfold Lib.indexByte
    simp [hb, this]
theorem splitK_cut (c : UInt8) : ∀ (k : Nat) (l : List UInt8), l.count c = k → Lib.splitK [c] 0 k l = cutGo c [] l
  | 0, l, h => by
    rw [cutGo_all c l [] (List.count_eq_zero.1 h)]
    rfl
  | k + 1, l, h => by
    have hm : c ∈ l := List.count_pos_iff.1 (by omega)
    obtain ⟨x, r, rfl, hx⟩ := cut_first c l hm
    have hi : Lib.index (x ++ c :: r) [c] = x.length := by rw [Lib.index_one, indexByte_app c x r hx]
    have hc : r.count c = k := by
      rw [List.count_append, List.count_cons_self, List.count_eq_zero.2 hx] at h
      omega
    rw [cutGo_at c x r [] hx]
    unfold Lib.splitK
    rw [hi, if_neg (by simp)]
    have e1 : ((x.length : Int)).toNat = x.length := by omega
    rw [e1, Nat.add_zero, List.take_left' rfl, List.nil_append]
    congr 1
    have e2 : (x ++ c :: r).drop (x.length + [c].length) = r := by
      rw [List.drop_append]
      simp
    rw [e2]
    exact splitK_cut c k r hc
/-- What a word gives. -/
def pnum (w : List UInt8) : List Int := match Lib.atoiAll w with | .ok v => [v] | _ => []
/-- What a piece gives. -/
def prow (x : List UInt8) : List Int := ((Lib.fieldsD x).map pnum).flatten
/-- The pieces of a text. -/
def pcs (s : ByteArray) : List (List UInt8) := cutGo 124 [] s.data.toList
theorem pcs_ne (s : ByteArray) : (pcs s).length = s.data.toList.count 124 + 1 := cutGo_len _ _ _
def dig (b : UInt8) : Prop := 48 ≤ b.toNat ∧ b.toNat ≤ 57
theorem decDigits_dig (u : Nat) : ∀ b ∈ Lib.decDigits u, dig b := by
  intro b hb
  rw [Lib.decDigits_eq] at hb
  obtain ⟨t, _, rfl⟩ := List.mem_map.1 hb
  unfold Lib.dg dig
  generalize hm : u / 10 ^ (Lib.nDigits u - 1 - t) % 10 = m
  have hm2 : m < 10 := by rw [← hm]; exact Nat.mod_lt _ (by decide)
  have : (UInt8.ofNat (48 + m)).toNat = 48 + m := by
    rw [UInt8.toNat_ofNat']; omega
  rw [this]
  omega
theorem dig_ne {b : UInt8} (h : dig b) (c : UInt8) (hc : c.toNat < 48 ∨ 57 < c.toNat) : b ≠ c := by
  rintro rfl
  have := h.1
  have := h.2
  omega
theorem dig_sp {b : UInt8} (h : dig b) : Lib.isSp b = false := by
  unfold Lib.isSp
  have h1 : ∀ c : UInt8, c.toNat < 48 → (b == c) = false := fun c hc => by
    rw [beq_eq_false_iff_ne]; exact dig_ne h c (.inl hc)
  rw [h1 9 (by decide), h1 10 (by decide), h1 11 (by decide), h1 12 (by decide), h1 13 (by decide), h1 32 (by decide)]
  rfl
theorem itoa_pos (n : Int) (h : 0 ≤ n) : Lib.itoa n = Lib.decDigits n.toNat := by unfold Lib.itoa; rw [if_neg (by omega)]
theorem parse_app : ∀ (x r : List UInt8) (a v : Nat), Lib.parseUint10 a x = .ok v → Lib.parseUint10 a (x ++ r) = Lib.parseUint10 v r
  | [], r, a, v, h => by
    unfold Lib.parseUint10 at h
    injection h with h
    rw [h]; rfl
  | c :: x, r, a, v, h => by
    rw [List.cons_append]
    conv => lhs; unfold Lib.parseUint10
    unfold Lib.parseUint10 at h
    by_cases h1 : 48 ≤ c.toNat ∧ c.toNat ≤ 57
    case neg => rw [if_neg h1] at h; cases h
    rw [if_pos h1] at h ⊢
    by_cases h2 : 1844674407370955162 ≤ a
    case pos => rw [if_pos h2] at h; cases h
    rw [if_neg h2] at h ⊢
    by_cases h3 : 18446744073709551616 ≤ a * 10 + (c.toNat - 48)
    case pos => rw [if_pos h3] at h; cases h
    rw [if_neg h3] at h ⊢
    exact parse_app x r _ v h
theorem parse_dec (u : Nat) : u ≤ 1000000 → Lib.parseUint10 0 (Lib.decDigits u) = .ok u := by
  induction u using Nat.strongRecOn with
  | _ u ih =>
    intro hu
    have hd : ∀ m, m < 10 → (UInt8.ofNat (48 + m)).toNat = 48 + m := fun m hm => by rw [UInt8.toNat_ofNat']; omega
    by_cases h : u < 10
    · rw [Lib.decDigits, dif_pos h]
      unfold Lib.parseUint10
      rw [hd u h, if_pos (by omega), if_neg (by omega), if_neg (by omega)]
      unfold Lib.parseUint10
      congr 1
      omega
    · rw [Lib.decDigits, dif_neg h, parse_app _ _ _ _ (ih (u / 10) (by omega) (by omega))]
      unfold Lib.parseUint10
      rw [hd (u % 10) (by omega), if_pos (by omega), if_neg (by omega), if_neg (by omega)]
      unfold Lib.parseUint10
      congr 1
      omega
theorem pnum_itoa (n : Int) (h0 : 0 ≤ n) (h1 : n ≤ 1000000) : pnum (Lib.itoa n) = [n] := by
  rw [itoa_pos n h0]
  have hne : Lib.decDigits n.toNat ≠ [] := by rw [← itoa_pos n h0]; exact itoa_ne n
  have hp := parse_dec n.toNat (by omega)
  obtain ⟨c, r, e⟩ := List.exists_cons_of_ne_nil hne
  have hc : dig c := decDigits_dig n.toNat c (by rw [e]; exact List.mem_cons_self)
  rw [e] at hp ⊢
  have h2 := hc.1
  unfold pnum
  rw [Lib.atoiAll_plain c r (by omega) (by omega)]
  unfold Lib.parseMag
  rw [if_neg (List.cons_ne_nil _ _), hp]
  unfold Lib.signless
  simp
  split
  · rename_i v hv
    split at hv
    · omega
    · injection hv with hv
      rw [← hv]
      congr 1
      omega
  · rename_i hx
    exfalso
    rw [if_neg (by omega)] at hx
    exact hx _ rfl
theorem pnum_dash : pnum [45] = [] := by
  unfold pnum
  rw [Lib.atoiAll_minus]
  rfl
/-- Words with a blank between them. -/
def wds (l : List Int) : List (List UInt8) := l.map Lib.itoa
theorem fieldsGo_app : ∀ (x cur r : List UInt8), (∀ b ∈ x, Lib.isSp b = false) → Lib.fieldsGo cur (x ++ r) = Lib.fieldsGo (cur ++ x) r
  | [], cur, r, _ => by simp
  | b :: x, cur, r, h => by
    rw [List.cons_append, Lib.fieldsGo_more _ _ _ (h b List.mem_cons_self), fieldsGo_app x _ r (fun d hd => h d (List.mem_cons_of_mem _ hd)), List.append_assoc]
    rfl
theorem fieldsGo_tail : ∀ (ys : List (List UInt8)) (y : List UInt8), (∀ x ∈ y :: ys, x ≠ [] ∧ ∀ b ∈ x, Lib.isSp b = false) → Lib.fieldsGo [] (y ++ Lib.joinTail [32] ys) = y :: ys
  | [], y, h => by
    obtain ⟨h1, h2⟩ := h y List.mem_cons_self
    rw [show Lib.joinTail [32] [] = [] from rfl, fieldsGo_app y [] [] h2, List.nil_append]
    cases y with
    | nil => exact absurd rfl h1
    | cons a t => rfl
  | z :: ys, y, h => by
    obtain ⟨h1, h2⟩ := h y List.mem_cons_self
    rw [show Lib.joinTail [32] (z :: ys) = 32 :: (z ++ Lib.joinTail [32] ys) from by unfold Lib.joinTail; simp, fieldsGo_app y [] _ h2, List.nil_append, Lib.fieldsGo_end _ _ _ rfl h1, fieldsGo_tail ys z (fun x hx => h x (List.mem_cons_of_mem _ hx))]
theorem cutGo_tail (c : UInt8) : ∀ (ys : List (List UInt8)) (y cur : List UInt8), (∀ x ∈ y :: ys, c ∉ x) → cutGo c cur (y ++ Lib.joinTail [c] ys) = (cur ++ y) :: ys
  | [], y, cur, h => by
    rw [show Lib.joinTail [c] [] = [] from rfl, List.append_nil, cutGo_all c y cur (h y List.mem_cons_self)]
  | z :: ys, y, cur, h => by
    rw [show Lib.joinTail [c] (z :: ys) = c :: (z ++ Lib.joinTail [c] ys) from by unfold Lib.joinTail; simp, cutGo_at c y _ cur (h y List.mem_cons_self), cutGo_tail c ys z [] (fun x hx => h x (List.mem_cons_of_mem _ hx))]
    rfl
/-- Numbers that a layout bears. -/
def Okn (l : List Int) : Prop := ∀ n ∈ l, 0 ≤ n ∧ n ≤ 1000000
theorem itoa_dig (n : Int) (h : 0 ≤ n) : ∀ b ∈ Lib.itoa n, dig b := by rw [itoa_pos n h]; exact decDigits_dig _
/-- The text of a row as bytes. -/
def spL (l : List Int) : List UInt8 := if l = [] then [45] else Lib.join (wds l) [32]
theorem spB_list (l : List Int) : (spB l).data.toList = spL l := by
  unfold spB spL
  by_cases h : l = []
  · rw [if_pos h, if_pos h]
  · rw [if_neg h, if_neg h]
    unfold decs joinB wds
    rw [List.map_map]
    show (Lib.join (List.map ((fun x => x.data.toList) ∘ dec) l) [32]).toArray.toList = _
    have e : (l.map ((fun x => x.data.toList) ∘ dec)) = l.map Lib.itoa := List.map_congr_left (fun n _ => dec_list n)
    rw [e]
theorem spL_mem {l : List Int} (h : Okn l) : ∀ b ∈ spL l, dig b ∨ b = 45 ∨ b = 32 := by
  intro b hb
  unfold spL at hb
  by_cases hl : l = []
  · rw [if_pos hl] at hb
    exact .inr (.inl (List.mem_singleton.1 hb))
  · rw [if_neg hl] at hb
    cases l with
    | nil => exact absurd rfl hl
    | cons n l =>
      unfold wds at hb
      rw [List.map_cons, Lib.join_cons] at hb
      rcases List.mem_append.1 hb with hb | hb
      · exact .inl (itoa_dig n (h n List.mem_cons_self).1 b hb)
      · unfold Lib.joinTail at hb
        obtain ⟨x, hx, hbx⟩ := List.mem_flatten.1 hb
        obtain ⟨y, hy, rfl⟩ := List.mem_map.1 hx
        obtain ⟨m, hm, rfl⟩ := List.mem_map.1 hy
        rcases List.mem_append.1 hbx with hb | hb
        · exact .inr (.inr (List.mem_singleton.1 hb))
        · exact .inl (itoa_dig m (h m (List.mem_cons_of_mem _ hm)).1 b hb)
theorem spL_bar {l : List Int} (h : Okn l) : (124 : UInt8) ∉ spL l := by
  intro hb
  rcases spL_mem h _ hb with hb | hb | hb
  · have := hb.2; have e : (124 : UInt8).toNat = 124 := rfl; omega
  · exact absurd hb (by decide)
  · exact absurd hb (by decide)
theorem spL_ascii {l : List Int} (h : Okn l) : ∀ b ∈ spL l, b.toNat < 128 := by
  intro b hb
  rcases spL_mem h _ hb with hb | rfl | rfl
  · have := hb.2; omega
  · decide
  · decide
theorem fields_spL {l : List Int} (h : Okn l) : Lib.fieldsD (spL l) = if l = [] then [[45]] else wds l := by
  rw [Lib.fieldsD_ascii _ (spL_ascii h)]
  unfold spL Lib.fields
  by_cases hl : l = []
  · rw [if_pos hl, if_pos hl]; rfl
  · rw [if_neg hl, if_neg hl]
    cases l with
    | nil => exact absurd rfl hl
    | cons n l =>
      unfold wds
      rw [List.map_cons, Lib.join_cons]
      refine fieldsGo_tail _ _ (fun x hx => ?_)
      have hx' : x ∈ (n :: l).map Lib.itoa := hx
      obtain ⟨m, hm, rfl⟩ := List.mem_map.1 hx'
      exact ⟨itoa_ne m, fun b hb => dig_sp (itoa_dig m (h m hm).1 b hb)⟩
theorem prow_spL {l : List Int} (h : Okn l) : prow (spL l) = l := by
  unfold prow
  rw [fields_spL h]
  by_cases hl : l = []
  · rw [if_pos hl, hl]
    show (pnum [45] ++ []) = []
    rw [pnum_dash]; rfl
  · rw [if_neg hl]
    unfold wds
    rw [List.map_map]
    have : ∀ (l : List Int), Okn l → (l.map (pnum ∘ Lib.itoa)).flatten = l := by
      intro l
      induction l with
      | nil => intro _; rfl
      | cons n l ih =>
        intro h
        rw [List.map_cons, List.flatten_cons, ih (fun m hm => h m (List.mem_cons_of_mem _ hm))]
        show pnum (Lib.itoa n) ++ l = _
        rw [pnum_itoa n (h n List.mem_cons_self).1 (h n List.mem_cons_self).2]
        rfl
    exact this l h
theorem fmB_list (Ls : List (List Int)) (D : List Int) : (fmB Ls D).data.toList = (Ls.map (fun l => spL l ++ [124])).flatten ++ spL D := by
  unfold fmB
  rw [ba_app, spB_list]
  congr 1
  refine rev_ind (P := fun Ls => (fmP Ls).data.toList = (Ls.map (fun l => spL l ++ [124])).flatten) rfl ?_ Ls
  intro Ls l ih
  rw [fmP_snoc, ba_app, ba_app, spB_list, ih, List.map_append, List.flatten_append]
  simp
/-- The pieces of a layout's text are its rows' texts. -/
theorem pcs_fmB (Ls : List (List Int)) (D : List Int) (h : ∀ l ∈ Ls, Okn l) (hD : Okn D) : pcs (fmB Ls D) = Ls.map spL ++ [spL D] := by
  unfold pcs
  rw [fmB_list]
  induction Ls with
  | nil =>
    show cutGo 124 [] ([] ++ spL D) = _
    rw [List.nil_append, cutGo_all _ _ _ (spL_bar hD)]; rfl
  | cons l Ls ih =>
    rw [List.map_cons, List.flatten_cons, List.append_assoc, List.append_assoc]
    show cutGo 124 [] (spL l ++ 124 :: ((Ls.map (fun l => spL l ++ [124])).flatten ++ spL D)) = _
    rw [cutGo_at _ _ _ _ (spL_bar (h l List.mem_cons_self)), ih (fun r hr => h r (List.mem_cons_of_mem _ hr))]
    rfl
/-- What a text is read as. -/
def pLs (s : ByteArray) : List (List Int) := (pcs s).dropLast.map prow
def pD (s : ByteArray) : List Int := prow ((pcs s).getLast?.getD [])
theorem parse_fmB (Ls : List (List Int)) (D : List Int) (h : ∀ l ∈ Ls, Okn l) (hD : Okn D) : pLs (fmB Ls D) = Ls ∧ pD (fmB Ls D) = D := by
  unfold pLs pD
  rw [pcs_fmB Ls D h hD]
  constructor
  · rw [List.dropLast_concat, List.map_map]
    conv => rhs; rw [← List.map_id Ls]
    apply List.map_congr_left
    intro l hl
    exact prow_spL (h l hl)
  · rw [List.getLast?_concat]
    exact prow_spL hD
end Go.Proofs.YtlakjonnkggomaaDoorW.PrintMore
