/-
  Cut to what this claim uses.
-/
import Derived.BigQuiet
import Derived.BigRegion
import Derived.Deep.QuietTactic
import Derived.Laws.Cover1
import Derived.Test.YtpklhagedifglaaQ0
import Derived.Test.YtpklhagedifglaaQTermA
namespace Go.Proofs.YtpklhagedifglaaW.PrintMore
set_option linter.unusedVariables false
set_option linter.unusedSimpArgs false
open Go.Proofs Go.Deep
open Go.RowKit Go.Proofs.YtpklhagedifglaaW.PrintWords
inductive Tm where
  | leaf (c : UInt8)
  | un (c : UInt8) (x : Tm)
  | bin (c : UInt8) (x y : Tm)
  | loop (c v : UInt8) (x y : Tm)
def isDig (c : UInt8) : Bool := 48 ≤ c && c ≤ 57
def isUn (c : UInt8) : Bool := mem1 [83, 77, 73, 78, 82, 67, 80] c
def isBin (c : UInt8) : Bool := mem1 [43, 42, 94, 45, 61, 60, 64] c
def isBound (c : UInt8) : Bool := 118 ≤ c && c ≤ 122
/-- A term from the beginning of a text, and what is behind it. -/
def parse : Nat → List UInt8 → Option (Tm × List UInt8)
  | 0, _ => none
  | _ + 1, [] => none
  | n + 1, c :: r =>
    if (isVar c || isDig c) = true then some (.leaf c, r)
    else if isUn c = true then (parse n r).bind fun p => some (.un c p.1, p.2)
    else if c = 40 then (parse n r).bind fun p => match p.2 with
      | [] => none
      | s :: r => if isBin s = true then (parse n r).bind fun q => (match q.2 with
          | [] => none
          | d :: r => if d = 41 then some (.bin s p.1 q.1, r) else none) else none
    else if c = 91 ∨ c = 123 then match r with
      | v :: k :: r => if isBound v = true ∧ k = 58 then (parse n r).bind fun p => (match p.2 with
          | [] => none
          | g :: r => if g = 62 then (parse n r).bind fun q => (match q.2 with
              | [] => none
              | d :: r => if d = c + 2 then some (.loop c v p.1 q.1, r) else none) else none) else none
      | _ => none
    else none
/-- One byte as a text. -/
abbrev ch (c : UInt8) : ByteArray := ⟨#[c]⟩
/-- A term in memory. -/
def TmAt (W : World) : Value → Tm → Prop
  | v, .leaf c => ∃ p : Nat, v = .pointer (some ⟨p, 0, none⟩) ∧ W.cell? ⟨p, 0, none⟩ = some (.string (ch c)) ∧ W.cell? ⟨p, 1, none⟩ = some (.string ⟨#[]⟩) ∧ W.cell? ⟨p, 2, none⟩ = some (.slice none 0 0)
  | v, .un c x => ∃ (p a : Nat) (xv : Value) (k : Nat), v = .pointer (some ⟨p, 0, none⟩) ∧ W.cell? ⟨p, 0, none⟩ = some (.string (ch c)) ∧ W.cell? ⟨p, 1, none⟩ = some (.string ⟨#[]⟩) ∧ W.cell? ⟨p, 2, none⟩ = some (.slice (some ⟨a, 0, none⟩) 1 k) ∧ 1 ≤ k ∧ W.cell? ⟨a, 0, none⟩ = some xv ∧ TmAt W xv x
  | v, .bin c x y => ∃ (p a : Nat) (xv yv : Value) (k : Nat), v = .pointer (some ⟨p, 0, none⟩) ∧ W.cell? ⟨p, 0, none⟩ = some (.string (ch c)) ∧ W.cell? ⟨p, 1, none⟩ = some (.string ⟨#[]⟩) ∧ W.cell? ⟨p, 2, none⟩ = some (.slice (some ⟨a, 0, none⟩) 2 k) ∧ 2 ≤ k ∧ W.cell? ⟨a, 0, none⟩ = some xv ∧ W.cell? ⟨a, 1, none⟩ = some yv ∧ TmAt W xv x ∧ TmAt W yv y
  | v, .loop c u x y => ∃ (p a : Nat) (xv yv : Value) (k : Nat), v = .pointer (some ⟨p, 0, none⟩) ∧ W.cell? ⟨p, 0, none⟩ = some (.string (ch c)) ∧ W.cell? ⟨p, 1, none⟩ = some (.string (ch u)) ∧ W.cell? ⟨p, 2, none⟩ = some (.slice (some ⟨a, 0, none⟩) 2 k) ∧ 2 ≤ k ∧ W.cell? ⟨a, 0, none⟩ = some xv ∧ W.cell? ⟨a, 1, none⟩ = some yv ∧ TmAt W xv x ∧ TmAt W yv y
theorem tm_keep {W W' : World} (h : ∀ (p : Addr) (u : Value), W.cell? p = some u → W'.cell? p = some u) : ∀ (t : Tm) (v : Value), TmAt W v t → TmAt W' v t := by
  intro t
  induction t with
  | leaf c => rintro v ⟨p, h1, h2, h3, h4⟩; exact ⟨p, h1, h _ _ h2, h _ _ h3, h _ _ h4⟩
  | un c x ih => rintro v ⟨p, a, xv, k, h1, h2, h3, h4, h5, h6, h7⟩; exact ⟨p, a, xv, k, h1, h _ _ h2, h _ _ h3, h _ _ h4, h5, h _ _ h6, ih _ h7⟩
  | bin c x y ih1 ih2 => rintro v ⟨p, a, xv, yv, k, h1, h2, h3, h4, h5, h6, h7, h8, h9⟩; exact ⟨p, a, xv, yv, k, h1, h _ _ h2, h _ _ h3, h _ _ h4, h5, h _ _ h6, h _ _ h7, ih1 _ h8, ih2 _ h9⟩
  | loop c u x y ih1 ih2 => rintro v ⟨p, a, xv, yv, k, h1, h2, h3, h4, h5, h6, h7, h8, h9⟩; exact ⟨p, a, xv, yv, k, h1, h _ _ h2, h _ _ h3, h _ _ h4, h5, h _ _ h6, h _ _ h7, ih1 _ h8, ih2 _ h9⟩
theorem cell_keep {W W' : World} (h : Below W.heap.size W W') (p : Addr) (u : Value) (hp : W.cell? p = some u) : W'.cell? p = some u := (h.cell (World.block_lt_of_cell? W _ hp)).trans hp
theorem tm_below {W W' : World} (h : Below W.heap.size W W') {t : Tm} {v : Value} (ht : TmAt W v t) : TmAt W' v t := tm_keep (cell_keep h) t v ht
theorem tm_drew {W : World} {t : Tm} {v : Value} (ht : TmAt W v t) : TmAt W.drew v t := tm_keep (W := W) (W' := W.drew) (fun _ _ h => h) t v ht
/-- What readTerm answers. -/
def RT (n : Nat) (l : List UInt8) (w : World) (e : Ending) (w' : World) : Prop :=
  ∃ v rs, e = .returned (.tuple #[v, .string rs]) ∧ Below w.heap.size w w' ∧ ((∃ t, parse n l = some (t, rs.data.toList) ∧ TmAt w' v t) ∨ (parse n l = none ∧ v = .pointer none))
set_option maxRecDepth 100000 in
theorem rt_nil (w : World) (n : Nat) : Calls Try.prog 41 #[.string ⟨#[]⟩] w fun e w' => RT n [] w e w' := by
  go_enter Try.func41, Try.ntmps41
  go_wp2
  go_ret2
  exact ⟨_, _, rfl, Below.refl _ _, .inr ⟨by cases n <;> rfl, rfl⟩⟩
theorem cons_parts {s : ByteArray} {c : UInt8} {r : List UInt8} (h : s.data.toList = c :: r) : s.toList.isEmpty = false ∧ (1 : Int) ≤ (s.size : Int) ∧ s.extract 0 1 = ⟨#[c]⟩ ∧ ∃ R, s.extract 1 s.size = R ∧ R.data.toList = r := by
  have hz : s.size = r.length + 1 := by rw [← ByteArray.size_data, ← Array.length_toList, h]; rfl
  refine ⟨by rw [Lib.toList_data, h]; rfl, by omega, ?_, _, rfl, ?_⟩
  · apply ByteArray.ext
    apply Array.toList_inj.1
    rw [ByteArray.data_extract, Array.toList_extract, h]; rfl
  · rw [ByteArray.data_extract, Array.toList_extract, h, hz]; simp
theorem bl48 (c : UInt8) : Op.bytesLess [c] [48] = decide (c < 48) := by simp [Op.bytesLess]
theorem bl57 (c : UInt8) : (Op.bytesLess [c] [57] || c == 57) = decide (c ≤ 57) := by
  simp only [Op.bytesLess, Bool.and_false, Bool.or_false]
  by_cases h : c = 57
  · subst h; decide
  · have h1 : (c == 57) = false := by simp [h]
    rw [h1, Bool.or_false, decide_eq_decide]
    constructor
    · intro h2; exact UInt8.le_of_lt h2
    · intro h2; exact UInt8.lt_of_le_of_ne h2 h
theorem tm_leaf_new (W : World) (c : UInt8) : TmAt (W.alloc (.cells #[.string (ch c), .string ⟨#[]⟩, .slice none 0 0] 58)) (.pointer (some ⟨W.heap.size, 0, none⟩)) (.leaf c) := by
  refine ⟨_, rfl, ?_, ?_, ?_⟩
  · exact World.cell?_alloc_new _ _ _ _
  · exact World.cell?_alloc_new _ _ _ _
  · exact World.cell?_alloc_new _ _ _ _
set_option maxHeartbeats 2000000 in
set_option maxRecDepth 100000 in
theorem rt_leaf (w : World) (n : Nat) (s : ByteArray) (c : UInt8) (r : List UInt8) (hs : s.data.toList = c :: r) (hc : isVar c = true) :
    Calls Try.prog 41 #[.string s] w fun e w' => RT (n + 1) (c :: r) w e w' := by
  obtain ⟨hne, h0, h1, R, h2, hR⟩ := cons_parts hs
  go_enter Try.func41, Try.ntmps41
  go_wp2
  go_quiet (fail)
  go_wp2_with (go_at_call 32; refine (tm_varOk1 _ _).mono ?_; rintro e w' ⟨rfl, rfl⟩)
  go_ret2
  exact ⟨_, _, rfl, (pw_below_drewN (Below.refl _ w) nq).alloc (Nat.le_refl _) _, .inl ⟨_, by simp [parse, hc, hR], tm_leaf_new (w.drewN nq) c⟩⟩
set_option maxHeartbeats 2000000 in
set_option maxRecDepth 100000 in
theorem rt_dig (w : World) (n : Nat) (s : ByteArray) (c : UInt8) (r : List UInt8) (hs : s.data.toList = c :: r) (hc : isVar c = false) (hd : isDig c = true) :
    Calls Try.prog 41 #[.string s] w fun e w' => RT (n + 1) (c :: r) w e w' := by
  obtain ⟨hne, h0, h1, R, h2, hR⟩ := cons_parts hs
  have hd' := hd
  simp only [isDig, Bool.and_eq_true, decide_eq_true_eq] at hd'
  have d1 : Op.bytesLess [c] [48] = false := by rw [bl48]; simpa using hd'.1
  have d2 : (Op.bytesLess [c] [57] || c == 57) = true := by rw [bl57]; simpa using hd'.2
  have HD := Aside0.mk hd
  clear hd hd'
  go_enter Try.func41, Try.ntmps41
  go_wp2
  go_quiet (fail)
  go_wp2_with (go_at_call 32; refine (tm_varOk1 _ _).mono ?_; rintro e w' ⟨rfl, rfl⟩)
  go_ret2
  exact ⟨_, _, rfl, (pw_below_drewN (Below.refl _ w) nq).alloc (Nat.le_refl _) _, .inl ⟨_, by simp [parse, hc, HD.out, hR], tm_leaf_new (w.drewN nq) c⟩⟩
theorem cell_alloc_keep (W : World) (o : Obj) (p : Addr) (u : Value) (h : W.cell? p = some u) : (W.alloc o).cell? p = some u := (World.cell?_alloc_lt _ _ _ (World.block_lt_of_cell? W _ h)).trans h
theorem tm_un_new (W : World) (c : UInt8) (xv : Value) (x : Tm) (h : TmAt W xv x) : TmAt ((W.alloc (.cells #[xv] 38)).alloc (.cells #[.string (ch c), .string ⟨#[]⟩, .slice (some ⟨W.heap.size, 0, none⟩) 1 1] 58)) (.pointer (some ⟨W.heap.size + 1, 0, none⟩)) (.un c x) := by
  rw [show W.heap.size + 1 = (W.alloc (.cells #[xv] 38)).heap.size from by simp]
  refine ⟨_, W.heap.size, xv, 1, rfl, World.cell?_alloc_new _ _ _ _, World.cell?_alloc_new _ _ _ _, World.cell?_alloc_new _ _ _ _, Nat.le_refl _, ?_, ?_⟩
  · exact cell_alloc_keep _ _ _ _ (World.cell?_alloc_new _ _ _ _)
  · exact tm_keep (fun p u h => cell_alloc_keep _ _ p u (cell_alloc_keep _ _ p u h)) x xv h
theorem tm_ptr {W : World} {v : Value} {t : Tm} (h : TmAt W v t) : ∃ p, v = .pointer (some p) := by
  cases t with
  | leaf c => obtain ⟨p, h, _⟩ := h; exact ⟨_, h⟩
  | un c x => obtain ⟨p, _, _, _, h, _⟩ := h; exact ⟨_, h⟩
  | bin c x y => obtain ⟨p, _, _, _, _, h, _⟩ := h; exact ⟨_, h⟩
  | loop c u x y => obtain ⟨p, _, _, _, _, h, _⟩ := h; exact ⟨_, h⟩
set_option maxHeartbeats 2000000 in
set_option maxRecDepth 100000 in
theorem rt_un (w : World) (n : Nat) (s : ByteArray) (c : UInt8) (r : List UInt8) (hs : s.data.toList = c :: r) (hc : isVar c = false) (hd : isDig c = false) (hu : isUn c = true) (d1 : Op.bytesLess [c] [48] = false) (d2 : (Op.bytesLess [c] [57] || c == 57) = false)
    (ih : ∀ (s : ByteArray) (w : World), s.data.toList.length ≤ n → Calls Try.prog 41 #[.string s] w fun e w' => RT n s.data.toList w e w') (hn : r.length ≤ n) :
    Calls Try.prog 41 #[.string s] w fun e w' => RT (n + 1) (c :: r) w e w' := by
  obtain ⟨hne, h0, h1, R, h2, hR⟩ := cons_parts hs
  have HD := Aside0.mk hd
  have HU := Aside0.mk hu
  have HR := Aside0.mk hR
  unfold isUn at hu
  clear hd hR
  go_enter Try.func41, Try.ntmps41
  go_wp2
  go_quiet (fail)
  go_wp2_with (first | (go_at_call 32; refine (tm_varOk1 _ _).mono ?_; rintro e w' ⟨rfl, rfl⟩) | (go_at_call 56; refine (tm_containsM _ _ _).mono ?_; rintro e w' ⟨rfl, rfl⟩))
  refine (ih R _ (by rw [HR.out]; exact hn)).mono ?_
  rintro e w1 ⟨v, rs, rfl, hb, hres⟩
  have HB := Aside0.mk (show Below w.heap.size w w1 from (pw_below_drewN (Below.refl _ w) nq).trans (hb.mono (Nat.le_refl _)))
  clear hb
  rcases hres with ⟨t, hp, hat⟩ | ⟨hp, rfl⟩
  · obtain ⟨p, rfl⟩ := tm_ptr hat
    have HP := Aside0.mk hp
    have HA := Aside0.mk hat
    clear hp hat
    go_wp2
    go_ret2
    refine ⟨_, _, rfl, (HB.out.alloc HB.out.size _).alloc (Nat.le_trans HB.out.size (by simp)) _, .inl ⟨.un c t, ?_, tm_un_new w1 c _ t HA.out⟩⟩
    have e := HP.out
    rw [HR.out] at e
    simp [parse, hc, HD.out, HU.out, e]
  · have HP := Aside0.mk hp
    clear hp
    go_wp2
    go_ret2
    have e := HP.out
    rw [HR.out] at e
    exact ⟨_, _, rfl, HB.out, .inr ⟨by simp [parse, hc, HD.out, HU.out, e], rfl⟩⟩
theorem tm_bin_new (W : World) (c : UInt8) (xv yv : Value) (x y : Tm) (hx : TmAt W xv x) (hy : TmAt W yv y) : TmAt ((W.alloc (.cells #[xv, yv] 38)).alloc (.cells #[.string (ch c), .string ⟨#[]⟩, .slice (some ⟨W.heap.size, 0, none⟩) 2 2] 58)) (.pointer (some ⟨W.heap.size + 1, 0, none⟩)) (.bin c x y) := by
  rw [show W.heap.size + 1 = (W.alloc (.cells #[xv, yv] 38)).heap.size from by simp]
  refine ⟨_, W.heap.size, xv, yv, 2, rfl, World.cell?_alloc_new _ _ _ _, World.cell?_alloc_new _ _ _ _, World.cell?_alloc_new _ _ _ _, Nat.le_refl _, ?_, ?_, ?_, ?_⟩
  · exact cell_alloc_keep _ _ _ _ (World.cell?_alloc_new _ _ _ _)
  · exact cell_alloc_keep _ _ _ _ (World.cell?_alloc_new _ _ _ _)
  · exact tm_keep (fun p u h => cell_alloc_keep _ _ p u (cell_alloc_keep _ _ p u h)) x xv hx
  · exact tm_keep (fun p u h => cell_alloc_keep _ _ p u (cell_alloc_keep _ _ p u h)) y yv hy
theorem tm_loop_new (W : World) (c v : UInt8) (xv yv : Value) (x y : Tm) (hx : TmAt W xv x) (hy : TmAt W yv y) : TmAt ((W.alloc (.cells #[xv, yv] 38)).alloc (.cells #[.string (ch c), .string (ch v), .slice (some ⟨W.heap.size, 0, none⟩) 2 2] 58)) (.pointer (some ⟨W.heap.size + 1, 0, none⟩)) (.loop c v x y) := by
  rw [show W.heap.size + 1 = (W.alloc (.cells #[xv, yv] 38)).heap.size from by simp]
  refine ⟨_, W.heap.size, xv, yv, 2, rfl, World.cell?_alloc_new _ _ _ _, World.cell?_alloc_new _ _ _ _, World.cell?_alloc_new _ _ _ _, Nat.le_refl _, ?_, ?_, ?_, ?_⟩
  · exact cell_alloc_keep _ _ _ _ (World.cell?_alloc_new _ _ _ _)
  · exact cell_alloc_keep _ _ _ _ (World.cell?_alloc_new _ _ _ _)
  · exact tm_keep (fun p u h => cell_alloc_keep _ _ p u (cell_alloc_keep _ _ p u h)) x xv hx
  · exact tm_keep (fun p u h => cell_alloc_keep _ _ p u (cell_alloc_keep _ _ p u h)) y yv hy
theorem parse_len : ∀ (n : Nat) (l : List UInt8) (t : Tm) (r : List UInt8), parse n l = some (t, r) → r.length < l.length := by
  intro n
  induction n with
  | zero => intro l t r h; cases h
  | succ n ih =>
    intro l t r h
    cases l with
    | nil => cases h
    | cons c l =>
      unfold parse at h
      split at h
      · cases h; simp
      split at h
      · obtain ⟨⟨x, r1⟩, h1, h2⟩ := Option.bind_eq_some_iff.1 h
        cases h2; have := ih _ _ _ h1; simp at *; omega
      split at h
      · obtain ⟨⟨x, r1⟩, h1, h2⟩ := Option.bind_eq_some_iff.1 h
        have k1 := ih _ _ _ h1
        cases r1 with
        | nil => cases h2
        | cons g r1 =>
          simp only at h2
          split at h2
          · obtain ⟨⟨y, r2⟩, h3, h4⟩ := Option.bind_eq_some_iff.1 h2
            have k2 := ih _ _ _ h3
            cases r2 with
            | nil => cases h4
            | cons d r2 =>
              simp only at h4
              split at h4
              · cases h4; simp at *; omega
              · cases h4
          · cases h2
      split at h
      · split at h
        · split at h
          · obtain ⟨⟨x, r1⟩, h1, h2⟩ := Option.bind_eq_some_iff.1 h
            have k1 := ih _ _ _ h1
            cases r1 with
            | nil => cases h2
            | cons g r1 =>
              simp only at h2
              split at h2
              · obtain ⟨⟨y, r2⟩, h3, h4⟩ := Option.bind_eq_some_iff.1 h2
                have k2 := ih _ _ _ h3
                cases r2 with
                | nil => cases h4
                | cons d r2 =>
                  simp only at h4
                  split at h4
                  · cases h4; simp at *; omega
                  · cases h4
              · cases h2
          · cases h
        · cases h
      · cases h
theorem pre1_cons {l : List UInt8} {c : UInt8} (h : pre1 l c = true) : ∃ r, l = c :: r := by
  cases l with
  | nil => cases h
  | cons a t => simp [pre1] at h; exact ⟨t, by rw [h]⟩
theorem pre1_not {l : List UInt8} {c : UInt8} (h : pre1 l c = false) : l = [] ∨ ∃ d r, l = d :: r ∧ ¬ d = c := by
  cases l with
  | nil => exact .inl rfl
  | cons a t => simp [pre1] at h; exact .inr ⟨a, t, rfl, h⟩
/-- What is answered where the text fails. -/
theorem rt_bad {n : Nat} {l : List UInt8} {w w' : World} {s : ByteArray} (hb : Below w.heap.size w w') (hp : parse n l = none) : RT n l w (.returned (.tuple #[.pointer none, .string s])) w' := ⟨_, _, rfl, hb, .inr ⟨hp, rfl⟩⟩
set_option maxHeartbeats 4000000 in
set_option maxRecDepth 100000 in
theorem rt_bin (w : World) (n : Nat) (s : ByteArray) (r : List UInt8) (hs : s.data.toList = 40 :: r)
    (ih : ∀ (s : ByteArray) (w : World), s.data.toList.length ≤ n → Calls Try.prog 41 #[.string s] w fun e w' => RT n s.data.toList w e w') (hn : r.length ≤ n) :
    Calls Try.prog 41 #[.string s] w fun e w' => RT (n + 1) (40 :: r) w e w' := by
  obtain ⟨hne, h0, h1, R, h2, hR⟩ := cons_parts hs
  have HR := Aside0.mk hR
  have hc : isVar 40 = false := by decide
  have hd : isDig 40 = false := by decide
  have hu : isUn 40 = false := by decide
  have hu' : mem1 [83, 77, 73, 78, 82, 67, 80] 40 = false := by decide
  have HC := Aside0.mk (And.intro hd hu)
  have HN := Aside0.mk hn
  clear hR hd hu hn
  go_enter Try.func41, Try.ntmps41
  go_wp2
  go_quiet (fail)
  go_wp2_with (first | (go_at_call 32; refine (tm_varOk1 _ _).mono ?_; rintro e w' ⟨rfl, rfl⟩) | (go_at_call 56; refine (tm_containsM _ _ _).mono ?_; rintro e w' ⟨rfl, rfl⟩))
  refine (ih R _ (by rw [HR.out]; exact HN.out)).mono ?_
  rintro e w1 ⟨v, rs, rfl, hb, hres⟩
  have HB := Aside0.mk (show Below w.heap.size w w1 from (pw_below_drewN (Below.refl _ w) nq).trans (hb.mono (Nat.le_refl _)))
  clear hb
  rcases hres with ⟨t, hp, hat⟩ | ⟨hp, rfl⟩
  case inr =>
    have HP := Aside0.mk hp
    clear hp
    go_wp2
    go_ret2
    have e := HP.out
    rw [HR.out] at e
    exact rt_bad HB.out (by simp [parse, hc, HC.out, e])
  obtain ⟨p, rfl⟩ := tm_ptr hat
  have HP := Aside0.mk hp
  have HA := Aside0.mk hat
  clear hp hat
  rcases hl : rs.data.toList with _ | ⟨sg, r1⟩
  · have he : rs.toList.isEmpty = true := by rw [Lib.toList_data, hl]; rfl
    have HL := Aside0.mk hl
    clear hl
    go_wp2
    go_ret2
    have e := HP.out
    rw [HR.out, HL.out] at e
    exact rt_bad HB.out (by simp [parse, hc, HC.out, e])
  obtain ⟨hne1, h01, h11, R1, h21, hR1⟩ := cons_parts hl
  have HL := Aside0.mk hl
  have HR1 := Aside0.mk hR1
  clear hl hR1
  cases hg : mem1 [43, 42, 94, 45, 61, 60, 64] sg with
  | false =>
    have HG := Aside0.mk (show isBin sg = false from hg)
    go_wp2_with (go_at_call 56; refine (tm_containsM _ _ _).mono ?_; rintro e w' ⟨rfl, rfl⟩)
    go_ret2
    have e := HP.out
    rw [HR.out, HL.out] at e
    exact rt_bad HB.out (by simp [parse, hc, HC.out, e, HG.out])
  | true =>
    have HG := Aside0.mk (show isBin sg = true from hg)
    go_wp2_with (go_at_call 56; refine (tm_containsM _ _ _).mono ?_; rintro e w' ⟨rfl, rfl⟩)
    refine (ih R1 _ (by have := parse_len _ _ _ _ HP.out; have := HN.out; rw [HR.out] at *; rw [HL.out] at *; rw [HR1.out]; simp at *; omega)).mono ?_
    rintro e w2 ⟨v2, rs2, rfl, hb2, hres2⟩
    have HB2 := Aside0.mk (show Below w.heap.size w w2 from HB.out.trans (hb2.mono HB.out.size))
    have HA1 := Aside0.mk (tm_below hb2 HA.out)
    clear hb2 HA HB
    rcases hres2 with ⟨t2, hp2, hat2⟩ | ⟨hp2, rfl⟩
    case inr =>
      have HP2 := Aside0.mk hp2
      clear hp2
      go_wp2
      go_ret2
      have e := HP.out
      rw [HR.out, HL.out] at e
      have e2 := HP2.out
      rw [HR1.out] at e2
      exact rt_bad HB2.out (by simp [parse, hc, HC.out, e, HG.out, e2])
    obtain ⟨p2, rfl⟩ := tm_ptr hat2
    have HP2 := Aside0.mk hp2
    have HA2 := Aside0.mk hat2
    clear hp2 hat2
    cases hq : pre1 rs2.data.toList 41 with
    | false =>
      have HQ := Aside0.mk hq
      go_wp2_with (go_at_call 60; refine (tm_prefix1 _ _ _).mono ?_; rintro e w' ⟨rfl, rfl⟩)
      go_ret2
      have e := HP.out
      rw [HR.out, HL.out] at e
      have e2 := HP2.out
      rw [HR1.out] at e2
      refine rt_bad HB2.out ?_
      have hq := HQ.out
      cases hz : rs2.data.toList with
      | nil => rw [hz] at e2; simp [parse, hc, HC.out, e, HG.out, e2]
      | cons d u =>
        rw [hz] at e2 hq
        have hd : ¬ d = 41 := by intro h; subst h; simp [pre1] at hq
        simp [parse, hc, HC.out, e, HG.out, e2, hd]
    | true =>
      have HQ := Aside0.mk hq
      obtain ⟨r2, hl2⟩ : ∃ r2, rs2.data.toList = 41 :: r2 := pre1_cons hq
      obtain ⟨hne2, h02, h12, R2, h22, hR2⟩ := cons_parts hl2
      have HL2 := Aside0.mk hl2
      have HR2 := Aside0.mk hR2
      clear hl2 hR2
      go_wp2_with (go_at_call 60; refine (tm_prefix1 _ _ _).mono ?_; rintro e w' ⟨rfl, rfl⟩)
      go_region
      go_wp2
      go_ret2
      have e := HP.out
      rw [HR.out, HL.out] at e
      have e2 := HP2.out
      rw [HR1.out, HL2.out] at e2
      refine ⟨_, _, rfl, ((HB2.out.alloc HB2.out.size _).alloc (Nat.le_trans HB2.out.size (by simp)) _).drew, .inl ⟨.bin sg t t2, ?_, tm_drew (tm_bin_new _ sg _ _ t t2 HA1.out HA2.out)⟩⟩
      simp [parse, hc, HC.out, e, HG.out, e2, HR2.out]
set_option maxHeartbeats 4000000 in
set_option maxRecDepth 100000 in
theorem rt_none (w : World) (n : Nat) (s : ByteArray) (c : UInt8) (r : List UInt8) (hs : s.data.toList = c :: r) (hc : isVar c = false) (hd : isDig c = false) (hu : isUn c = false) (h40 : ¬ c = 40) (h91 : ¬ c = 91) (h123 : ¬ c = 123) :
    Calls Try.prog 41 #[.string s] w fun e w' => RT (n + 1) (c :: r) w e w' := by
  obtain ⟨hne, h0, h1, R, h2, hR⟩ := cons_parts hs
  have HP := Aside0.mk (show parse (n + 1) (c :: r) = none from by simp [parse, hc, hd, hu, h40, h91, h123])
  have hu' : mem1 [83, 77, 73, 78, 82, 67, 80] c = false := hu
  have e40 : (c == 40) = false := by simp [h40]
  have e91 : (c == 91) = false := by simp [h91]
  have e123 : (c == 123) = false := by simp [h123]
  have hd' : Op.bytesLess [c] [48] = true ∨ Op.bytesLess [c] [48] = false ∧ (Op.bytesLess [c] [57] || c == 57) = false := by
    rw [bl48, bl57]
    by_cases h : c < 48
    · exact .inl (by simp [h])
    · refine .inr ⟨by simp [h], ?_⟩
      simp only [isDig, Bool.and_eq_false_iff, decide_eq_false_iff_not] at hd
      rcases hd with hd | hd
      · exact absurd (UInt8.not_lt.1 h) hd
      · simp [hd]
  clear hd hu
  rcases hd' with d1 | ⟨d1, d2⟩
  · go_enter Try.func41, Try.ntmps41
    go_wp2
    go_quiet (fail)
    go_wp2_with (first | (go_at_call 32; refine (tm_varOk1 _ _).mono ?_; rintro e w' ⟨rfl, rfl⟩) | (go_at_call 56; refine (tm_containsM _ _ _).mono ?_; rintro e w' ⟨rfl, rfl⟩))
    go_ret2
    exact rt_bad (pw_below_drewN (Below.refl _ w) nq) HP.out
  · go_enter Try.func41, Try.ntmps41
    go_wp2
    go_quiet (fail)
    go_wp2_with (first | (go_at_call 32; refine (tm_varOk1 _ _).mono ?_; rintro e w' ⟨rfl, rfl⟩) | (go_at_call 56; refine (tm_containsM _ _ _).mono ?_; rintro e w' ⟨rfl, rfl⟩))
    go_ret2
    exact rt_bad (pw_below_drewN (Below.refl _ w) nq) HP.out
theorem byte_at {R : ByteArray} {l : List UInt8} (h : R.data.toList = l) (i : Nat) (x : UInt8) (hx : l[i]? = some x) (hi : i < R.size) : R[i] = x := by
  subst h
  have : R.data.toList[i]? = some (R[i]) := by
    rw [Array.getElem?_toList]
    exact Array.getElem?_eq_getElem (xs := R.data) hi
  rw [this] at hx; exact Option.some.inj hx
theorem drop2 {R : ByteArray} {a b : UInt8} {r : List UInt8} (h : R.data.toList = a :: b :: r) : True ∧ (R.extract 2 R.size).data.toList = r := by
  have hz : R.size = r.length + 2 := by rw [← ByteArray.size_data, ← Array.length_toList, h]; rfl
  refine ⟨trivial, ?_⟩
  rw [ByteArray.data_extract, Array.toList_extract, h, hz]; simp
set_option maxHeartbeats 4000000 in
set_option maxRecDepth 100000 in
theorem rt_lbad91 (w : World) (n : Nat) (s : ByteArray) (r : List UInt8) (hs : s.data.toList = 91 :: r)
    (hbad : r.length < 2 ∨ ∃ v k u, r = v :: k :: u ∧ (isBound v = false ∨ ¬ k = 58)) :
    Calls Try.prog 41 #[.string s] w fun e w' => RT (n + 1) (91 :: r) w e w' := by
  obtain ⟨hne, h0, h1, R, h2, hR⟩ := cons_parts hs
  have hc : isVar 91 = false := by decide
  have hd : isDig 91 = false := by decide
  have hu : isUn 91 = false := by decide
  have hu' : mem1 [83, 77, 73, 78, 82, 67, 80] 91 = false := by decide
  have HP := Aside0.mk (show parse (n + 1) (91 :: r) = none from by
    rcases hbad with h | ⟨v, k, u, rfl, h⟩
    · rcases r with _ | ⟨v, _ | ⟨k, u⟩⟩
      · simp [parse, hc, hd, hu]
      · simp [parse, hc, hd, hu]
      · simp at h; omega
    · rcases h with h | h <;> simp [parse, hc, hd, hu, h])
  have hz : R.size = r.length := by rw [← ByteArray.size_data, ← Array.length_toList, hR]
  have HB : Aside0 (((R.size : Int) < 2) ∨ ∃ v k u, r = v :: k :: u ∧ (2 ≤ (R.size : Int)) ∧ (1 < (R.size : Int)) ∧ (∃ h : 0 < R.size, R[0] = v) ∧ (∃ h : 1 < R.size, R[1] = k) ∧ (((v.toNat : Int) < 118) ∨ (118 ≤ (v.toNat : Int) ∧ 122 < (v.toNat : Int)) ∨ (118 ≤ (v.toNat : Int) ∧ (v.toNat : Int) ≤ 122 ∧ ((k.toNat : Int) != 58) = true))) := ⟨by
    rcases hbad with h | ⟨v, k, u, rfl, h⟩
    · left; omega
    · right
      have g0 : 0 < R.size := by rw [hz]; simp
      have g1 : 1 < R.size := by rw [hz]; simp
      refine ⟨v, k, u, rfl, by omega, by omega, ⟨g0, byte_at hR 0 _ rfl g0⟩, ⟨g1, byte_at hR 1 _ rfl g1⟩, ?_⟩
      by_cases b1 : (v.toNat : Int) < 118
      · exact .inl b1
      by_cases b2 : (v.toNat : Int) ≤ 122
      · refine .inr (.inr ⟨by omega, b2, ?_⟩)
        rcases h with h | h
        · exfalso; simp only [isBound, Bool.and_eq_false_iff, decide_eq_false_iff_not, UInt8.le_iff_toNat_le] at h; simp at h; omega
        · simp; intro e; apply h; apply UInt8.toNat_inj.1; simpa using (by omega : k.toNat = 58)
      · exact .inr (.inl ⟨by omega, by omega⟩)⟩
  clear hd hu hbad hR hz
  rcases HB.out with b | ⟨v, k, u, rfl, b2, b3, ⟨g0, e0⟩, ⟨g1, e1⟩, b⟩
  · go_enter Try.func41, Try.ntmps41
    go_wp2
    go_quiet (fail)
    go_wp2_with (first | (go_at_call 32; refine (tm_varOk1 _ _).mono ?_; rintro e w' ⟨rfl, rfl⟩) | (go_at_call 56; refine (tm_containsM _ _ _).mono ?_; rintro e w' ⟨rfl, rfl⟩))
    go_ret2
    exact rt_bad (pw_below_drewN (Below.refl _ w) nq) HP.out
  rcases b with b | ⟨b4, b⟩ | ⟨b4, b5, b⟩
  all_goals
    go_enter Try.func41, Try.ntmps41
    go_wp2
    go_quiet (fail)
    go_wp2_with (first | (go_at_call 32; refine (tm_varOk1 _ _).mono ?_; rintro e w' ⟨rfl, rfl⟩) | (go_at_call 56; refine (tm_containsM _ _ _).mono ?_; rintro e w' ⟨rfl, rfl⟩))
    go_ret2
    exact rt_bad (pw_below_drewN (Below.refl _ w) nq) HP.out
set_option maxHeartbeats 4000000 in
set_option maxRecDepth 100000 in
theorem rt_lbad123 (w : World) (n : Nat) (s : ByteArray) (r : List UInt8) (hs : s.data.toList = 123 :: r)
    (hbad : r.length < 2 ∨ ∃ v k u, r = v :: k :: u ∧ (isBound v = false ∨ ¬ k = 58)) :
    Calls Try.prog 41 #[.string s] w fun e w' => RT (n + 1) (123 :: r) w e w' := by
  obtain ⟨hne, h0, h1, R, h2, hR⟩ := cons_parts hs
  have hc : isVar 123 = false := by decide
  have hd : isDig 123 = false := by decide
  have hu : isUn 123 = false := by decide
  have hu' : mem1 [83, 77, 73, 78, 82, 67, 80] 123 = false := by decide
  have HP := Aside0.mk (show parse (n + 1) (123 :: r) = none from by
    rcases hbad with h | ⟨v, k, u, rfl, h⟩
    · rcases r with _ | ⟨v, _ | ⟨k, u⟩⟩
      · simp [parse, hc, hd, hu]
      · simp [parse, hc, hd, hu]
      · simp at h; omega
    · rcases h with h | h <;> simp [parse, hc, hd, hu, h])
  have hz : R.size = r.length := by rw [← ByteArray.size_data, ← Array.length_toList, hR]
  have HB : Aside0 (((R.size : Int) < 2) ∨ ∃ v k u, r = v :: k :: u ∧ (2 ≤ (R.size : Int)) ∧ (1 < (R.size : Int)) ∧ (∃ h : 0 < R.size, R[0] = v) ∧ (∃ h : 1 < R.size, R[1] = k) ∧ (((v.toNat : Int) < 118) ∨ (118 ≤ (v.toNat : Int) ∧ 122 < (v.toNat : Int)) ∨ (118 ≤ (v.toNat : Int) ∧ (v.toNat : Int) ≤ 122 ∧ ((k.toNat : Int) != 58) = true))) := ⟨by
    rcases hbad with h | ⟨v, k, u, rfl, h⟩
    · left; omega
    · right
      have g0 : 0 < R.size := by rw [hz]; simp
      have g1 : 1 < R.size := by rw [hz]; simp
      refine ⟨v, k, u, rfl, by omega, by omega, ⟨g0, byte_at hR 0 _ rfl g0⟩, ⟨g1, byte_at hR 1 _ rfl g1⟩, ?_⟩
      by_cases b1 : (v.toNat : Int) < 118
      · exact .inl b1
      by_cases b2 : (v.toNat : Int) ≤ 122
      · refine .inr (.inr ⟨by omega, b2, ?_⟩)
        rcases h with h | h
        · exfalso; simp only [isBound, Bool.and_eq_false_iff, decide_eq_false_iff_not, UInt8.le_iff_toNat_le] at h; simp at h; omega
        · simp; intro e; apply h; apply UInt8.toNat_inj.1; simpa using (by omega : k.toNat = 58)
      · exact .inr (.inl ⟨by omega, by omega⟩)⟩
  clear hd hu hbad hR hz
  rcases HB.out with b | ⟨v, k, u, rfl, b2, b3, ⟨g0, e0⟩, ⟨g1, e1⟩, b⟩
  · go_enter Try.func41, Try.ntmps41
    go_wp2
    go_quiet (fail)
    go_wp2_with (first | (go_at_call 32; refine (tm_varOk1 _ _).mono ?_; rintro e w' ⟨rfl, rfl⟩) | (go_at_call 56; refine (tm_containsM _ _ _).mono ?_; rintro e w' ⟨rfl, rfl⟩))
    go_ret2
    exact rt_bad (pw_below_drewN (Below.refl _ w) nq) HP.out
  rcases b with b | ⟨b4, b⟩ | ⟨b4, b5, b⟩
  all_goals
    go_enter Try.func41, Try.ntmps41
    go_wp2
    go_quiet (fail)
    go_wp2_with (first | (go_at_call 32; refine (tm_varOk1 _ _).mono ?_; rintro e w' ⟨rfl, rfl⟩) | (go_at_call 56; refine (tm_containsM _ _ _).mono ?_; rintro e w' ⟨rfl, rfl⟩))
    go_ret2
    exact rt_bad (pw_below_drewN (Below.refl _ w) nq) HP.out
set_option maxHeartbeats 4000000 in
set_option maxRecDepth 100000 in
theorem rt_loop91 (w : World) (n : Nat) (s : ByteArray) (v : UInt8) (r : List UInt8) (hs : s.data.toList = 91 :: v :: 58 :: r) (hv : isBound v = true)
    (ih : ∀ (s : ByteArray) (w : World), s.data.toList.length ≤ n → Calls Try.prog 41 #[.string s] w fun e w' => RT n s.data.toList w e w') (hn : r.length + 2 ≤ n) :
    Calls Try.prog 41 #[.string s] w fun e w' => RT (n + 1) (91 :: v :: 58 :: r) w e w' := by
  obtain ⟨hne, h0, h1, R, h2, hR⟩ := cons_parts hs
  obtain ⟨_, _, k1, R', k2, hR'⟩ := cons_parts hR
  obtain ⟨k3, hR3⟩ := drop2 hR
  have hc : isVar 91 = false := by decide
  have hd : isDig 91 = false := by decide
  have hu : isUn 91 = false := by decide
  have hu' : mem1 [83, 77, 73, 78, 82, 67, 80] 91 = false := by decide
  have HC := Aside0.mk (And.intro hd hu)
  have HN := Aside0.mk hn
  have HV := Aside0.mk hv
  have hz : R.size = r.length + 2 := by rw [← ByteArray.size_data, ← Array.length_toList, hR]; rfl
  have g0 : 0 < R.size := by omega
  have g1 : 1 < R.size := by omega
  have g2 : (2 : Int) ≤ (R.size : Int) := by omega
  have g3 : (1 : Int) < (R.size : Int) := by omega
  have e0 : R[0] = v := byte_at hR 0 _ rfl g0
  have e1 : R[1] = 58 := byte_at hR 1 _ rfl g1
  have b1 : 118 ≤ (v.toNat : Int) := by simp only [isBound, Bool.and_eq_true, decide_eq_true_eq, UInt8.le_iff_toNat_le] at hv; have := hv.1; simp at this; omega
  have b2 : (v.toNat : Int) ≤ 122 := by simp only [isBound, Bool.and_eq_true, decide_eq_true_eq, UInt8.le_iff_toNat_le] at hv; have := hv.2; simp at this; omega
  obtain ⟨R3, hR3e⟩ : ∃ R3, R3 = R.extract 2 R.size := ⟨_, rfl⟩
  rw [← hR3e] at hR3
  have k4 : R.extract 2 R.size = R3 := hR3e.symm
  have HR3 := Aside0.mk hR3
  clear hR hd hu hn hv hR' k2 hz hR3e hR3 k3
  go_enter Try.func41, Try.ntmps41
  go_wp2
  go_quiet (fail)
  go_wp2_with (first | (go_at_call 32; refine (tm_varOk1 _ _).mono ?_; rintro e w' ⟨rfl, rfl⟩) | (go_at_call 56; refine (tm_containsM _ _ _).mono ?_; rintro e w' ⟨rfl, rfl⟩))
  refine (ih R3 _ (by rw [HR3.out]; have := HN.out; omega)).mono ?_
  rintro e w1 ⟨v1, rs, rfl, hb, hres⟩
  have HB := Aside0.mk (show Below w.heap.size w w1 from (pw_below_drewN (Below.refl _ w) nq).trans (hb.mono (Nat.le_refl _)))
  clear hb
  rcases hres with ⟨t, hp, hat⟩ | ⟨hp, rfl⟩
  case inr =>
    have HP := Aside0.mk hp
    clear hp
    go_wp2
    go_ret2
    have e := HP.out
    rw [HR3.out] at e
    exact rt_bad HB.out (by simp [parse, hc, HC.out, HV.out, e])
  obtain ⟨p, rfl⟩ := tm_ptr hat
  have HP := Aside0.mk hp
  have HA := Aside0.mk hat
  clear hp hat
  cases hq : pre1 rs.data.toList 62 with
  | false =>
    have HQ := Aside0.mk hq
    go_wp2_with (go_at_call 60; refine (tm_prefix1 _ _ _).mono ?_; rintro e w' ⟨rfl, rfl⟩)
    go_ret2
    have e := HP.out
    rw [HR3.out] at e
    refine rt_bad HB.out ?_
    rcases pre1_not HQ.out with hz | ⟨d, u, hz, hd⟩
    · rw [hz] at e; simp [parse, hc, HC.out, HV.out, e]
    · rw [hz] at e; simp [parse, hc, HC.out, HV.out, e, hd]
  | true =>
    have HQ := Aside0.mk hq
    obtain ⟨r1, hl⟩ := pre1_cons hq
    obtain ⟨hne1, h01, h11, R1, h21, hR1⟩ := cons_parts hl
    have HL := Aside0.mk hl
    have HR1 := Aside0.mk hR1
    clear hl hR1
    go_wp2_with (go_at_call 60; refine (tm_prefix1 _ _ _).mono ?_; rintro e w' ⟨rfl, rfl⟩)
    refine (ih R1 _ (by have := parse_len _ _ _ _ HP.out; have := HN.out; rw [HR3.out] at *; rw [HL.out] at *; rw [HR1.out]; simp at *; omega)).mono ?_
    rintro e w2 ⟨v2, rs2, rfl, hb2, hres2⟩
    have HB2 := Aside0.mk (show Below w.heap.size w w2 from HB.out.trans (hb2.mono HB.out.size))
    have HA1 := Aside0.mk (tm_below hb2 HA.out)
    clear hb2 HA HB
    rcases hres2 with ⟨t2, hp2, hat2⟩ | ⟨hp2, rfl⟩
    case inr =>
      have HP2 := Aside0.mk hp2
      clear hp2
      go_wp2
      go_ret2
      have e := HP.out
      rw [HR3.out, HL.out] at e
      have e2 := HP2.out
      rw [HR1.out] at e2
      exact rt_bad HB2.out (by simp [parse, hc, HC.out, HV.out, e, e2])
    obtain ⟨p2, rfl⟩ := tm_ptr hat2
    have HP2 := Aside0.mk hp2
    have HA2 := Aside0.mk hat2
    clear hp2 hat2
    cases hq2 : pre1 rs2.data.toList 93 with
    | false =>
      have HQ2 := Aside0.mk hq2
      go_wp2_with (first | (go_at_call 55; refine (tm_ends91 _).mono ?_; rintro e w' ⟨rfl, rfl⟩) | (go_at_call 60; refine (tm_prefix1 _ _ _).mono ?_; rintro e w' ⟨rfl, rfl⟩))
      go_ret2
      have e := HP.out
      rw [HR3.out, HL.out] at e
      have e2 := HP2.out
      rw [HR1.out] at e2
      refine rt_bad HB2.out ?_
      rcases pre1_not HQ2.out with hz | ⟨d, u, hz, hd⟩
      · rw [hz] at e2; simp [parse, hc, HC.out, HV.out, e, e2]
      · rw [hz] at e2; simp [parse, hc, HC.out, HV.out, e, e2, hd]
    | true =>
      have HQ2 := Aside0.mk hq2
      obtain ⟨r2, hl2⟩ := pre1_cons hq2
      obtain ⟨hne2, h02, h12, R2, h22, hR2⟩ := cons_parts hl2
      have HL2 := Aside0.mk hl2
      have HR2 := Aside0.mk hR2
      clear hl2 hR2
      go_wp2_with (first | (go_at_call 55; refine (tm_ends91 _).mono ?_; rintro e w' ⟨rfl, rfl⟩) | (go_at_call 60; refine (tm_prefix1 _ _ _).mono ?_; rintro e w' ⟨rfl, rfl⟩))
      go_region
      go_wp2
      go_ret2
      have e := HP.out
      rw [HR3.out, HL.out] at e
      have e2 := HP2.out
      rw [HR1.out, HL2.out] at e2
      refine ⟨_, _, rfl, ((HB2.out.alloc HB2.out.size _).alloc (Nat.le_trans HB2.out.size (by simp)) _).drew, .inl ⟨.loop 91 v t t2, ?_, tm_drew (tm_loop_new _ 91 v _ _ t t2 HA1.out HA2.out)⟩⟩
      simp [parse, hc, HC.out, HV.out, e, e2, HR2.out]
set_option maxHeartbeats 4000000 in
set_option maxRecDepth 100000 in
theorem rt_loop123 (w : World) (n : Nat) (s : ByteArray) (v : UInt8) (r : List UInt8) (hs : s.data.toList = 123 :: v :: 58 :: r) (hv : isBound v = true)
    (ih : ∀ (s : ByteArray) (w : World), s.data.toList.length ≤ n → Calls Try.prog 41 #[.string s] w fun e w' => RT n s.data.toList w e w') (hn : r.length + 2 ≤ n) :
    Calls Try.prog 41 #[.string s] w fun e w' => RT (n + 1) (123 :: v :: 58 :: r) w e w' := by
  obtain ⟨hne, h0, h1, R, h2, hR⟩ := cons_parts hs
  obtain ⟨_, _, k1, R', k2, hR'⟩ := cons_parts hR
  obtain ⟨k3, hR3⟩ := drop2 hR
  have hc : isVar 123 = false := by decide
  have hd : isDig 123 = false := by decide
  have hu : isUn 123 = false := by decide
  have hu' : mem1 [83, 77, 73, 78, 82, 67, 80] 123 = false := by decide
  have HC := Aside0.mk (And.intro hd hu)
  have HN := Aside0.mk hn
  have HV := Aside0.mk hv
  have hz : R.size = r.length + 2 := by rw [← ByteArray.size_data, ← Array.length_toList, hR]; rfl
  have g0 : 0 < R.size := by omega
  have g1 : 1 < R.size := by omega
  have g2 : (2 : Int) ≤ (R.size : Int) := by omega
  have g3 : (1 : Int) < (R.size : Int) := by omega
  have e0 : R[0] = v := byte_at hR 0 _ rfl g0
  have e1 : R[1] = 58 := byte_at hR 1 _ rfl g1
  have b1 : 118 ≤ (v.toNat : Int) := by simp only [isBound, Bool.and_eq_true, decide_eq_true_eq, UInt8.le_iff_toNat_le] at hv; have := hv.1; simp at this; omega
  have b2 : (v.toNat : Int) ≤ 122 := by simp only [isBound, Bool.and_eq_true, decide_eq_true_eq, UInt8.le_iff_toNat_le] at hv; have := hv.2; simp at this; omega
  obtain ⟨R3, hR3e⟩ : ∃ R3, R3 = R.extract 2 R.size := ⟨_, rfl⟩
  rw [← hR3e] at hR3
  have k4 : R.extract 2 R.size = R3 := hR3e.symm
  have HR3 := Aside0.mk hR3
  clear hR hd hu hn hv hR' k2 hz hR3e hR3 k3
  go_enter Try.func41, Try.ntmps41
  go_wp2
  go_quiet (fail)
  go_wp2_with (first | (go_at_call 32; refine (tm_varOk1 _ _).mono ?_; rintro e w' ⟨rfl, rfl⟩) | (go_at_call 56; refine (tm_containsM _ _ _).mono ?_; rintro e w' ⟨rfl, rfl⟩))
  refine (ih R3 _ (by rw [HR3.out]; have := HN.out; omega)).mono ?_
  rintro e w1 ⟨v1, rs, rfl, hb, hres⟩
  have HB := Aside0.mk (show Below w.heap.size w w1 from (pw_below_drewN (Below.refl _ w) nq).trans (hb.mono (Nat.le_refl _)))
  clear hb
  rcases hres with ⟨t, hp, hat⟩ | ⟨hp, rfl⟩
  case inr =>
    have HP := Aside0.mk hp
    clear hp
    go_wp2
    go_ret2
    have e := HP.out
    rw [HR3.out] at e
    exact rt_bad HB.out (by simp [parse, hc, HC.out, HV.out, e])
  obtain ⟨p, rfl⟩ := tm_ptr hat
  have HP := Aside0.mk hp
  have HA := Aside0.mk hat
  clear hp hat
  cases hq : pre1 rs.data.toList 62 with
  | false =>
    have HQ := Aside0.mk hq
    go_wp2_with (go_at_call 60; refine (tm_prefix1 _ _ _).mono ?_; rintro e w' ⟨rfl, rfl⟩)
    go_ret2
    have e := HP.out
    rw [HR3.out] at e
    refine rt_bad HB.out ?_
    rcases pre1_not HQ.out with hz | ⟨d, u, hz, hd⟩
    · rw [hz] at e; simp [parse, hc, HC.out, HV.out, e]
    · rw [hz] at e; simp [parse, hc, HC.out, HV.out, e, hd]
  | true =>
    have HQ := Aside0.mk hq
    obtain ⟨r1, hl⟩ := pre1_cons hq
    obtain ⟨hne1, h01, h11, R1, h21, hR1⟩ := cons_parts hl
    have HL := Aside0.mk hl
    have HR1 := Aside0.mk hR1
    clear hl hR1
    go_wp2_with (go_at_call 60; refine (tm_prefix1 _ _ _).mono ?_; rintro e w' ⟨rfl, rfl⟩)
    refine (ih R1 _ (by have := parse_len _ _ _ _ HP.out; have := HN.out; rw [HR3.out] at *; rw [HL.out] at *; rw [HR1.out]; simp at *; omega)).mono ?_
    rintro e w2 ⟨v2, rs2, rfl, hb2, hres2⟩
    have HB2 := Aside0.mk (show Below w.heap.size w w2 from HB.out.trans (hb2.mono HB.out.size))
    have HA1 := Aside0.mk (tm_below hb2 HA.out)
    clear hb2 HA HB
    rcases hres2 with ⟨t2, hp2, hat2⟩ | ⟨hp2, rfl⟩
    case inr =>
      have HP2 := Aside0.mk hp2
      clear hp2
      go_wp2
      go_ret2
      have e := HP.out
      rw [HR3.out, HL.out] at e
      have e2 := HP2.out
      rw [HR1.out] at e2
      exact rt_bad HB2.out (by simp [parse, hc, HC.out, HV.out, e, e2])
    obtain ⟨p2, rfl⟩ := tm_ptr hat2
    have HP2 := Aside0.mk hp2
    have HA2 := Aside0.mk hat2
    clear hp2 hat2
    cases hq2 : pre1 rs2.data.toList 125 with
    | false =>
      have HQ2 := Aside0.mk hq2
      go_wp2_with (first | (go_at_call 55; refine (tm_ends123 _).mono ?_; rintro e w' ⟨rfl, rfl⟩) | (go_at_call 60; refine (tm_prefix1 _ _ _).mono ?_; rintro e w' ⟨rfl, rfl⟩))
      go_ret2
      have e := HP.out
      rw [HR3.out, HL.out] at e
      have e2 := HP2.out
      rw [HR1.out] at e2
      refine rt_bad HB2.out ?_
      rcases pre1_not HQ2.out with hz | ⟨d, u, hz, hd⟩
      · rw [hz] at e2; simp [parse, hc, HC.out, HV.out, e, e2]
      · rw [hz] at e2; simp [parse, hc, HC.out, HV.out, e, e2, hd]
    | true =>
      have HQ2 := Aside0.mk hq2
      obtain ⟨r2, hl2⟩ := pre1_cons hq2
      obtain ⟨hne2, h02, h12, R2, h22, hR2⟩ := cons_parts hl2
      have HL2 := Aside0.mk hl2
      have HR2 := Aside0.mk hR2
      clear hl2 hR2
      go_wp2_with (first | (go_at_call 55; refine (tm_ends123 _).mono ?_; rintro e w' ⟨rfl, rfl⟩) | (go_at_call 60; refine (tm_prefix1 _ _ _).mono ?_; rintro e w' ⟨rfl, rfl⟩))
      go_region
      go_wp2
      go_ret2
      have e := HP.out
      rw [HR3.out, HL.out] at e
      have e2 := HP2.out
      rw [HR1.out, HL2.out] at e2
      refine ⟨_, _, rfl, ((HB2.out.alloc HB2.out.size _).alloc (Nat.le_trans HB2.out.size (by simp)) _).drew, .inl ⟨.loop 123 v t t2, ?_, tm_drew (tm_loop_new _ 123 v _ _ t t2 HA1.out HA2.out)⟩⟩
      simp [parse, hc, HC.out, HV.out, e, e2, HR2.out]
theorem readTerm_walk : ∀ (n : Nat) (s : ByteArray) (w : World), s.data.toList.length ≤ n → Calls Try.prog 41 #[.string s] w fun e w' => RT n s.data.toList w e w' := by
  intro n
  induction n with
  | zero =>
    intro s w h
    have : s = ⟨#[]⟩ := by
      apply ByteArray.ext; apply Array.toList_inj.1
      exact List.length_eq_zero_iff.1 (by omega)
    subst this
    exact rt_nil w 0
  | succ n ih =>
    intro s w h
    cases hs : s.data.toList with
    | nil =>
      have : s = ⟨#[]⟩ := by
        apply ByteArray.ext; apply Array.toList_inj.1; exact hs
      subst this
      exact rt_nil w (n + 1)
    | cons c r =>
      rw [hs] at h
      have hn : r.length ≤ n := by simpa using h
      cases hc : isVar c with
      | true => exact rt_leaf w n s c r hs hc
      | false =>
        cases hd : isDig c with
        | true => exact rt_dig w n s c r hs hc hd
        | false =>
          cases hu : isUn c with
          | true =>
            have hk : 57 < c.toNat := by
              simp only [isUn, mem1, List.contains_iff_mem, List.mem_cons, List.not_mem_nil, or_false] at hu
              rcases hu with rfl | rfl | rfl | rfl | rfl | rfl | rfl <;> decide
            exact rt_un w n s c r hs hc hd hu (by rw [bl48]; simp [UInt8.lt_iff_toNat_lt]; omega) (by rw [bl57]; simp [UInt8.lt_iff_toNat_lt]; omega) ih hn
          | false =>
            by_cases h40 : c = 40
            · subst h40; exact rt_bin w n s r hs ih hn
            by_cases h91 : c = 91
            · subst h91
              by_cases hb : r.length < 2 ∨ ∃ v k u, r = v :: k :: u ∧ (isBound v = false ∨ ¬ k = 58)
              · exact rt_lbad91 w n s r hs hb
              · rcases r with _ | ⟨v, _ | ⟨k, r⟩⟩
                · exact absurd (.inl (by simp)) hb
                · exact absurd (.inl (by simp)) hb
                · have h1 : isBound v = true := by cases h : isBound v; exact absurd (.inr ⟨v, k, r, rfl, .inl h⟩) hb; rfl
                  have h2 : k = 58 := Classical.byContradiction fun h => hb (.inr ⟨v, k, r, rfl, .inr h⟩)
                  subst h2
                  exact rt_loop91 w n s v r hs h1 ih (by simpa using hn)
            by_cases h123 : c = 123
            · subst h123
              by_cases hb : r.length < 2 ∨ ∃ v k u, r = v :: k :: u ∧ (isBound v = false ∨ ¬ k = 58)
              · exact rt_lbad123 w n s r hs hb
              · rcases r with _ | ⟨v, _ | ⟨k, r⟩⟩
                · exact absurd (.inl (by simp)) hb
                · exact absurd (.inl (by simp)) hb
                · have h1 : isBound v = true := by cases h : isBound v; exact absurd (.inr ⟨v, k, r, rfl, .inl h⟩) hb; rfl
                  have h2 : k = 58 := Classical.byContradiction fun h => hb (.inr ⟨v, k, r, rfl, .inr h⟩)
                  subst h2
                  exact rt_loop123 w n s v r hs h1 ih (by simpa using hn)
            exact rt_none w n s c r hs hc hd hu h40 h91 h123
end Go.Proofs.YtpklhagedifglaaW.PrintMore
