/-
  Cut to what this claim uses.
-/
import Derived.Sort.LotA
namespace Go.Proofs.YteijndaldkkpfaaW.Stab
open Go.Sort
set_option linter.unusedVariables false
set_option linter.unusedSectionVars false
variable {α : Type} [Inhabited α]
def swapRange (a b n i : Nat) (d : Array α) : Array α := if i < n then swapRange a b n (i + 1) (swp d (a + i) (b + i)) else d
termination_by n - i
def rotLoop (m i j : Nat) (d : Array α) : Array α :=
  if h : 0 < i ∧ 0 < j then
    if i = j then swapRange (m - i) m i 0 d
    else if i > j then rotLoop m (i - j) j (swapRange (m - i) m j 0 d)
    else rotLoop m i (j - i) (swapRange (m - i) (m + j - i) i 0 d)
  else d
termination_by i + j
section
variable (lt : α → α → Bool)
def bs1 (d : Array α) (a i j : Nat) : Nat := if i < j then (if lt d[(i + j) / 2]! d[a]! then bs1 d a ((i + j) / 2 + 1) j else bs1 d a i ((i + j) / 2)) else i
termination_by j - i
def bs2 (d : Array α) (m i j : Nat) : Nat := if i < j then (if !lt d[m]! d[(i + j) / 2]! then bs2 d m ((i + j) / 2 + 1) j else bs2 d m i ((i + j) / 2)) else i
termination_by j - i
def bs3 (d : Array α) (p s r : Nat) : Nat := if s < r then (if !lt d[p - (s + r) / 2]! d[(s + r) / 2]! then bs3 d p ((s + r) / 2 + 1) r else bs3 d p s ((s + r) / 2)) else s
termination_by r - s
def shiftUp (e k : Nat) (d : Array α) : Array α := if k < e then shiftUp e (k + 1) (swp d k (k + 1)) else d
termination_by e - k
def shiftDn (i k : Nat) (d : Array α) : Array α := if i < k then shiftDn i (k - 1) (swp d k (k - 1)) else d
termination_by k - i
/-- where the search of the middle begins, and where it ends. -/
def st0 (a m b : Nat) : Nat := if m > (a + b) / 2 then (a + b) / 2 + m - b else a
def rt0 (a m b : Nat) : Nat := if m > (a + b) / 2 then (a + b) / 2 else m
def strt (d : Array α) (a m b : Nat) : Nat := bs3 lt d ((a + b) / 2 + m - 1) (st0 a m b) (rt0 a m b)
def rotd (d : Array α) (a m b : Nat) : Array α :=
  if strt lt d a m b < m ∧ m < (a + b) / 2 + m - strt lt d a m b then rotLoop m (m - strt lt d a m b) ((a + b) / 2 + m - strt lt d a m b - m) d else d
def symMerge (a m b : Nat) (d : Array α) : Array α :=
  if h : a < m ∧ m < b then
    if h1 : m - a = 1 then shiftUp (bs1 lt d a m b - 1) a d
    else if h2 : b - m = 1 then shiftDn (bs2 lt d m a m) m d
    else
      let s := strt lt d a m b
      let e := (a + b) / 2 + m - s
      let d1 := rotd lt d a m b
      let d2 := if a < s ∧ s < (a + b) / 2 then symMerge a s ((a + b) / 2) d1 else d1
      if (a + b) / 2 < e ∧ e < b then symMerge ((a + b) / 2) e b d2 else d2
  else d
termination_by b - a
def blocks (n a : Nat) (d : Array α) : Array α := if a + 20 ≤ n then blocks n (a + 20) (insertionSort lt d a (a + 20)) else insertionSort lt d a n
termination_by n - a
def mergePass (s n a : Nat) (d : Array α) : Array α :=
  if h : a + 2 * s ≤ n ∧ 0 < s then mergePass s n (a + 2 * s) (symMerge lt a (a + s) (a + 2 * s) d)
  else if a + s < n then symMerge lt a (a + s) n d else d
termination_by n - a
def mergeAll (s n : Nat) (d : Array α) : Array α := if h : s < n ∧ 0 < s then mergeAll (s * 2) n (mergePass lt s n 0 d) else d
termination_by n - s
def stable (n : Nat) (d : Array α) : Array α := mergeAll lt 20 n (blocks lt n 0 d)
end
theorem swapRange_go (a b n i : Nat) (d : Array α) (h : i < n) : swapRange a b n i d = swapRange a b n (i + 1) (swp d (a + i) (b + i)) := by rw [swapRange, if_pos h]
theorem swapRange_end (a b n i : Nat) (d : Array α) (h : ¬ i < n) : swapRange a b n i d = d := by rw [swapRange, if_neg h]
theorem rotLoop_eq (m i j : Nat) (d : Array α) (h : 0 < i ∧ 0 < j) (e : i = j) : rotLoop m i j d = swapRange (m - i) m i 0 d := by rw [rotLoop, dif_pos h, if_pos e]
theorem rotLoop_gt (m i j : Nat) (d : Array α) (h : 0 < i ∧ 0 < j) (e : i > j) : rotLoop m i j d = rotLoop m (i - j) j (swapRange (m - i) m j 0 d) := by rw [rotLoop, dif_pos h, if_neg (by omega), if_pos e]
theorem rotLoop_lt (m i j : Nat) (d : Array α) (h : 0 < i ∧ 0 < j) (e : i < j) : rotLoop m i j d = rotLoop m i (j - i) (swapRange (m - i) (m + j - i) i 0 d) := by rw [rotLoop, dif_pos h, if_neg (by omega), if_neg (by omega)]
theorem bs1_lt (lt : α → α → Bool) (d : Array α) (a i j : Nat) (h : i < j) (e : lt d[(i + j) / 2]! d[a]! = true) : bs1 lt d a i j = bs1 lt d a ((i + j) / 2 + 1) j := by rw [bs1, if_pos h, if_pos e]
theorem bs1_ge (lt : α → α → Bool) (d : Array α) (a i j : Nat) (h : i < j) (e : lt d[(i + j) / 2]! d[a]! = false) : bs1 lt d a i j = bs1 lt d a i ((i + j) / 2) := by rw [bs1, if_pos h, if_neg (by rw [e]; simp)]
theorem bs1_end (lt : α → α → Bool) (d : Array α) (a i j : Nat) (h : ¬ i < j) : bs1 lt d a i j = i := by rw [bs1, if_neg h]
theorem bs2_ge (lt : α → α → Bool) (d : Array α) (m i j : Nat) (h : i < j) (e : lt d[m]! d[(i + j) / 2]! = false) : bs2 lt d m i j = bs2 lt d m ((i + j) / 2 + 1) j := by rw [bs2, if_pos h, if_pos (by rw [e]; rfl)]
theorem bs2_lt (lt : α → α → Bool) (d : Array α) (m i j : Nat) (h : i < j) (e : lt d[m]! d[(i + j) / 2]! = true) : bs2 lt d m i j = bs2 lt d m i ((i + j) / 2) := by rw [bs2, if_pos h, if_neg (by rw [e]; simp)]
theorem bs2_end (lt : α → α → Bool) (d : Array α) (m i j : Nat) (h : ¬ i < j) : bs2 lt d m i j = i := by rw [bs2, if_neg h]
theorem bs3_ge (lt : α → α → Bool) (d : Array α) (p s r : Nat) (h : s < r) (e : lt d[p - (s + r) / 2]! d[(s + r) / 2]! = false) : bs3 lt d p s r = bs3 lt d p ((s + r) / 2 + 1) r := by rw [bs3, if_pos h, if_pos (by rw [e]; rfl)]
theorem bs3_lt (lt : α → α → Bool) (d : Array α) (p s r : Nat) (h : s < r) (e : lt d[p - (s + r) / 2]! d[(s + r) / 2]! = true) : bs3 lt d p s r = bs3 lt d p s ((s + r) / 2) := by rw [bs3, if_pos h, if_neg (by rw [e]; simp)]
theorem bs3_end (lt : α → α → Bool) (d : Array α) (p s r : Nat) (h : ¬ s < r) : bs3 lt d p s r = s := by rw [bs3, if_neg h]
theorem shiftUp_go (e k : Nat) (d : Array α) (h : k < e) : shiftUp e k d = shiftUp e (k + 1) (swp d k (k + 1)) := by rw [shiftUp, if_pos h]
theorem shiftUp_end (e k : Nat) (d : Array α) (h : ¬ k < e) : shiftUp e k d = d := by rw [shiftUp, if_neg h]
theorem shiftDn_go (i k : Nat) (d : Array α) (h : i < k) : shiftDn i k d = shiftDn i (k - 1) (swp d k (k - 1)) := by rw [shiftDn, if_pos h]
theorem shiftDn_end (i k : Nat) (d : Array α) (h : ¬ i < k) : shiftDn i k d = d := by rw [shiftDn, if_neg h]
theorem symMerge_one (lt : α → α → Bool) (a m b : Nat) (d : Array α) (h : a < m ∧ m < b) (h1 : m - a = 1) : symMerge lt a m b d = shiftUp (bs1 lt d a m b - 1) a d := by rw [symMerge, dif_pos h, dif_pos h1]
theorem symMerge_two (lt : α → α → Bool) (a m b : Nat) (d : Array α) (h : a < m ∧ m < b) (h1 : ¬ m - a = 1) (h2 : b - m = 1) : symMerge lt a m b d = shiftDn (bs2 lt d m a m) m d := by rw [symMerge, dif_pos h, dif_neg h1, dif_pos h2]
theorem symMerge_mid (lt : α → α → Bool) (a m b : Nat) (d : Array α) (h : a < m ∧ m < b) (h1 : ¬ m - a = 1) (h2 : ¬ b - m = 1) : symMerge lt a m b d =
    if (a + b) / 2 < (a + b) / 2 + m - strt lt d a m b ∧ (a + b) / 2 + m - strt lt d a m b < b then symMerge lt ((a + b) / 2) ((a + b) / 2 + m - strt lt d a m b) b (if a < strt lt d a m b ∧ strt lt d a m b < (a + b) / 2 then symMerge lt a (strt lt d a m b) ((a + b) / 2) (rotd lt d a m b) else rotd lt d a m b)
    else (if a < strt lt d a m b ∧ strt lt d a m b < (a + b) / 2 then symMerge lt a (strt lt d a m b) ((a + b) / 2) (rotd lt d a m b) else rotd lt d a m b) := by rw [symMerge, dif_pos h, dif_neg h1, dif_neg h2]
theorem blocks_go (lt : α → α → Bool) (n a : Nat) (d : Array α) (h : a + 20 ≤ n) : blocks lt n a d = blocks lt n (a + 20) (insertionSort lt d a (a + 20)) := by rw [blocks, if_pos h]
theorem blocks_end (lt : α → α → Bool) (n a : Nat) (d : Array α) (h : ¬ a + 20 ≤ n) : blocks lt n a d = insertionSort lt d a n := by rw [blocks, if_neg h]
theorem mergePass_go (lt : α → α → Bool) (s n a : Nat) (d : Array α) (h : a + 2 * s ≤ n ∧ 0 < s) : mergePass lt s n a d = mergePass lt s n (a + 2 * s) (symMerge lt a (a + s) (a + 2 * s) d) := by rw [mergePass, dif_pos h]
theorem mergePass_end (lt : α → α → Bool) (s n a : Nat) (d : Array α) (h : ¬ (a + 2 * s ≤ n ∧ 0 < s)) : mergePass lt s n a d = if a + s < n then symMerge lt a (a + s) n d else d := by rw [mergePass, dif_neg h]
theorem mergeAll_go (lt : α → α → Bool) (s n : Nat) (d : Array α) (h : s < n ∧ 0 < s) : mergeAll lt s n d = mergeAll lt (s * 2) n (mergePass lt s n 0 d) := by rw [mergeAll, dif_pos h]
theorem mergeAll_end (lt : α → α → Bool) (s n : Nat) (d : Array α) (h : ¬ (s < n ∧ 0 < s)) : mergeAll lt s n d = d := by rw [mergeAll, dif_neg h]
theorem swp_at (d : Array α) (i j k : Nat) (hi : i < d.size) (hj : j < d.size) : (swp d i j)[k]! = if k = i then d[j]! else if k = j then d[i]! else d[k]! := by
  by_cases h1 : k = i
  · subst h1
    rw [if_pos rfl]
    by_cases h2 : k = j
    · subst h2; exact swp_right d k k hi
    · exact swp_left d k j hi h2
  · rw [if_neg h1]
    by_cases h2 : k = j
    · subst h2; rw [if_pos rfl]; exact swp_right d i k hj
    · rw [if_neg h2]; exact swp_other d i j k h1 h2
theorem swapRange_size (a b n : Nat) : ∀ (q i : Nat) (d : Array α), q = n - i → (swapRange a b n i d).size = d.size := by
  intro q
  induction q with
  | zero => intro i d hq; rw [swapRange, if_neg (by omega)]
  | succ q ih => intro i d hq; rw [swapRange, if_pos (by omega), ih _ _ (by omega), size_swp]
theorem swapRange_perm (a b n lo hi : Nat) (h1 : lo ≤ a) (h2 : lo ≤ b) (h3 : a + n ≤ hi) (h4 : b + n ≤ hi) : ∀ (q i : Nat) (d : Array α), q = n - i → hi ≤ d.size → PermIn lo hi d (swapRange a b n i d) := by
  intro q
  induction q with
  | zero => intro i d hq hs; rw [swapRange, if_neg (by omega)]; exact permIn_refl d lo hi
  | succ q ih =>
    intro i d hq hs
    rw [swapRange, if_pos (by omega)]
    exact permIn_trans _ _ _ _ _ (swp_permIn d lo hi (a + i) (b + i) (by omega) (by omega) (by omega) (by omega) hs) (ih (i + 1) _ (by omega) (by rw [size_swp]; exact hs))
theorem swapRange_at (a b n : Nat) (hab : a + n ≤ b) : ∀ (q i : Nat) (d : Array α), q = n - i → b + n ≤ d.size → ∀ k,
    (swapRange a b n i d)[k]! = if a + i ≤ k ∧ k < a + n then d[b + (k - a)]! else if b + i ≤ k ∧ k < b + n then d[a + (k - b)]! else d[k]! := by
  intro q
  induction q with
  | zero => intro i d hq hs k; rw [swapRange, if_neg (by omega), if_neg (by omega), if_neg (by omega)]
  | succ q ih =>
    intro i d hq hs k
    rw [swapRange, if_pos (by omega), ih (i + 1) _ (by omega) (by rw [size_swp]; exact hs)]
    rw [swp_at d (a + i) (b + i) _ (by omega) (by omega), swp_at d (a + i) (b + i) _ (by omega) (by omega), swp_at d (a + i) (b + i) _ (by omega) (by omega)]
    by_cases c1 : k = a + i
    · subst c1
      rw [if_neg (by omega), if_neg (by omega), if_pos rfl, if_pos (by omega), show b + (a + i - a) = b + i by omega]
    by_cases c2 : k = b + i
    · subst c2
      rw [if_neg (by omega), if_neg (by omega), if_neg (by omega), if_pos rfl, if_neg (by omega), if_pos (by omega), show a + (b + i - b) = a + i by omega]
    by_cases c3 : a + (i + 1) ≤ k ∧ k < a + n
    · rw [if_pos c3, if_neg (by omega), if_neg (by omega), if_pos (by omega)]
    by_cases c4 : b + (i + 1) ≤ k ∧ k < b + n
    · rw [if_neg c3, if_pos c4, if_neg (by omega), if_neg (by omega), if_neg (by omega), if_pos (by omega)]
    · rw [if_neg c3, if_neg c4, if_neg c1, if_neg c2, if_neg (by omega), if_neg (by omega)]
theorem rotLoop_size (m : Nat) : ∀ (q i j : Nat) (d : Array α), i + j ≤ q → (rotLoop m i j d).size = d.size := by
  intro q
  induction q with
  | zero => intro i j d hq; rw [rotLoop, dif_neg (by omega)]
  | succ q ih =>
    intro i j d hq
    rw [rotLoop]
    split
    · split
      · exact swapRange_size _ _ _ _ _ _ rfl
      split
      · rw [ih _ _ _ (by omega)]; exact swapRange_size _ _ _ _ _ _ rfl
      · rw [ih _ _ _ (by omega)]; exact swapRange_size _ _ _ _ _ _ rfl
    · rfl
theorem rotLoop_perm (m lo hi : Nat) : ∀ (q i j : Nat) (d : Array α), i + j ≤ q → lo + i ≤ m → m + j ≤ hi → hi ≤ d.size → PermIn lo hi d (rotLoop m i j d) := by
  intro q
  induction q with
  | zero => intro i j d hq _ _ _; rw [rotLoop, dif_neg (by omega)]; exact permIn_refl d lo hi
  | succ q ih =>
    intro i j d hq h1 h2 hs
    rw [rotLoop]
    split
    · split
      · exact swapRange_perm _ _ _ lo hi (by omega) (by omega) (by omega) (by omega) _ _ _ rfl hs
      split
      · exact permIn_trans _ _ _ _ _ (swapRange_perm _ _ _ lo hi (by omega) (by omega) (by omega) (by omega) _ _ _ rfl hs) (ih _ _ _ (by omega) (by omega) (by omega) (by rw [swapRange_size _ _ _ _ _ _ rfl]; exact hs))
      · exact permIn_trans _ _ _ _ _ (swapRange_perm _ _ _ lo hi (by omega) (by omega) (by omega) (by omega) _ _ _ rfl hs) (ih _ _ _ (by omega) (by omega) (by omega) (by rw [swapRange_size _ _ _ _ _ _ rfl]; exact hs))
    · exact permIn_refl d lo hi
theorem rotLoop_at (m : Nat) : ∀ (q i j : Nat) (d : Array α), i + j ≤ q → i ≤ m → m + j ≤ d.size → ∀ k,
    (rotLoop m i j d)[k]! = if m - i ≤ k ∧ k < m - i + j then d[k + i]! else if m - i + j ≤ k ∧ k < m + j then d[k - j]! else d[k]! := by
  intro q
  induction q with
  | zero => intro i j d hq h1 h2 k; rw [rotLoop, dif_neg (by omega), if_neg (by omega), if_neg (by omega)]
  | succ q ih =>
    intro i j d hq h1 h2 k
    rw [rotLoop]
    by_cases h : 0 < i ∧ 0 < j
    case neg =>
      rw [dif_neg h]
      split
      · rename_i c; rw [show i = 0 by omega, Nat.add_zero]
      split
      · rename_i c; rw [show j = 0 by omega, Nat.sub_zero]
      · rfl
    rw [dif_pos h]
    by_cases hij : i = j
    · subst hij
      rw [if_pos rfl, swapRange_at _ _ _ (by omega) _ _ _ rfl h2]
      by_cases c1 : m - i ≤ k ∧ k < m
      · rw [if_pos (by omega), if_pos (by omega), show m + (k - (m - i)) = k + i by omega]
      by_cases c2 : m ≤ k ∧ k < m + i
      · rw [if_neg (by omega), if_pos (by omega), if_neg (by omega), if_pos (by omega), show m - i + (k - m) = k - i by omega]
      · rw [if_neg (by omega), if_neg (by omega), if_neg (by omega), if_neg (by omega)]
    rw [if_neg hij]
    by_cases hg : i > j
    · rw [if_pos hg, ih _ _ _ (by omega) (by omega) (by rw [swapRange_size _ _ _ _ _ _ rfl]; exact h2)]
      rw [swapRange_at _ _ _ (by omega) _ _ _ rfl (by omega), swapRange_at _ _ _ (by omega) _ _ _ rfl (by omega), swapRange_at _ _ _ (by omega) _ _ _ rfl (by omega)]
      by_cases c1 : m - i ≤ k ∧ k < m - i + j
      · rw [if_neg (by omega), if_neg (by omega), if_pos (by omega), if_pos (by omega), show m + (k - (m - i)) = k + i by omega]
      by_cases c2 : m - i + j ≤ k ∧ k < m - i + j + j
      · rw [if_pos (by omega), if_neg (by omega), if_pos (by omega), if_neg (by omega), if_pos (by omega), show m - i + (k + (i - j) - m) = k - j by omega]
      by_cases c3 : m - i + j + j ≤ k ∧ k < m + j
      · rw [if_neg (by omega), if_pos (by omega), if_neg (by omega), if_neg (by omega), if_neg (by omega), if_pos (by omega)]
      · rw [if_neg (by omega), if_neg (by omega), if_neg (by omega), if_neg (by omega), if_neg (by omega), if_neg (by omega)]
    · rw [if_neg hg, ih _ _ _ (by omega) (by omega) (by rw [swapRange_size _ _ _ _ _ _ rfl]; omega)]
      rw [swapRange_at _ _ _ (by omega) _ _ _ rfl (by omega), swapRange_at _ _ _ (by omega) _ _ _ rfl (by omega), swapRange_at _ _ _ (by omega) _ _ _ rfl (by omega)]
      by_cases c1 : m - i ≤ k ∧ k < m - i + (j - i)
      · rw [if_pos (by omega), if_neg (by omega), if_neg (by omega), if_pos (by omega)]
      by_cases c2 : m - i + (j - i) ≤ k ∧ k < m - i + j
      · rw [if_neg (by omega), if_pos (by omega), if_pos (by omega), if_pos (by omega), show m + j - i + (k - (j - i) - (m - i)) = k + i by omega]
      by_cases c3 : m - i + j ≤ k ∧ k < m + j
      · rw [if_neg (by omega), if_neg (by omega), if_neg (by omega), if_pos (by omega), if_neg (by omega), if_pos (by omega), show m - i + (k - (m + j - i)) = k - j by omega]
      · rw [if_neg (by omega), if_neg (by omega), if_neg (by omega), if_neg (by omega), if_neg (by omega), if_neg (by omega)]
theorem shiftUp_perm (lo hi e : Nat) (h2 : e < hi) : ∀ (q k : Nat) (d : Array α), q = e - k → lo ≤ k → hi ≤ d.size → PermIn lo hi d (shiftUp e k d) := by
  intro q
  induction q with
  | zero => intro k d hq _ _; rw [shiftUp, if_neg (by omega)]; exact permIn_refl d lo hi
  | succ q ih =>
    intro k d hq hk hs
    rw [shiftUp, if_pos (by omega)]
    exact permIn_trans _ _ _ _ _ (swp_permIn d lo hi k (k + 1) (by omega) (by omega) (by omega) (by omega) hs) (ih (k + 1) _ (by omega) (by omega) (by rw [size_swp]; exact hs))
theorem shiftUp_at (e : Nat) : ∀ (q k : Nat) (d : Array α), q = e - k → k ≤ e → e < d.size → ∀ x,
    (shiftUp e k d)[x]! = if k ≤ x ∧ x < e then d[x + 1]! else if x = e then d[k]! else d[x]! := by
  intro q
  induction q with
  | zero =>
    intro k d hq h1 h2 x
    rw [shiftUp, if_neg (by omega), if_neg (by omega)]
    split
    · rename_i c; rw [show k = x by omega]
    · rfl
  | succ q ih =>
    intro k d hq h1 h2 x
    rw [shiftUp, if_pos (by omega), ih (k + 1) _ (by omega) (by omega) (by rw [size_swp]; exact h2)]
    rw [swp_at d k (k + 1) _ (by omega) (by omega), swp_at d k (k + 1) _ (by omega) (by omega), swp_at d k (k + 1) _ (by omega) (by omega)]
    by_cases c1 : x = k
    · subst c1; rw [if_neg (by omega), if_neg (by omega), if_pos rfl, if_pos (by omega)]
    by_cases c2 : x = e
    · subst c2; rw [if_neg (by omega), if_pos rfl, if_neg (by omega), if_pos rfl, if_neg (by omega), if_pos rfl]
    by_cases c3 : k + 1 ≤ x ∧ x < e
    · rw [if_pos c3, if_neg (by omega), if_neg (by omega), if_pos (by omega)]
    · rw [if_neg c3, if_neg c2, if_neg c1, if_neg (by omega), if_neg (by omega), if_neg c2]
theorem shiftDn_perm (lo hi i : Nat) (h2 : lo ≤ i) : ∀ (q k : Nat) (d : Array α), q = k - i → k < hi → hi ≤ d.size → PermIn lo hi d (shiftDn i k d) := by
  intro q
  induction q with
  | zero => intro k d hq _ _; rw [shiftDn, if_neg (by omega)]; exact permIn_refl d lo hi
  | succ q ih =>
    intro k d hq hk hs
    rw [shiftDn, if_pos (by omega)]
    exact permIn_trans _ _ _ _ _ (swp_permIn d lo hi k (k - 1) (by omega) (by omega) (by omega) (by omega) hs) (ih (k - 1) _ (by omega) (by omega) (by rw [size_swp]; exact hs))
theorem shiftUp_size (e : Nat) : ∀ (q k : Nat) (d : Array α), q = e - k → (shiftUp e k d).size = d.size := by
  intro q
  induction q with
  | zero => intro k d hq; rw [shiftUp, if_neg (by omega)]
  | succ q ih => intro k d hq; rw [shiftUp, if_pos (by omega), ih _ _ (by omega), size_swp]
theorem shiftDn_size (i : Nat) : ∀ (q k : Nat) (d : Array α), q = k - i → (shiftDn i k d).size = d.size := by
  intro q
  induction q with
  | zero => intro k d hq; rw [shiftDn, if_neg (by omega)]
  | succ q ih => intro k d hq; rw [shiftDn, if_pos (by omega), ih _ _ (by omega), size_swp]
theorem symMerge_size (lt : α → α → Bool) : ∀ (q a m b : Nat) (d : Array α), q = b - a → (symMerge lt a m b d).size = d.size := by
  intro q
  induction q using Nat.strongRecOn with
  | _ q ih =>
    intro a m b d hq
    rw [symMerge]
    split
    · rename_i h
      split
      · exact shiftUp_size _ _ _ _ rfl
      split
      · exact shiftDn_size _ _ _ _ rfl
      have hr : (rotd lt d a m b).size = d.size := by
        unfold rotd; split
        · exact rotLoop_size m _ _ _ _ (Nat.le_refl _)
        · rfl
      have h2 : (if a < strt lt d a m b ∧ strt lt d a m b < (a + b) / 2 then symMerge lt a (strt lt d a m b) ((a + b) / 2) (rotd lt d a m b) else rotd lt d a m b).size = d.size := by
        split
        · rw [ih _ (by omega) _ _ _ _ rfl]; exact hr
        · exact hr
      simp only
      split
      · rw [ih _ (by omega) _ _ _ _ rfl]; exact h2
      · exact h2
    · rfl
theorem shiftDn_at (i : Nat) : ∀ (q k : Nat) (d : Array α), q = k - i → i ≤ k → k < d.size → ∀ x,
    (shiftDn i k d)[x]! = if i < x ∧ x ≤ k then d[x - 1]! else if x = i then d[k]! else d[x]! := by
  intro q
  induction q with
  | zero =>
    intro k d hq h1 h2 x
    rw [shiftDn, if_neg (by omega), if_neg (by omega)]
    split
    · rename_i c; rw [show k = x by omega]
    · rfl
  | succ q ih =>
    intro k d hq h1 h2 x
    rw [shiftDn, if_pos (by omega), ih (k - 1) _ (by omega) (by omega) (by rw [size_swp]; omega)]
    rw [swp_at d k (k - 1) _ (by omega) (by omega), swp_at d k (k - 1) _ (by omega) (by omega), swp_at d k (k - 1) _ (by omega) (by omega)]
    by_cases c1 : x = k
    · subst c1; rw [if_neg (by omega), if_neg (by omega), if_pos rfl, if_pos (by omega)]
    by_cases c2 : x = i
    · subst c2; rw [if_neg (by omega), if_pos rfl, if_neg (by omega), if_pos rfl, if_neg (by omega), if_pos rfl]
    by_cases c3 : i < x ∧ x ≤ k - 1
    · rw [if_pos c3, if_neg (by omega), if_neg (by omega), if_pos (by omega)]
    · rw [if_neg c3, if_neg c2, if_neg c1, if_neg (by omega), if_neg (by omega), if_neg c2]
section
variable (key : α → Int) (idx : α → Nat)
def ltK (x y : α) : Bool := decide (key x < key y)
def lexK (x y : α) : Bool := decide (key x < key y ∨ key x = key y ∧ idx x < idx y)
def leK (x y : α) : Prop := key x < key y ∨ key x = key y ∧ idx x ≤ idx y
def Asc (a b : Nat) (d : Array α) : Prop := ∀ i j, a ≤ i → i < j → j < b → leK key idx d[i]! d[j]!
def Bef (a m b : Nat) (d : Array α) : Prop := ∀ i j, a ≤ i → i < m → m ≤ j → j < b → idx d[i]! < idx d[j]!
end
variable {key : α → Int} {idx : α → Nat}
set_option linter.unusedSectionVars false
theorem leK_key {x y : α} (h : leK key idx x y) : key x ≤ key y := by unfold leK at h; omega
theorem asc_key {a b : Nat} {d : Array α} (h : Asc key idx a b d) {i j : Nat} (h1 : a ≤ i) (h2 : i ≤ j) (h3 : j < b) : key d[i]! ≤ key d[j]! := by
  by_cases e : i = j
  · subst e; exact Int.le_refl _
  · exact leK_key (h i j h1 (by omega) h3)
theorem bs1_spec (d : Array α) (a m b : Nat) (h : Asc key idx m b d) : ∀ (q i j : Nat), q = j - i → m ≤ i → i ≤ j → j ≤ b → (∀ x, m ≤ x → x < i → key d[x]! < key d[a]!) → (∀ x, j ≤ x → x < b → key d[a]! ≤ key d[x]!) →
    m ≤ bs1 (ltK key) d a i j ∧ bs1 (ltK key) d a i j ≤ b ∧ (∀ x, m ≤ x → x < bs1 (ltK key) d a i j → key d[x]! < key d[a]!) ∧ (∀ x, bs1 (ltK key) d a i j ≤ x → x < b → key d[a]! ≤ key d[x]!) := by
  intro q
  induction q using Nat.strongRecOn with
  | _ q ih =>
    intro i j hq h1 h2 h3 h4 h5
    rw [bs1]
    by_cases hij : i < j
    · rw [if_pos hij]
      by_cases hl : ltK key d[(i + j) / 2]! d[a]! = true
      · rw [if_pos hl]
        have hl' : key d[(i + j) / 2]! < key d[a]! := of_decide_eq_true hl
        exact ih _ (by omega) _ _ rfl (by omega) (by omega) h3 (fun x hx1 hx2 => by have := asc_key h (i := x) (j := (i + j) / 2) hx1 (by omega) (by omega); omega) h5
      · rw [if_neg hl]
        have hl' : ¬ key d[(i + j) / 2]! < key d[a]! := fun c => hl (decide_eq_true c)
        exact ih _ (by omega) _ _ rfl h1 (by omega) (by omega) h4 (fun x hx1 hx2 => by have := asc_key h (i := (i + j) / 2) (j := x) (by omega) hx1 hx2; omega)
    · rw [if_neg hij]
      exact ⟨h1, by omega, h4, fun x hx1 hx2 => h5 x (by omega) hx2⟩
theorem bs2_spec (d : Array α) (a m : Nat) (h : Asc key idx a m d) : ∀ (q i j : Nat), q = j - i → a ≤ i → i ≤ j → j ≤ m → (∀ x, a ≤ x → x < i → key d[x]! ≤ key d[m]!) → (∀ x, j ≤ x → x < m → key d[m]! < key d[x]!) →
    a ≤ bs2 (ltK key) d m i j ∧ bs2 (ltK key) d m i j ≤ m ∧ (∀ x, a ≤ x → x < bs2 (ltK key) d m i j → key d[x]! ≤ key d[m]!) ∧ (∀ x, bs2 (ltK key) d m i j ≤ x → x < m → key d[m]! < key d[x]!) := by
  intro q
  induction q using Nat.strongRecOn with
  | _ q ih =>
    intro i j hq h1 h2 h3 h4 h5
    rw [bs2]
    by_cases hij : i < j
    · rw [if_pos hij]
      by_cases hl : ltK key d[m]! d[(i + j) / 2]! = true
      · rw [if_neg (by rw [hl]; simp)]
        have hl' : key d[m]! < key d[(i + j) / 2]! := of_decide_eq_true hl
        exact ih _ (by omega) _ _ rfl h1 (by omega) (by omega) h4 (fun x hx1 hx2 => by have := asc_key h (i := (i + j) / 2) (j := x) (by omega) hx1 hx2; omega)
      · rw [if_pos (by simpa using hl)]
        have hl' : ¬ key d[m]! < key d[(i + j) / 2]! := fun c => hl (decide_eq_true c)
        exact ih _ (by omega) _ _ rfl (by omega) (by omega) h3 (fun x hx1 hx2 => by have := asc_key h (i := x) (j := (i + j) / 2) hx1 (by omega) (by omega); omega) h5
    · rw [if_neg hij]
      exact ⟨h1, by omega, h4, fun x hx1 hx2 => h5 x (by omega) hx2⟩
/-- the middle's search: below the answer 'not less', from it on 'less'. -/
theorem bs3_spec (d : Array α) (a m b p s0 r0 : Nat) (h1 : Asc key idx a m d) (h2 : Asc key idx m b d) (hs : a ≤ s0) (hr : r0 ≤ m) (hp1 : p < b + s0) (hp2 : m + r0 ≤ p + 1) (hsr0 : s0 ≤ r0) :
    ∀ (q s r : Nat), q = r - s → s0 ≤ s → s ≤ r → r ≤ r0 → (∀ x, s0 ≤ x → x < s → key d[x]! ≤ key d[p - x]!) → (∀ x, r ≤ x → x < r0 → key d[p - x]! < key d[x]!) →
    s0 ≤ bs3 (ltK key) d p s r ∧ bs3 (ltK key) d p s r ≤ r0 ∧ (∀ x, s0 ≤ x → x < bs3 (ltK key) d p s r → key d[x]! ≤ key d[p - x]!) ∧ (∀ x, bs3 (ltK key) d p s r ≤ x → x < r0 → key d[p - x]! < key d[x]!) := by
  intro q
  induction q using Nat.strongRecOn with
  | _ q ih =>
    intro s r hq g1 g2 g3 g4 g5
    rw [bs3]
    by_cases hij : s < r
    · rw [if_pos hij]
      by_cases hl : ltK key d[p - (s + r) / 2]! d[(s + r) / 2]! = true
      · rw [if_neg (by rw [hl]; simp)]
        have hl' : key d[p - (s + r) / 2]! < key d[(s + r) / 2]! := of_decide_eq_true hl
        exact ih _ (by omega) _ _ rfl g1 (by omega) (by omega) g4 (fun x hx1 hx2 => by
          have e1 := asc_key h1 (i := (s + r) / 2) (j := x) (by omega) hx1 (by omega)
          have e2 := asc_key h2 (i := p - x) (j := p - (s + r) / 2) (by omega) (by omega) (by omega)
          omega)
      · rw [if_pos (by simpa using hl)]
        have hl' : ¬ key d[p - (s + r) / 2]! < key d[(s + r) / 2]! := fun c => hl (decide_eq_true c)
        exact ih _ (by omega) _ _ rfl (by omega) (by omega) g3 (fun x hx1 hx2 => by
          have e1 := asc_key h1 (i := x) (j := (s + r) / 2) (by omega) (by omega) (by omega)
          have e2 := asc_key h2 (i := p - (s + r) / 2) (j := p - x) (by omega) (by omega) (by omega)
          omega) g5
    · rw [if_neg hij]
      exact ⟨g1, by omega, g4, fun x hx1 hx2 => g5 x (by omega) hx2⟩
theorem rotd_at (lt : α → α → Bool) (d : Array α) (a m b : Nat) (s : Nat) (hs : strt lt d a m b = s) (h1 : a ≤ s) (h2 : s ≤ m) (h3 : m ≤ (a + b) / 2 + m - s) (h4 : (a + b) / 2 + m - s ≤ b) (hb : b ≤ d.size) (k : Nat) :
    (rotd lt d a m b)[k]! = if s ≤ k ∧ k < (a + b) / 2 then d[k + (m - s)]! else if (a + b) / 2 ≤ k ∧ k < (a + b) / 2 + m - s then d[k - ((a + b) / 2 - s)]! else d[k]! := by
  unfold rotd
  rw [hs]
  split
  · rename_i c
    rw [rotLoop_at m _ _ _ _ (Nat.le_refl _) (by omega) (by omega)]
    by_cases c1 : s ≤ k ∧ k < (a + b) / 2
    · rw [if_pos (by omega), if_pos c1]
    by_cases c2 : (a + b) / 2 ≤ k ∧ k < (a + b) / 2 + m - s
    · rw [if_neg (by omega), if_pos (by omega), if_neg c1, if_pos c2, show (a + b) / 2 + m - s - m = (a + b) / 2 - s by omega]
    · rw [if_neg (by omega), if_neg (by omega), if_neg c1, if_neg c2]
  · rename_i c
    by_cases e : s = m
    · split
      · rw [show m - s = 0 by omega]; rfl
      split
      · omega
      · rfl
    · have e2 : (a + b) / 2 + m - s = m := by omega
      split
      · omega
      split
      · rw [show k - ((a + b) / 2 - s) = k by omega]
      · rfl
theorem rotd_perm (lt : α → α → Bool) (d : Array α) (a m b : Nat) (h1 : a ≤ strt lt d a m b) (h4 : (a + b) / 2 + m - strt lt d a m b ≤ b) (hb : b ≤ d.size) : PermIn a b d (rotd lt d a m b) := by
  unfold rotd
  split
  · exact rotLoop_perm m a b _ _ _ _ (Nat.le_refl _) (by omega) (by omega) hb
  · exact permIn_refl d a b
theorem perm_lift {a b i j : Nat} {d d' : Array α} (h : PermIn i j d d') (h1 : a ≤ i) (h2 : j ≤ b) (hb : b ≤ d.size) : PermIn a b d d' := permIn_mono _ _ i j a b h1 h2 hb h
theorem symMerge_holds : ∀ (q a m b : Nat) (d : Array α), q = b - a → a ≤ m → m ≤ b → b ≤ d.size → Asc key idx a m d → Asc key idx m b d → Bef idx a m b d →
    PermIn a b d (symMerge (ltK key) a m b d) ∧ (a < m ∧ m < b → Asc key idx a b (symMerge (ltK key) a m b d)) := by
  intro q
  induction q using Nat.strongRecOn with
  | _ q ih =>
    intro a m b d hq ham hmb hb h1 h2 hB
    rw [symMerge]
    by_cases h : a < m ∧ m < b
    case neg => rw [dif_neg h]; exact ⟨permIn_refl d a b, fun c => absurd c h⟩
    rw [dif_pos h]
    by_cases hu : m - a = 1
    · rw [dif_pos hu]
      obtain ⟨i, hi⟩ : ∃ i, bs1 (ltK key) d a m b = i := ⟨_, rfl⟩
      obtain ⟨g1, g2, g3, g4⟩ := bs1_spec d a m b h2 _ m b rfl (Nat.le_refl _) hmb (Nat.le_refl _) (fun x c1 c2 => by omega) (fun x c1 c2 => by omega)
      rw [hi] at g1 g2 g3 g4 ⊢
      refine ⟨shiftUp_perm a b (i - 1) (by omega) _ _ _ rfl (Nat.le_refl _) hb, fun _ => ?_⟩
      intro x y hx hxy hy
      rw [shiftUp_at (i - 1) _ a d rfl (by omega) (by omega), shiftUp_at (i - 1) _ a d rfl (by omega) (by omega)]
      by_cases c1 : x < i - 1
      · rw [if_pos ⟨hx, c1⟩]
        by_cases c2 : y < i - 1
        · rw [if_pos ⟨by omega, c2⟩]; exact h2 _ _ (by omega) (by omega) (by omega)
        by_cases c3 : y = i - 1
        · rw [if_neg (by omega), if_pos c3]; exact Or.inl (g3 _ (by omega) (by omega))
        · rw [if_neg (by omega), if_neg c3]; exact h2 _ _ (by omega) (by omega) hy
      · rw [if_neg (by omega)]
        by_cases c4 : x = i - 1
        · rw [if_pos c4, if_neg (by omega), if_neg (by omega)]
          have e1 := g4 y (by omega) hy
          have e2 := hB a y (Nat.le_refl _) (by omega) (by omega) hy
          unfold leK; omega
        · rw [if_neg c4, if_neg (by omega), if_neg (by omega)]; exact h2 _ _ (by omega) hxy hy
    rw [dif_neg hu]
    by_cases hv : b - m = 1
    · rw [dif_pos hv]
      obtain ⟨i, hi⟩ : ∃ i, bs2 (ltK key) d m a m = i := ⟨_, rfl⟩
      obtain ⟨g1, g2, g3, g4⟩ := bs2_spec d a m h1 _ a m rfl (Nat.le_refl _) ham (Nat.le_refl _) (fun x c1 c2 => by omega) (fun x c1 c2 => by omega)
      rw [hi] at g1 g2 g3 g4 ⊢
      refine ⟨shiftDn_perm a b i g1 _ _ _ rfl (by omega) hb, fun _ => ?_⟩
      intro x y hx hxy hy
      rw [shiftDn_at i _ m d rfl (by omega) (by omega), shiftDn_at i _ m d rfl (by omega) (by omega)]
      by_cases c1 : x < i
      · rw [if_neg (by omega), if_neg (by omega)]
        by_cases c2 : y < i
        · rw [if_neg (by omega), if_neg (by omega)]; exact h1 _ _ hx hxy (by omega)
        by_cases c3 : y = i
        · rw [if_neg (by omega), if_pos c3]
          have e1 := g3 x hx c1
          have e2 := hB x m hx (by omega) (Nat.le_refl _) (by omega)
          unfold leK; omega
        · rw [if_pos (by omega)]; exact h1 _ _ hx (by omega) (by omega)
      by_cases c4 : x = i
      · rw [if_neg (by omega), if_pos c4, if_pos (by omega)]; exact Or.inl (g4 _ (by omega) (by omega))
      · rw [if_pos (by omega), if_pos (by omega)]; exact h1 _ _ (by omega) (by omega) (by omega)
    rw [dif_neg hv]
    -- the middle
    have hs0 : a ≤ st0 a m b ∧ st0 a m b ≤ rt0 a m b ∧ rt0 a m b ≤ m ∧ (a + b) / 2 + m - 1 < b + st0 a m b ∧ m + rt0 a m b ≤ (a + b) / 2 + m - 1 + 1 ∧ (st0 a m b = a ∨ (a + b) / 2 + m - st0 a m b = b) ∧ (rt0 a m b = m ∨ rt0 a m b = (a + b) / 2) ∧ (a + b) / 2 + m - st0 a m b ≤ b := by
      unfold st0 rt0; split <;> omega
    obtain ⟨z1, z2, z3, z4, z5, z6, z7, z8⟩ := hs0
    obtain ⟨g1, g2, g3, g4⟩ := bs3_spec d a m b ((a + b) / 2 + m - 1) (st0 a m b) (rt0 a m b) h1 h2 z1 z3 z4 z5 z2 _ (st0 a m b) (rt0 a m b) rfl (Nat.le_refl _) z2 (Nat.le_refl _) (fun x c1 c2 => by omega) (fun x c1 c2 => by omega)
    have hsv : bs3 (ltK key) d ((a + b) / 2 + m - 1) (st0 a m b) (rt0 a m b) = strt (ltK key) d a m b := rfl
    rw [hsv] at g1 g2 g3 g4
    have hat := fun s hs a1 a2 a3 a4 => rotd_at (ltK key) d a m b s hs a1 a2 a3 a4 hb
    have hpr := fun a1 a2 => rotd_perm (ltK key) d a m b a1 a2 hb
    generalize strt (ltK key) d a m b = s at g1 g2 g3 g4 hat hpr ⊢
    have hat := hat s rfl (by omega) (by omega) (by omega) (by omega)
    have hpr := hpr (by omega) (by omega)
    generalize rotd (ltK key) d a m b = d1 at hat hpr ⊢
    have hsz1 : d1.size = d.size := hpr.1
    -- the four parts' order
    have hm1 : a < (a + b) / 2 ∧ (a + b) / 2 < b := by omega
    have A1 : Asc key idx a s d1 := fun i j c1 c2 c3 => by
      rw [hat, hat, if_neg (by omega), if_neg (by omega), if_neg (by omega), if_neg (by omega)]; exact h1 i j c1 c2 (by omega)
    have A2 : Asc key idx s ((a + b) / 2) d1 := fun i j c1 c2 c3 => by
      rw [hat, hat, if_pos (by omega), if_pos (by omega)]; exact h2 _ _ (by omega) (by omega) (by omega)
    have A3 : Asc key idx ((a + b) / 2) ((a + b) / 2 + m - s) d1 := fun i j c1 c2 c3 => by
      rw [hat, hat, if_neg (by omega), if_pos (by omega), if_neg (by omega), if_pos (by omega)]; exact h1 _ _ (by omega) (by omega) (by omega)
    have A4 : Asc key idx ((a + b) / 2 + m - s) b d1 := fun i j c1 c2 c3 => by
      rw [hat, hat, if_neg (by omega), if_neg (by omega), if_neg (by omega), if_neg (by omega)]; exact h2 i j (by omega) c2 (by omega)
    have B1 : Bef idx a s ((a + b) / 2) d1 := fun i j c1 c2 c3 c4 => by
      rw [hat, hat, if_neg (by omega), if_neg (by omega), if_pos (by omega)]; exact hB i _ c1 (by omega) (by omega) (by omega)
    have B2 : Bef idx ((a + b) / 2) ((a + b) / 2 + m - s) b d1 := fun i j c1 c2 c3 c4 => by
      rw [hat, hat, if_neg (by omega), if_pos (by omega), if_neg (by omega), if_neg (by omega)]; exact hB _ j (by omega) (by omega) (by omega) c4
    have C : ∀ i, a ≤ i → i < (a + b) / 2 → ∀ j, (a + b) / 2 ≤ j → j < b → leK key idx d1[i]! d1[j]! := by
      intro i i1 i2 j j1 j2
      rw [hat, hat]
      by_cases ci : i < s
      · rw [if_neg (by omega), if_neg (by omega)]
        by_cases cj : j < (a + b) / 2 + m - s
        · rw [if_neg (by omega), if_pos (by omega)]; exact h1 _ _ i1 (by omega) (by omega)
        · rw [if_neg (by omega), if_neg (by omega)]
          have e1 := asc_key h1 (i := i) (j := s - 1) i1 (by omega) (by omega)
          have e2 := g3 (s - 1) (by omega) (by omega)
          have e3 := asc_key h2 (i := (a + b) / 2 + m - 1 - (s - 1)) (j := j) (by omega) (by omega) j2
          have e4 := hB i j i1 (by omega) (by omega) j2
          unfold leK; omega
      · rw [if_pos (by omega)]
        by_cases cj : j < (a + b) / 2 + m - s
        · rw [if_neg (by omega), if_pos (by omega)]
          have e1 := asc_key h2 (i := i + (m - s)) (j := (a + b) / 2 + m - 1 - s) (by omega) (by omega) (by omega)
          have e2 := g4 s (Nat.le_refl _) (by omega)
          have e3 := asc_key h1 (i := s) (j := j - ((a + b) / 2 - s)) (by omega) (by omega) (by omega)
          unfold leK; omega
        · rw [if_neg (by omega), if_neg (by omega)]; exact h2 _ _ (by omega) (by omega) j2
    clear hat g3 g4 h1 h2 hB
    -- the first half
    have hF : ∃ d2, (if a < s ∧ s < (a + b) / 2 then symMerge (ltK key) a s ((a + b) / 2) d1 else d1) = d2 ∧ PermIn a ((a + b) / 2) d1 d2 ∧ Asc key idx a ((a + b) / 2) d2 := by
      by_cases c : a < s ∧ s < (a + b) / 2
      · obtain ⟨p1, p2⟩ := ih _ (by omega) a s ((a + b) / 2) d1 rfl (by omega) (by omega) (by omega) A1 A2 B1
        exact ⟨_, if_pos c, p1, p2 c⟩
      · refine ⟨d1, if_neg c, permIn_refl _ _ _, ?_⟩
        by_cases e : s = a
        · intro i j c1 c2 c3; exact A2 i j (by omega) c2 c3
        · rw [show (a + b) / 2 = s by omega]; exact A1
    obtain ⟨d2, e2, P2, S2⟩ := hF
    simp only [e2]
    have hsz2 : d2.size = d.size := P2.1.trans hsz1
    have k2 : ∀ j, (a + b) / 2 ≤ j → d2[j]! = d1[j]! := fun j hj => P2.2.1 j (.inr hj)
    have hG : ∃ d3, (if (a + b) / 2 < (a + b) / 2 + m - s ∧ (a + b) / 2 + m - s < b then symMerge (ltK key) ((a + b) / 2) ((a + b) / 2 + m - s) b d2 else d2) = d3 ∧ PermIn ((a + b) / 2) b d2 d3 ∧ Asc key idx ((a + b) / 2) b d3 := by
      have A3' : Asc key idx ((a + b) / 2) ((a + b) / 2 + m - s) d2 := fun i j c1 c2 c3 => by rw [k2 i (by omega), k2 j (by omega)]; exact A3 i j c1 c2 c3
      have A4' : Asc key idx ((a + b) / 2 + m - s) b d2 := fun i j c1 c2 c3 => by rw [k2 i (by omega), k2 j (by omega)]; exact A4 i j c1 c2 c3
      have B2' : Bef idx ((a + b) / 2) ((a + b) / 2 + m - s) b d2 := fun i j c1 c2 c3 c4 => by rw [k2 i (by omega), k2 j (by omega)]; exact B2 i j c1 c2 c3 c4
      by_cases c : (a + b) / 2 < (a + b) / 2 + m - s ∧ (a + b) / 2 + m - s < b
      · obtain ⟨p1, p2⟩ := ih _ (by omega) ((a + b) / 2) ((a + b) / 2 + m - s) b d2 rfl (by omega) (by omega) (by omega) A3' A4' B2'
        exact ⟨_, if_pos c, p1, p2 c⟩
      · refine ⟨d2, if_neg c, permIn_refl _ _ _, ?_⟩
        by_cases e : (a + b) / 2 + m - s = b
        · rw [e] at A3'; exact A3'
        · rw [show (a + b) / 2 + m - s = (a + b) / 2 by omega] at A4'; exact A4'
    obtain ⟨d3, e3, P3, S3⟩ := hG
    rw [e3]
    refine ⟨permIn_trans _ _ _ _ _ hpr (permIn_trans _ _ _ _ _ (perm_lift P2 (by omega) (by omega) (by omega)) (perm_lift P3 (by omega) (by omega) (by omega))), fun _ => ?_⟩
    have k3 : ∀ i, i < (a + b) / 2 → d3[i]! = d2[i]! := fun i hi => P3.2.1 i (.inl hi)
    have C2 : ∀ i, a ≤ i → i < (a + b) / 2 → ∀ j, (a + b) / 2 ≤ j → j < b → leK key idx d3[i]! d3[j]! := by
      intro i i1 i2 j j1 j2
      rw [k3 i i2]
      refine permIn_all d2 d3 ((a + b) / 2) b (fun y => leK key idx d2[i]! y) (by omega) P3 (fun j j1 j2 => ?_) j j1 j2
      rw [k2 j j1]
      exact permIn_all d1 d2 a ((a + b) / 2) (fun x => leK key idx x d1[j]!) (by omega) P2 (fun i i1 i2 => C i i1 i2 j j1 j2) i i1 i2
    intro i j c1 c2 c3
    by_cases cj : j < (a + b) / 2
    · rw [k3 i (by omega), k3 j cj]; exact S2 i j c1 c2 cj
    by_cases ci : i < (a + b) / 2
    · exact C2 i c1 ci j (by omega) c3
    · exact S3 i j (by omega) c2 c3
set_option linter.unusedSectionVars false
theorem swo_lex : SWO (lexK key idx) where
  irrefl x := by simp [lexK]
  trans x y z h1 h2 := by simp only [lexK, decide_eq_true_eq] at *; omega
  ntrans x y z h1 h2 := by simp only [lexK, decide_eq_false_iff_not] at *; omega
theorem asc_of_sorted {a b : Nat} {d : Array α} (h : SortedIn (lexK key idx) a b d) : Asc key idx a b d := fun i j h1 h2 h3 => by
  have := h i j h1 h2 h3
  simp only [lexK, decide_eq_false_iff_not] at this
  unfold leK; omega
/-- the insertion, by the key alone, of an element whose place is behind the others' is the insertion by key and place. -/
theorem insInner_lex (a : Nat) : ∀ (j : Nat) (d : Array α), j < d.size → (∀ k, a ≤ k → k < j → idx d[k]! < idx d[j]!) → insInner (ltK key) a j d = insInner (lexK key idx) a j d := by
  intro j
  induction j with
  | zero => intro d _ _; rw [insInner, insInner]
  | succ j ih =>
    intro d hs h
    rw [insInner, insInner]
    by_cases hj : j + 1 > a
    · have e : ltK key d[j + 1]! d[j]! = lexK key idx d[j + 1]! d[j]! := by
        have := h j (by omega) (by omega)
        unfold ltK lexK
        apply decide_eq_decide.2
        omega
      rw [e]
      by_cases hl : (decide (j + 1 > a) && lexK key idx d[j + 1]! d[j]!) = true
      · rw [if_pos hl, if_pos hl]
        refine ih _ (by rw [size_swp]; omega) (fun k h1 h2 => ?_)
        rw [swp_at d _ _ _ hs (by omega), swp_at d _ _ _ hs (by omega), if_neg (by omega), if_neg (by omega), if_neg (by omega), if_pos rfl]
        exact h k h1 (by omega)
      · rw [if_neg hl, if_neg hl]
    · rw [if_neg (by simp; omega), if_neg (by simp; omega)]
theorem insInner_perm (lt : α → α → Bool) (a b : Nat) : ∀ (j : Nat) (d : Array α), j < b → b ≤ d.size → PermIn a b d (insInner lt a j d) := by
  intro j
  induction j with
  | zero => intro d _ _; rw [insInner]; exact permIn_refl d a b
  | succ j ih =>
    intro d h1 h2
    rw [insInner]
    split
    · rename_i c
      simp only [Bool.and_eq_true, decide_eq_true_eq] at c
      exact permIn_trans _ _ _ _ _ (swp_permIn d a b (j + 1) j (by omega) (by omega) (by omega) (by omega) h2) (ih _ (by omega) (by rw [size_swp]; exact h2))
    · exact permIn_refl d a b
theorem insOuter_lex (a b : Nat) : ∀ (q i : Nat) (d : Array α), q = b - i → a < i → b ≤ d.size → (∀ k l, a ≤ k → k < l → i ≤ l → l < b → idx d[k]! < idx d[l]!) → insOuter (ltK key) a b i d = insOuter (lexK key idx) a b i d := by
  intro q
  induction q with
  | zero => intro i d hq _ _ _; rw [insOuter, if_neg (by omega), insOuter, if_neg (by omega)]
  | succ q ih =>
    intro i d hq ha hs h
    have hib : i < b := by omega
    have e1 : insOuter (ltK key) a b i d = insOuter (ltK key) a b (i + 1) (insInner (ltK key) a i d) := by rw [insOuter, if_pos hib]
    have e2 : insOuter (lexK key idx) a b i d = insOuter (lexK key idx) a b (i + 1) (insInner (lexK key idx) a i d) := by rw [insOuter, if_pos hib]
    rw [e1, e2, insInner_lex (idx := idx) a i d (by omega) (fun k h1 h2 => h k i h1 h2 (Nat.le_refl _) (by omega))]
    have hp := insInner_perm (lexK key idx) a (i + 1) i d (by omega) (by omega)
    refine ih (i + 1) _ (by omega) (by omega) (by rw [hp.1]; exact hs) (fun k l h1 h2 h3 h4 => ?_)
    rw [hp.2.1 l (.inr (by omega))]
    by_cases hk : k < i + 1
    · exact permIn_all d _ a (i + 1) (fun x => idx x < idx d[l]!) (by omega) hp (fun k' g1 g2 => h k' l g1 (by omega) (by omega) h4) k h1 hk
    · rw [hp.2.1 k (.inr (by omega))]; exact h k l h1 h2 (by omega) h4
theorem insertion_stable (d : Array α) (a b : Nat) (hab : a ≤ b) (hb : b ≤ d.size) (h : ∀ k l, a ≤ k → k < l → l < b → idx d[k]! < idx d[l]!) :
    PermIn a b d (insertionSort (ltK key) d a b) ∧ Asc key idx a b (insertionSort (ltK key) d a b) := by
  have e : insertionSort (ltK key) d a b = insertionSort (lexK key idx) d a b := by
    unfold insertionSort
    exact insOuter_lex a b _ (a + 1) d rfl (by omega) hb (fun k l h1 h2 _ h4 => h k l h1 h2 h4)
  rw [e]
  obtain ⟨h1, h2⟩ := insertionSort_holds (swo_lex (key := key) (idx := idx)) d a b hab hb
  exact ⟨h1, asc_of_sorted h2⟩
/-- a run from l on, s long or up to n: it ascends, and its elements' own places lie in it. -/
def Run (key : α → Int) (idx : α → Nat) (s n l : Nat) (d : Array α) : Prop := Asc key idx l (min (l + s) n) d ∧ ∀ k, l ≤ k → k < l + s → k < n → l ≤ idx d[k]! ∧ idx d[k]! < l + s
theorem Run.keep {s n l : Nat} {d d' : Array α} (h : Run key idx s n l d) (he : ∀ k, l ≤ k → k < l + s → k < n → d'[k]! = d[k]!) : Run key idx s n l d' :=
  ⟨fun i j h1 h2 h3 => by rw [he i h1 (by omega) (by omega), he j (by omega) (by omega) (by omega)]; exact h.1 i j h1 h2 h3, fun k h1 h2 h3 => by rw [he k h1 h2 h3]; exact h.2 k h1 h2 h3⟩
theorem run_ins {n l e : Nat} {d : Array α} (hn : n ≤ d.size) (h0 : ∀ k, k < n → idx d[k]! = k ∨ k < l) (he : e = min (l + 20) n) (hl : l ≤ n) :
    PermIn l e d (insertionSort (ltK key) d l e) ∧ Run key idx 20 n l (insertionSort (ltK key) d l e) := by
  obtain ⟨h1, h2⟩ := insertion_stable (key := key) (idx := idx) d l e (by omega) (by omega) (fun k m g1 g2 g3 => by
    have e1 := h0 k (by omega)
    have e2 := h0 m (by omega)
    omega)
  refine ⟨h1, ⟨by rw [← he]; exact h2, fun k g1 g2 g3 => ?_⟩⟩
  exact permIn_all d _ l e (fun x => l ≤ idx x ∧ idx x < l + 20) (by omega) h1 (fun k g1 g2 => by have := h0 k (by omega); omega) k g1 (by omega)
theorem blocks_holds (n : Nat) : ∀ (q p : Nat) (d : Array α), q = n - p * 20 → p * 20 ≤ n → n ≤ d.size → (∀ k, p * 20 ≤ k → k < n → idx d[k]! = k) → (∀ r, r < p → Run key idx 20 n (r * 20) d) →
    PermIn 0 n d (blocks (ltK key) n (p * 20) d) ∧ ∀ r, r * 20 ≤ n → Run key idx 20 n (r * 20) (blocks (ltK key) n (p * 20) d) := by
  intro q
  induction q using Nat.strongRecOn with
  | _ q ih =>
    intro p d hq hp hs h0 hr
    rw [blocks]
    by_cases c : p * 20 + 20 ≤ n
    · rw [if_pos c]
      obtain ⟨h1, h2⟩ := run_ins (key := key) (idx := idx) (l := p * 20) (e := p * 20 + 20) hs (fun k hk => by
        by_cases g : k < p * 20
        · exact .inr g
        · exact .inl (h0 k (by omega) hk)) (by omega) hp
      have hz : (insertionSort (ltK key) d (p * 20) (p * 20 + 20)).size = d.size := h1.1
      obtain ⟨g1, g2⟩ := ih (n - (p + 1) * 20) (by omega) (p + 1) (insertionSort (ltK key) d (p * 20) (p * 20 + 20)) rfl (by omega) (by omega) (fun k k1 k2 => by rw [h1.2.1 k (.inr (by omega))]; exact h0 k (by omega) k2) (fun r hrp => by
        by_cases e : r = p
        · subst e; exact h2
        · exact (hr r (by omega)).keep (fun k k1 k2 k3 => h1.2.1 k (.inl (by omega))))
      rw [show (p + 1) * 20 = p * 20 + 20 by omega] at g1 g2
      exact ⟨permIn_trans _ _ _ _ _ (perm_lift h1 (by omega) (by omega) hs) g1, g2⟩
    · rw [if_neg c]
      obtain ⟨h1, h2⟩ := run_ins (key := key) (idx := idx) (l := p * 20) (e := n) hs (fun k hk => by
        by_cases g : k < p * 20
        · exact .inr g
        · exact .inl (h0 k (by omega) hk)) (by omega) hp
      refine ⟨perm_lift h1 (by omega) (by omega) hs, fun r hrn => ?_⟩
      by_cases e : r = p
      · subst e; exact h2
      · by_cases e2 : r < p
        · exact (hr r e2).keep (fun k k1 k2 k3 => h1.2.1 k (.inl (by omega)))
        · exact absurd (show p * 20 + 20 ≤ n by omega) c
/-- two runs side by side are merged to one of twice the length. -/
theorem run_merge {s n l b : Nat} {d : Array α} (hn : n ≤ d.size) (hs : l + s < n) (hs0 : 0 < s) (hb : b = min (l + 2 * s) n) (h1 : Run key idx s n l d) (h2 : Run key idx s n (l + s) d) :
    PermIn l b d (symMerge (ltK key) l (l + s) b d) ∧ Run key idx (s * 2) n l (symMerge (ltK key) l (l + s) b d) := by
  have e1 : min (l + s) n = l + s := by omega
  have e2 : min (l + s + s) n = b := by omega
  obtain ⟨g1, g2⟩ := symMerge_holds (key := key) (idx := idx) _ l (l + s) b d rfl (by omega) (by omega) (by omega) (by have := h1.1; rw [e1] at this; exact this) (by have := h2.1; rw [e2] at this; exact this) (fun i j i1 i2 i3 i4 => by
    have := h1.2 i i1 i2 (by omega)
    have := h2.2 j i3 (by omega) (by omega)
    omega)
  refine ⟨g1, by rw [show min (l + s * 2) n = b by omega]; exact g2 (by omega), fun k k1 k2 k3 => ?_⟩
  refine permIn_all d _ l b (fun x => l ≤ idx x ∧ idx x < l + s * 2) (by omega) g1 (fun k k1 k2 => ?_) k k1 (by omega)
  by_cases c : k < l + s
  · have := h1.2 k k1 c (by omega); omega
  · have := h2.2 k (by omega) (by omega) (by omega); omega
theorem run_short {s n l : Nat} {d : Array α} (h : Run key idx s n l d) (hs : n ≤ l + s) : Run key idx (s * 2) n l d :=
  ⟨by have := h.1; rw [show min (l + s) n = min (l + s * 2) n by omega] at this; exact this, fun k k1 k2 k3 => by have := h.2 k k1 (by omega) k3; omega⟩
theorem mergePass_holds (s n : Nat) (hs0 : 0 < s) : ∀ (q p a : Nat) (d : Array α), q = n - a → a = p * (s * 2) → a ≤ n → n ≤ d.size → (∀ r, r < p → Run key idx (s * 2) n (r * (s * 2)) d) → (∀ r, p * 2 ≤ r → r * s ≤ n → Run key idx s n (r * s) d) →
    PermIn 0 n d (mergePass (ltK key) s n a d) ∧ ∀ r, r * (s * 2) ≤ n → Run key idx (s * 2) n (r * (s * 2)) (mergePass (ltK key) s n a d) := by
  intro q
  induction q using Nat.strongRecOn with
  | _ q ih =>
    intro p a d hq ha hp hs h1 h2
    have hl0 : p * 2 * s = a := by rw [ha, Nat.mul_assoc, Nat.mul_comm 2 s]
    have hl1 : (p * 2 + 1) * s = a + s := by rw [Nat.succ_mul, hl0]
    have hpp : (p + 1) * (s * 2) = a + s * 2 := by rw [Nat.succ_mul, ← ha]
    have hlt : ∀ r, r < p → r * (s * 2) + s * 2 ≤ a := fun r hr => by
      have := Nat.mul_le_mul_right (s * 2) (show r + 1 ≤ p from hr)
      rw [Nat.succ_mul] at this; omega
    have hgt : ∀ r, p + 1 ≤ r → a + s * 2 ≤ r * (s * 2) := fun r hr => by
      have := Nat.mul_le_mul_right (s * 2) hr
      omega
    have hgt2 : ∀ r, (p + 1) * 2 ≤ r → a + s * 2 ≤ r * s := fun r hr => by
      have := Nat.mul_le_mul_right s hr
      rw [Nat.mul_assoc, Nat.mul_comm 2 s] at this; omega
    rw [mergePass]
    by_cases c : a + 2 * s ≤ n ∧ 0 < s
    · rw [dif_pos c]
      obtain ⟨g1, g2⟩ := run_merge (key := key) (idx := idx) (l := a) (b := a + 2 * s) hs (by omega) hs0 (by omega) (by rw [← hl0]; exact h2 (p * 2) (Nat.le_refl _) (by omega)) (by rw [← hl1]; exact h2 (p * 2 + 1) (by omega) (by omega))
      obtain ⟨k1, k2⟩ := ih (n - (a + 2 * s)) (by omega) (p + 1) (a + 2 * s) _ rfl (by omega) c.1 (by rw [g1.1]; exact hs) (fun r hr => by
        by_cases e : r = p
        · subst e; rw [← ha]; exact g2
        · have := hlt r (by omega)
          exact (h1 r (by omega)).keep (fun k k1 k2 k3 => g1.2.1 k (.inl (by omega)))) (fun r hr hrn => by
        have := hgt2 r hr
        exact (h2 r (by omega) hrn).keep (fun k k1 k2 k3 => g1.2.1 k (.inr (by omega))))
      exact ⟨permIn_trans _ _ _ _ _ (perm_lift g1 (by omega) (by omega) hs) k1, k2⟩
    · rw [dif_neg c]
      by_cases c2 : a + s < n
      · rw [if_pos c2]
        obtain ⟨g1, g2⟩ := run_merge (key := key) (idx := idx) (l := a) (b := n) hs (by omega) hs0 (by omega) (by rw [← hl0]; exact h2 (p * 2) (Nat.le_refl _) (by omega)) (by rw [← hl1]; exact h2 (p * 2 + 1) (by omega) (by omega))
        refine ⟨perm_lift g1 (by omega) (by omega) hs, fun r hr => ?_⟩
        by_cases e : r = p
        · subst e; rw [← ha]; exact g2
        by_cases e2 : r < p
        · have := hlt r e2
          exact (h1 r e2).keep (fun k k1 k2 k3 => g1.2.1 k (.inl (by omega)))
        · have := hgt r (by omega)
          exact absurd (show a + 2 * s ≤ n ∧ 0 < s by omega) c
      · rw [if_neg c2]
        refine ⟨permIn_refl _ _ _, fun r hr => ?_⟩
        by_cases e : r = p
        · subst e
          rw [← ha]
          exact run_short (by rw [← hl0]; exact h2 (r * 2) (Nat.le_refl _) (by omega)) (by omega)
        by_cases e2 : r < p
        · exact h1 r e2
        · have := hgt r (by omega)
          exact absurd (show a + 2 * s ≤ n ∧ 0 < s by omega) c
theorem mergeAll_holds (n : Nat) : ∀ (q s : Nat) (d : Array α), q = n - s → 0 < s → n ≤ d.size → (∀ r, r * s ≤ n → Run key idx s n (r * s) d) →
    PermIn 0 n d (mergeAll (ltK key) s n d) ∧ Asc key idx 0 n (mergeAll (ltK key) s n d) := by
  intro q
  induction q using Nat.strongRecOn with
  | _ q ih =>
    intro s d hq hs0 hs h
    rw [mergeAll]
    by_cases c : s < n ∧ 0 < s
    · rw [dif_pos c]
      obtain ⟨g1, g2⟩ := mergePass_holds s n hs0 _ 0 0 d rfl (by omega) (by omega) hs (fun r hr => by omega) (fun r _ hr => h r hr)
      obtain ⟨k1, k2⟩ := ih (n - s * 2) (by omega) (s * 2) _ rfl (by omega) (by rw [g1.1]; exact hs) g2
      exact ⟨permIn_trans _ _ _ _ _ g1 k1, k2⟩
    · rw [dif_neg c]
      refine ⟨permIn_refl _ _ _, ?_⟩
      have := (h 0 (by omega)).1
      rw [Nat.zero_mul, show min (0 + s) n = n by omega] at this
      exact this
/-- THE STABLE SORT: a permutation, ascending by the key, equals in the order of their places. -/
theorem stable_holds (n : Nat) (d : Array α) (hs : n ≤ d.size) (h : ∀ k, k < n → idx d[k]! = k) : PermIn 0 n d (stable (ltK key) n d) ∧ Asc key idx 0 n (stable (ltK key) n d) := by
  unfold stable
  obtain ⟨g1, g2⟩ := blocks_holds (key := key) (idx := idx) n _ 0 d rfl (by omega) hs (fun k _ hk => h k hk) (fun r hr => by omega)
  rw [Nat.zero_mul] at g1 g2
  obtain ⟨k1, k2⟩ := mergeAll_holds (key := key) (idx := idx) n _ 20 _ rfl (by omega) (by rw [g1.1]; exact hs) g2
  exact ⟨permIn_trans _ _ _ _ _ g1 k1, k2⟩
end Go.Proofs.YteijndaldkkpfaaW.Stab
