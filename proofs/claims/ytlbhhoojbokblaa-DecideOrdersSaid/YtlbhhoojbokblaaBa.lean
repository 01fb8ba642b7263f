/- Plain laws of sorting in place: rows that are turned, segments that are sorted, two that are merged. Conditions: none. -/
import Derived.Test.YtlbhhoojbokblaaKnO
set_option linter.unusedVariables false
set_option linter.unusedSimpArgs false
namespace Go.Proofs.Ytlbhhoojbokblaa
open Go.Kern

abbrev gd (ls : List Int) (k : Nat) : Int := ls.getD k 0
theorem gd_set {ls : List Int} {i : Nat} (hi : i < ls.length) (x : Int) (j : Nat) : gd (ls.set i x) j = if i = j then x else gd ls j := by
  simp only [gd, List.getD_eq_getElem?_getD, List.getElem?_set]
  split
  · simp [hi]
  · rfl
theorem ext_gd {a b : List Int} (hl : a.length = b.length) (h : ∀ k, k < a.length → gd a k = gd b k) : a = b := by
  apply List.ext_getElem hl
  intro k h1 h2
  have := h k h1
  simpa [gd, List.getD_eq_getElem?_getD, h1, h2] using this
/-- The list of the values of f. -/
def tab (n : Nat) (f : Nat → Int) : List Int := (List.range n).map f
theorem tab_length (n : Nat) (f : Nat → Int) : (tab n f).length = n := by simp [tab]
theorem gd_tab {n : Nat} (f : Nat → Int) {k : Nat} (h : k < n) : gd (tab n f) k = f k := by simp [gd, tab, List.getD_eq_getElem?_getD, h]

def swp (ls : List Int) (i j : Nat) : List Int := (ls.set i (gd ls j)).set j (gd ls i)
theorem swp_length (ls : List Int) (i j : Nat) : (swp ls i j).length = ls.length := by simp [swp]
theorem gd_swp {ls : List Int} {i j : Nat} (hi : i < ls.length) (hj : j < ls.length) (k : Nat) : gd (swp ls i j) k = if k = j then gd ls i else if k = i then gd ls j else gd ls k := by
  unfold swp
  rw [gd_set (by simpa using hj), gd_set hi]
  by_cases h1 : k = j
  · subst h1; simp
  · rw [if_neg (fun e => h1 e.symm), if_neg h1]
    by_cases h2 : k = i
    · subst h2; simp
    · rw [if_neg (fun e => h2 e.symm), if_neg h2]

/-- The first i of two rows of n, at a and at b, exchanged. -/
def swapT (ls : List Int) (a b i : Nat) : List Int := tab ls.length fun k => if a ≤ k ∧ k < a + i then gd ls (k - a + b) else if b ≤ k ∧ k < b + i then gd ls (k - b + a) else gd ls k
theorem swapT_length (ls : List Int) (a b i : Nat) : (swapT ls a b i).length = ls.length := tab_length _ _
theorem gd_swapT {ls : List Int} {a b i k : Nat} (h : k < ls.length) : gd (swapT ls a b i) k = if a ≤ k ∧ k < a + i then gd ls (k - a + b) else if b ≤ k ∧ k < b + i then gd ls (k - b + a) else gd ls k := gd_tab _ h
theorem swapT_zero (ls : List Int) (a b : Nat) : swapT ls a b 0 = ls := by
  refine ext_gd (swapT_length _ _ _ _) fun k hk => ?_
  rw [swapT_length] at hk
  rw [gd_swapT hk, if_neg (by omega), if_neg (by omega)]
theorem swapT_succ {ls : List Int} {a b i n : Nat} (h1 : a + n ≤ b) (h2 : b + n ≤ ls.length) (hi : i < n) : swp (swapT ls a b i) (a + i) (b + i) = swapT ls a b (i + 1) := by
  have hl := swapT_length ls a b i
  refine ext_gd (by rw [swp_length, swapT_length, swapT_length]) fun k hk => ?_
  rw [swp_length, hl] at hk
  rw [gd_swp (by omega) (by omega), gd_swapT hk, gd_swapT hk, gd_swapT (by omega), gd_swapT (by omega)]
  by_cases e1 : k = b + i
  · subst e1
    rw [if_pos rfl, if_neg (by omega), if_neg (by omega), if_neg (by omega), if_pos (by omega)]
    congr 1; omega
  · rw [if_neg e1]
    by_cases e2 : k = a + i
    · subst e2
      rw [if_pos rfl, if_neg (by omega), if_neg (by omega), if_pos (by omega)]
      congr 1; omega
    · rw [if_neg e2]
      by_cases e3 : a ≤ k ∧ k < a + i
      · rw [if_pos e3, if_pos (by omega)]
      · rw [if_neg e3, if_neg (show ¬ (a ≤ k ∧ k < a + (i + 1)) by omega)]
        by_cases e4 : b ≤ k ∧ k < b + i
        · rw [if_pos e4, if_pos (by omega)]
        · rw [if_neg e4, if_neg (by omega)]

/-- [a, m) and [m, b) exchanged. -/
def rotT (ls : List Int) (a m b : Nat) : List Int := tab ls.length fun k => if a ≤ k ∧ k < b then (if k < a + (b - m) then gd ls (k - a + m) else gd ls (k - (b - m))) else gd ls k
theorem rotT_length (ls : List Int) (a m b : Nat) : (rotT ls a m b).length = ls.length := tab_length _ _
theorem gd_rotT {ls : List Int} {a m b k : Nat} (h : k < ls.length) : gd (rotT ls a m b) k = if a ≤ k ∧ k < b then (if k < a + (b - m) then gd ls (k - a + m) else gd ls (k - (b - m))) else gd ls k := gd_tab _ h

theorem rot_id {ls : List Int} {m b : Nat} (a : Nat) (h : a = m ∨ b = m) (hb : b ≤ ls.length) : rotT ls a m b = ls := by
  refine ext_gd (rotT_length _ _ _ _) fun k hk => ?_
  rw [rotT_length] at hk
  rw [gd_rotT hk]
  split
  · split
    · congr 1; omega
    · congr 1; omega
  · rfl
theorem rot_gt {ls : List Int} {i j m : Nat} (h1 : j ≤ i) (h2 : i ≤ m) (h3 : m + j ≤ ls.length) : rotT (swapT ls (m - i) m j) (m - (i - j)) m (m + j) = rotT ls (m - i) m (m + j) := by
  refine ext_gd (by simp only [rotT_length, swapT_length]) fun k hk => ?_
  rw [rotT_length, swapT_length] at hk
  rw [gd_rotT (by rw [swapT_length]; exact hk), gd_rotT hk]
  by_cases e1 : m - i ≤ k ∧ k < m + j
  · rw [if_pos e1]
    by_cases e2 : k < m - i + (m + j - m)
    · rw [if_pos e2, if_neg (by omega), gd_swapT hk, if_pos (by omega)]
    · rw [if_neg e2, if_pos (by omega)]
      by_cases e3 : k < m - (i - j) + (m + j - m)
      · rw [if_pos e3, gd_swapT (by omega), if_neg (by omega), if_pos (by omega)]
        congr 1; omega
      · rw [if_neg e3, gd_swapT (by omega), if_neg (by omega), if_neg (by omega)]
  · rw [if_neg e1, if_neg (by omega), gd_swapT hk, if_neg (by omega), if_neg (by omega)]
theorem rot_lt {ls : List Int} {i j m : Nat} (h1 : i ≤ j) (h2 : i ≤ m) (h3 : m + j ≤ ls.length) : rotT (swapT ls (m - i) (m + j - i) i) (m - i) m (m + (j - i)) = rotT ls (m - i) m (m + j) := by
  refine ext_gd (by simp only [rotT_length, swapT_length]) fun k hk => ?_
  rw [rotT_length, swapT_length] at hk
  rw [gd_rotT (by rw [swapT_length]; exact hk), gd_rotT hk]
  by_cases e1 : m - i ≤ k ∧ k < m + j
  · rw [if_pos e1]
    by_cases e2 : k < m - i + (m + j - m)
    · rw [if_pos e2]
      by_cases e3 : k < m + (j - i)
      · rw [if_pos (by omega)]
        by_cases e4 : k < m - i + (m + (j - i) - m)
        · rw [if_pos e4, gd_swapT (by omega), if_neg (by omega), if_neg (by omega)]
        · rw [if_neg e4, gd_swapT (by omega), if_pos (by omega)]
          congr 1; omega
      · exact absurd e2 (by omega)
    · rw [if_neg e2, if_neg (by omega), gd_swapT hk, if_neg (by omega), if_pos (by omega)]
      congr 1; omega
  · rw [if_neg e1, if_neg (by omega), gd_swapT hk, if_neg (by omega), if_neg (by omega)]
theorem rot_eq {ls : List Int} {i m : Nat} (h2 : i ≤ m) (h3 : m + i ≤ ls.length) : swapT ls (m - i) m i = rotT ls (m - i) m (m + i) := by
  refine ext_gd (by simp only [rotT_length, swapT_length]) fun k hk => ?_
  rw [swapT_length] at hk
  rw [gd_rotT hk, gd_swapT hk]
  by_cases e1 : m - i ≤ k ∧ k < m + i
  · rw [if_pos e1]
    by_cases e2 : k < m - i + (m + i - m)
    · rw [if_pos e2, if_pos (by omega)]
    · rw [if_neg e2, if_neg (by omega), if_pos (by omega)]
      congr 1; omega
  · rw [if_neg e1, if_neg (by omega), if_neg (by omega)]
/-- One thing moves up. -/
theorem rot_up {ls : List Int} {a k : Nat} (h : a ≤ k) (hk : k + 1 < ls.length) : swp (rotT ls a (a + 1) (k + 1)) k (k + 1) = rotT ls a (a + 1) (k + 2) := by
  have hl := rotT_length ls a (a + 1) (k + 1)
  refine ext_gd (by rw [swp_length, rotT_length, rotT_length]) fun q hq => ?_
  rw [swp_length, hl] at hq
  rw [gd_swp (by omega) (by omega), gd_rotT hq, gd_rotT hq, gd_rotT (by omega), gd_rotT (by omega)]
  by_cases e1 : q = k + 1
  · subst e1
    rw [if_pos rfl, if_pos (by omega), if_neg (by omega), if_pos (by omega), if_neg (by omega)]
    congr 1; omega
  · rw [if_neg e1]
    by_cases e2 : q = k
    · subst e2
      rw [if_pos rfl, if_neg (by omega), if_pos (by omega), if_pos (by omega)]
      congr 1; omega
    · rw [if_neg e2]
      by_cases e3 : a ≤ q ∧ q < k + 1
      · rw [if_pos e3, if_pos (by omega), if_pos (by omega), if_pos (by omega)]
      · rw [if_neg e3, if_neg (by omega)]
/-- One thing moves down. -/
theorem rot_down {ls : List Int} {k m : Nat} (h : 0 < k) (hk : k ≤ m) (hm : m < ls.length) : swp (rotT ls k m (m + 1)) k (k - 1) = rotT ls (k - 1) m (m + 1) := by
  have hl := rotT_length ls k m (m + 1)
  refine ext_gd (by rw [swp_length, rotT_length, rotT_length]) fun q hq => ?_
  rw [swp_length, hl] at hq
  rw [gd_swp (by omega) (by omega), gd_rotT hq, gd_rotT hq, gd_rotT (by omega), gd_rotT (by omega)]
  by_cases e1 : q = k - 1
  · subst e1
    rw [if_pos rfl, if_pos (by omega), if_pos (by omega), if_pos (by omega), if_pos (by omega)]
    congr 1; omega
  · rw [if_neg e1]
    by_cases e2 : q = k
    · subst e2
      rw [if_pos rfl, if_neg (by omega), if_pos (by omega), if_neg (by omega)]
      congr 1; omega
    · rw [if_neg e2]
      by_cases e3 : k ≤ q ∧ q < m + 1
      · rw [if_pos e3, if_neg (by omega), if_pos (by omega), if_neg (by omega)]
      · rw [if_neg e3, if_neg (by omega)]

/-! What stays: all values, each as often as it was. -/
theorem gd_take {l : List Int} {n k : Nat} : gd (l.take n) k = if k < n then gd l k else 0 := by
  simp only [gd, List.getD_eq_getElem?_getD, List.getElem?_take]
  split <;> rfl
theorem gd_drop {l : List Int} {n k : Nat} : gd (l.drop n) k = gd l (n + k) := by
  simp only [gd, List.getD_eq_getElem?_getD, List.getElem?_drop]
theorem gd_append {a b : List Int} {k : Nat} : gd (a ++ b) k = if k < a.length then gd a k else gd b (k - a.length) := by
  simp only [gd, List.getD_eq_getElem?_getD, List.getElem?_append]
  split <;> rfl
theorem rot_cut {ls : List Int} {a m b : Nat} (h1 : a ≤ m) (h2 : m ≤ b) (h3 : b ≤ ls.length) : rotT ls a m b = ls.take a ++ ((ls.drop m).take (b - m) ++ ((ls.drop a).take (m - a) ++ ls.drop b)) := by
  have l1 : (ls.take a).length = a := by rw [List.length_take]; omega
  have l2 : ((ls.drop m).take (b - m)).length = b - m := by rw [List.length_take, List.length_drop]; omega
  have l3 : ((ls.drop a).take (m - a)).length = m - a := by rw [List.length_take, List.length_drop]; omega
  have l4 : (ls.drop b).length = ls.length - b := List.length_drop
  refine ext_gd (by rw [rotT_length, List.length_append, List.length_append, List.length_append, l1, l2, l3, l4]; omega) fun k hk => ?_
  rw [rotT_length] at hk
  rw [gd_rotT hk, gd_append, gd_append, gd_append, l1, l2, l3]
  by_cases e1 : k < a
  · rw [if_neg (by omega), if_pos e1, gd_take, if_pos e1]
  · rw [if_neg e1]
    by_cases e2 : k - a < b - m
    · rw [if_pos e2, if_pos (by omega), if_pos (by omega), gd_take, if_pos e2, gd_drop]
      congr 1; omega
    · rw [if_neg e2]
      by_cases e3 : k - a - (b - m) < m - a
      · rw [if_pos e3, if_pos (by omega), if_neg (by omega), gd_take, if_pos e3, gd_drop]
        congr 1; omega
      · rw [if_neg e3, if_neg (by omega), gd_drop]
        congr 1; omega
theorem cut_id {ls : List Int} {a m b : Nat} (h1 : a ≤ m) (h2 : m ≤ b) (h3 : b ≤ ls.length) : ls = ls.take a ++ ((ls.drop a).take (m - a) ++ ((ls.drop m).take (b - m) ++ ls.drop b)) := by
  have e1 : (ls.drop m).take (b - m) ++ ls.drop b = ls.drop m := by
    have := List.take_append_drop (b - m) (ls.drop m)
    rw [List.drop_drop, show m + (b - m) = b by omega] at this
    exact this
  have e2 : (ls.drop a).take (m - a) ++ ls.drop m = ls.drop a := by
    have := List.take_append_drop (m - a) (ls.drop a)
    rw [List.drop_drop, show a + (m - a) = m by omega] at this
    exact this
  rw [e1, e2, List.take_append_drop]
theorem rot_perm {ls : List Int} {a m b : Nat} (h1 : a ≤ m) (h2 : m ≤ b) (h3 : b ≤ ls.length) : (rotT ls a m b).Perm ls := by
  rw [rot_cut h1 h2 h3]
  refine List.Perm.trans ?_ (List.Perm.of_eq (cut_id h1 h2 h3).symm)
  refine List.Perm.append_left _ ?_
  rw [← List.append_assoc, ← List.append_assoc]
  exact List.Perm.append_right _ List.perm_append_comm

/-! Segments. -/
section
variable (V : Int → Prop) (tl : Int → Int → Prop)
def SortedAt (ls : List Int) (a b : Nat) : Prop := ∀ i j, a ≤ i → i < j → j < b → tl (gd ls i) (gd ls j)
/-- What stands in [a, b) stood there. -/
def SegIn (ls' ls : List Int) (a b : Nat) : Prop := ∀ k, a ≤ k → k < b → ∃ q, a ≤ q ∧ q < b ∧ gd ls' k = gd ls q
def Same (ls' ls : List Int) (a b : Nat) : Prop := ∀ k, (k < a ∨ b ≤ k) → gd ls' k = gd ls k

variable {V} {tl}
theorem SortedAt.join {ls : List Int} {a k b : Nat} (h1 : SortedAt tl ls a k) (h2 : SortedAt tl ls k b) (h : ∀ i j, a ≤ i → i < k → k ≤ j → j < b → tl (gd ls i) (gd ls j)) : SortedAt tl ls a b := by
  intro i j hi hij hj
  by_cases e1 : j < k
  · exact h1 i j hi hij e1
  · by_cases e2 : k ≤ i
    · exact h2 i j e2 hij hj
    · exact h i j hi (by omega) (by omega) hj
theorem SortedAt.sub {ls : List Int} {a b a' b' : Nat} (h : SortedAt tl ls a b) (h1 : a ≤ a') (h2 : b' ≤ b) : SortedAt tl ls a' b' := fun i j hi hij hj => h i j (by omega) hij (by omega)
theorem SortedAt.of_same {ls ls' : List Int} {a b : Nat} (h : SortedAt tl ls a b) (he : ∀ k, a ≤ k → k < b → gd ls' k = gd ls k) : SortedAt tl ls' a b := fun i j hi hij hj => by
  rw [he i hi (by omega), he j (by omega) hj]; exact h i j hi hij hj

theorem rot_same {ls : List Int} {a m b : Nat} (h1 : a ≤ m) (h2 : m ≤ b) (h3 : b ≤ ls.length) : Same (rotT ls a m b) ls a b := by
  intro k hk
  by_cases hl : k < ls.length
  · rw [gd_rotT hl, if_neg (by omega)]
  · have e : (rotT ls a m b).length = ls.length := rotT_length _ _ _ _
    simp [gd, List.getD_eq_getElem?_getD, List.getElem?_eq_none (show ls.length ≤ k by omega), List.getElem?_eq_none (show (rotT ls a m b).length ≤ k by omega)]
theorem rot_seg {ls : List Int} {a m b : Nat} (h1 : a ≤ m) (h2 : m ≤ b) (h3 : b ≤ ls.length) : SegIn (rotT ls a m b) ls a b := by
  intro k hk1 hk2
  rw [gd_rotT (by omega), if_pos ⟨hk1, hk2⟩]
  split
  · exact ⟨_, by omega, by omega, rfl⟩
  · exact ⟨_, by omega, by omega, rfl⟩
theorem Same.refl (ls : List Int) (a b : Nat) : Same ls ls a b := fun _ _ => rfl
theorem Same.trans {l1 l2 l3 : List Int} {a b : Nat} (h1 : Same l1 l2 a b) (h2 : Same l2 l3 a b) : Same l1 l3 a b := fun k hk => (h1 k hk).trans (h2 k hk)
theorem Same.wide {l1 l2 : List Int} {a b a' b' : Nat} (h : Same l1 l2 a b) (h1 : a' ≤ a) (h2 : b ≤ b') : Same l1 l2 a' b' := fun k hk => h k (by omega)
theorem SegIn.refl (ls : List Int) (a b : Nat) : SegIn ls ls a b := fun k h1 h2 => ⟨k, h1, h2, rfl⟩
theorem SegIn.trans {l1 l2 l3 : List Int} {a b : Nat} (h1 : SegIn l1 l2 a b) (h2 : SegIn l2 l3 a b) : SegIn l1 l3 a b := fun k hk1 hk2 => by
  obtain ⟨q, q1, q2, e⟩ := h1 k hk1 hk2
  obtain ⟨r, r1, r2, e2⟩ := h2 q q1 q2
  exact ⟨r, r1, r2, e.trans e2⟩
theorem SegIn.wide {l1 l2 : List Int} {a b a' b' : Nat} (h : SegIn l1 l2 a b) (hs : Same l1 l2 a b) (h1 : a' ≤ a) (h2 : b ≤ b') : SegIn l1 l2 a' b' := fun k hk1 hk2 => by
  by_cases e : a ≤ k ∧ k < b
  · obtain ⟨q, q1, q2, e2⟩ := h k e.1 e.2
    exact ⟨q, by omega, by omega, e2⟩
  · exact ⟨k, hk1, hk2, hs k (by omega)⟩

/-- Two sorted segments; [s, m) and [m, e) are exchanged: what stands in front comes ahead of what stands behind. -/
theorem merge_split {ls : List Int} {a s m e b : Nat} (h1 : a ≤ s) (h2 : s ≤ m) (h3 : m ≤ e) (h4 : e ≤ b) (hb : b ≤ ls.length) (hL : SortedAt tl ls a m) (hR : SortedAt tl ls m b)
    (hx : ∀ p q, s ≤ p → p < m → m ≤ q → q < e → tl (gd ls q) (gd ls p)) (hy : ∀ p q, a ≤ p → p < s → e ≤ q → q < b → tl (gd ls p) (gd ls q)) :
    ∀ i j, a ≤ i → i < s + (e - m) → s + (e - m) ≤ j → j < b → tl (gd (rotT ls s m e) i) (gd (rotT ls s m e) j) := by
  intro i j hi hik hkj hj
  rw [gd_rotT (by omega), gd_rotT (by omega)]
  by_cases e1 : i < s
  · rw [if_neg (by omega)]
    by_cases e2 : j < e
    · rw [if_pos (by omega), if_neg (by omega)]
      exact hL i _ hi (by omega) (by omega)
    · rw [if_neg (by omega)]
      exact hy i j hi e1 (by omega) hj
  · rw [if_pos (by omega), if_pos (by omega)]
    by_cases e2 : j < e
    · rw [if_pos (by omega), if_neg (by omega)]
      exact hx _ _ (by omega) (by omega) (by omega) (by omega)
    · rw [if_neg (by omega)]
      exact hR _ _ (by omega) (by omega) hj
/-- The four parts behind the exchange. -/
theorem rot_L {ls : List Int} {a s m e b : Nat} (h1 : a ≤ s) (h2 : s ≤ m) (h3 : m ≤ e) (h4 : e ≤ b) (hb : b ≤ ls.length) (hL : SortedAt tl ls a m) : SortedAt tl (rotT ls s m e) a s :=
  (hL.sub (Nat.le_refl _) h2).of_same fun k hk1 hk2 => rot_same h2 h3 (by omega) k (by omega)
theorem rot_R {ls : List Int} {s m e b : Nat} (h2 : s ≤ m) (h3 : m ≤ e) (h4 : e ≤ b) (hb : b ≤ ls.length) (hR : SortedAt tl ls m b) : SortedAt tl (rotT ls s m e) e b :=
  (hR.sub (by omega) (Nat.le_refl _)).of_same fun k hk1 hk2 => rot_same h2 h3 (by omega) k (by omega)
theorem rot_M {ls : List Int} {s m e b : Nat} (h2 : s ≤ m) (h3 : m ≤ e) (h4 : e ≤ b) (hb : b ≤ ls.length) (hR : SortedAt tl ls m b) : SortedAt tl (rotT ls s m e) s (s + (e - m)) := by
  intro i j hi hij hj
  rw [gd_rotT (by omega), gd_rotT (by omega), if_pos (by omega), if_pos (by omega), if_pos (by omega), if_pos (by omega)]
  exact hR _ _ (by omega) (by omega) (by omega)
theorem rot_N {ls : List Int} {a s m e : Nat} (h1 : a ≤ s) (h2 : s ≤ m) (h3 : m ≤ e) (hb : e ≤ ls.length) (hL : SortedAt tl ls a m) : SortedAt tl (rotT ls s m e) (s + (e - m)) e := by
  intro i j hi hij hj
  rw [gd_rotT (by omega), gd_rotT (by omega), if_pos (by omega), if_neg (by omega), if_pos (by omega), if_neg (by omega)]
  exact hL _ _ (by omega) (by omega) (by omega)
end
end Go.Proofs.Ytlbhhoojbokblaa
