/- Plain laws of merging in place; what a comparison answers. Conditions: none. -/
import Derived.Test.YtlbhhoojbokblaaBb
set_option linter.unusedVariables false
set_option linter.unusedSimpArgs false
set_option linter.unusedSectionVars false
namespace Go.Proofs.Ytlbhhoojbokblaa
open Go.Kern

/-- What a comparison answers of values that may be. -/
def Cmp (fi : Nat) (cp : AV) (V : Int → Prop) (c : Int → Int → Int) : Prop := ∀ x y, V x → V y → ∀ s, PCall Try.prog fi [.int .i64 x, .int .i64 y, cp] s (fun r t => r = .int .i64 (c x y) ∧ t = s)
/-- An order in which of two that are alike the lesser number comes first. -/
structure Ord (V : Int → Prop) (tl : Int → Int → Prop) (c : Int → Int → Int) : Prop where
  ahead : ∀ x y, V x → V y → x < y → (c y x < 0 ↔ tl y x)
  tot : ∀ x y, V x → V y → x < y → ¬ tl y x → tl x y
  trans : ∀ x y z, V x → V y → V z → tl x y → tl y z → tl x z
def AllV (V : Int → Prop) (ls : List Int) : Prop := ∀ k, k < ls.length → V (gd ls k)
theorem AllV.perm {V : Int → Prop} {l l' : List Int} (h : AllV V l) (hp : l'.Perm l) : AllV V l' := by
  intro k hk
  have hm : gd l' k ∈ l' := by simp [gd, List.getD_eq_getElem?_getD, hk]
  have := hp.mem_iff.1 hm
  obtain ⟨q, hq, e⟩ := List.getElem_of_mem this
  have h2 := h q hq
  have e2 : gd l q = gd l' k := by rw [← e]; simp [gd, List.getD_eq_getElem?_getD, hq]
  rw [← e2]; exact h2

structure Res (tl : Int → Int → Prop) (l' l : List Int) (a b : Nat) : Prop where
  len : l'.length = l.length
  perm : l'.Perm l
  same : Same l' l a b
  seg : SegIn l' l a b
  srt : SortedAt tl l' a b

section
variable {V : Int → Prop} {tl : Int → Int → Prop} {c : Int → Int → Int} (ho : Ord V tl c)
include ho

theorem merge_all {ls : List Int} {a s m e b : Nat} (h1 : a ≤ s) (h2 : s ≤ m) (h3 : m ≤ e) (h4 : e ≤ b) (hb : b ≤ ls.length) (hL : SortedAt tl ls a m) (hR : SortedAt tl ls m b)
    (hx : ∀ p q, s ≤ p → p < m → m ≤ q → q < e → tl (gd ls q) (gd ls p)) (hy : ∀ p q, a ≤ p → p < s → e ≤ q → q < b → tl (gd ls p) (gd ls q))
    (hz : ∀ p q, a ≤ p → p < s → m ≤ q → q < e → tl (gd ls p) (gd ls q)) (hw : ∀ p q, s ≤ p → p < m → e ≤ q → q < b → tl (gd ls p) (gd ls q)) : Res tl (rotT ls s m e) ls a b := by
  have hs := rot_same (ls := ls) h2 h3 (by omega)
  refine ⟨rotT_length _ _ _ _, rot_perm h2 h3 (by omega), hs.wide h1 h4, (rot_seg h2 h3 (by omega)).wide hs h1 h4, ?_⟩
  refine SortedAt.join (k := s + (e - m)) (SortedAt.join (k := s) (rot_L h1 h2 h3 h4 hb hL) (rot_M h2 h3 h4 hb hR) ?_) (SortedAt.join (k := e) (rot_N h1 h2 h3 (by omega) hL) (rot_R h2 h3 h4 hb hR) ?_) (merge_split h1 h2 h3 h4 hb hL hR hx hy)
  · intro i j hi his hj hj2
    rw [gd_rotT (by omega), gd_rotT (by omega), if_neg (by omega), if_pos (by omega), if_pos (by omega)]
    exact hz _ _ hi his (by omega) (by omega)
  · intro i j hi his hj hj2
    rw [gd_rotT (by omega), gd_rotT (by omega), if_pos (by omega), if_neg (by omega), if_neg (by omega)]
    exact hw _ _ (by omega) (by omega) hj hj2

theorem le_tl {ls : List Int} (hV : AllV V ls) {a b p q : Nat} {z : Int} (hz : V z) (hs : SortedAt tl ls a b) (hb : b ≤ ls.length) (h1 : a ≤ p) (h2 : p ≤ q) (h3 : q < b) (h : tl (gd ls q) z) : tl (gd ls p) z := by
  by_cases e : p = q
  · rw [e]; exact h
  · exact ho.trans _ _ _ (hV p (by omega)) (hV q (by omega)) hz (hs p q h1 (by omega) h3) h
theorem tl_le {ls : List Int} (hV : AllV V ls) {a b p q : Nat} {z : Int} (hz : V z) (hs : SortedAt tl ls a b) (hb : b ≤ ls.length) (h1 : a ≤ p) (h2 : p ≤ q) (h3 : q < b) (h : tl z (gd ls p)) : tl z (gd ls q) := by
  by_cases e : p = q
  · rw [← e]; exact h
  · exact ho.trans _ _ _ hz (hV p (by omega)) (hV q (by omega)) h (hs p q h1 (by omega) h3)

/-- One thing goes down to its place. -/
theorem ins_step {ls l : List Int} {a i j : Nat} (hV : AllV V l) (hr : Res tl l ls a i) (hi : i < l.length) (h1 : a ≤ j) (h2 : j ≤ i) (hx : ∀ k, j ≤ k → k < i → tl (gd l i) (gd l k)) (hj : j = a ∨ tl (gd l (j - 1)) (gd l i)) : Res tl (rotT l j i (i + 1)) ls a (i + 1) := by
  have h := merge_all ho (ls := l) (a := a) (s := j) (m := i) (e := i + 1) (b := i + 1) h1 h2 (by omega) (Nat.le_refl _) (by omega) hr.srt (fun p q hp hq hq2 => by omega)
    (fun p q hp hp2 hq hq2 => by have e : q = i := by omega
                                 subst e; exact hx p hp hp2) (fun p q _ _ hq hq2 => by omega)
    (fun p q hp hp2 hq hq2 => by
      have e : q = i := by omega
      subst e
      rcases hj with hj | hj
      · omega
      · exact le_tl ho hV (hV q hi) hr.srt (by omega) hp (show p ≤ j - 1 by omega) (by omega) hj)
    (fun p q _ _ hq hq2 => by omega)
  exact ⟨h.len.trans hr.len, h.perm.trans hr.perm, h.same.trans (hr.same.wide (Nat.le_refl _) (by omega)), h.seg.trans (hr.seg.wide hr.same (Nat.le_refl _) (by omega)), h.srt⟩

/-- Where the search for the place to exchange ends. -/
theorem split_x {ls : List Int} {a m b mid n s e r0 : Nat} (hV : AllV V ls) (hb : b ≤ ls.length) (hL : SortedAt tl ls a m) (hR : SortedAt tl ls m b) (has : a ≤ s) (heb : e ≤ b) (hn : n = mid + m) (he : e + s = n) (hr0 : (m ≤ mid ∧ r0 = m) ∨ (mid < m ∧ r0 = mid)) (hsr : s ≤ r0) (hR0 : s = r0 ∨ tl (gd ls (n - 1 - s)) (gd ls s)) :
    ∀ p q, s ≤ p → p < m → m ≤ q → q < e → tl (gd ls q) (gd ls p) := by
  intro p q h1 h2 h3 h4
  rcases hR0 with h | h
  · rcases hr0 with ⟨q1, q2⟩ | ⟨q1, q2⟩ <;> omega
  · have hq := le_tl ho hV (hV s (by omega)) hR hb h3 (show q ≤ n - 1 - s by omega) (by omega) h
    exact tl_le ho hV (hV q (by omega)) hL (by omega) has h1 h2 hq
theorem split_y {ls : List Int} {a m b mid n s e l0 : Nat} (hV : AllV V ls) (hb : b ≤ ls.length) (hL : SortedAt tl ls a m) (hR : SortedAt tl ls m b) (hsm : s ≤ m) (hme : m ≤ e) (hn : n = mid + m) (he : e + s = n) (hl0 : (m ≤ mid ∧ l0 = a) ∨ (mid < m ∧ l0 + b = n)) (hL0 : s = l0 ∨ tl (gd ls (s - 1)) (gd ls (n - s))) :
    ∀ p q, a ≤ p → p < s → e ≤ q → q < b → tl (gd ls p) (gd ls q) := by
  intro p q h1 h2 h3 h4
  rcases hL0 with h | h
  · rcases hl0 with ⟨q1, q2⟩ | ⟨q1, q2⟩ <;> omega
  · have hq := le_tl ho hV (hV (n - s) (by omega)) hL (by omega) h1 (show p ≤ s - 1 by omega) (by omega) h
    exact tl_le ho hV (hV p (by omega)) hR hb (show m ≤ n - s by omega) (show n - s ≤ q by omega) h4 hq

/-- Both halves behind the exchange are merged. -/
theorem split_fin {ls l1 l2 l3 : List Int} {a s m e b k : Nat} (h1 : a ≤ s) (h2 : s ≤ m) (h3 : m ≤ e) (h4 : e ≤ b) (hb : b ≤ ls.length) (hk : k = s + (e - m)) (hL : SortedAt tl ls a m) (hR : SortedAt tl ls m b)
    (hx : ∀ p q, s ≤ p → p < m → m ≤ q → q < e → tl (gd ls q) (gd ls p)) (hy : ∀ p q, a ≤ p → p < s → e ≤ q → q < b → tl (gd ls p) (gd ls q))
    (r1 : l1 = rotT ls s m e) (r2 : Res tl l2 l1 a k) (r3 : Res tl l3 l2 k b) : Res tl l3 ls a b := by
  subst r1
  have hs := rot_same (ls := ls) h2 h3 (by omega)
  have hcr := merge_split h1 h2 h3 h4 hb hL hR hx hy
  rw [← hk] at hcr
  refine ⟨r3.len.trans (r2.len.trans (rotT_length _ _ _ _)), r3.perm.trans (r2.perm.trans (rot_perm h2 h3 (by omega))), (r3.same.wide (by omega) (Nat.le_refl _)).trans ((r2.same.wide (Nat.le_refl _) (by omega)).trans (hs.wide h1 h4)),
    ((r3.seg.wide r3.same (by omega) (Nat.le_refl _)).trans (r2.seg.wide r2.same (Nat.le_refl _) (by omega))).trans ((rot_seg h2 h3 (by omega)).wide hs h1 h4), ?_⟩
  refine SortedAt.join (k := k) (r2.srt.of_same fun q _ hq => r3.same q (.inl hq)) r3.srt fun i j hi hik hkj hj => ?_
  rw [r3.same i (.inl hik)]
  obtain ⟨i', e1, e2, e3⟩ := r2.seg i hi hik
  obtain ⟨j', f1, f2, f3⟩ := r3.seg j hkj hj
  rw [e3, f3, r2.same j' (.inr f1)]
  exact hcr i' j' e1 e2 f1 f2
end
theorem Res.refl' {tl : Int → Int → Prop} {ls : List Int} {a b : Nat} (h : SortedAt tl ls a b) : Res tl ls ls a b := ⟨rfl, List.Perm.refl _, Same.refl _ _ _, SegIn.refl _ _ _, h⟩
end Go.Proofs.Ytlbhhoojbokblaa
