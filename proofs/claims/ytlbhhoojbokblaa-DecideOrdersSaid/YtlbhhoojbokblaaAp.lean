/- Plain laws of the best of a list of candidates: what it is, when one goes, when one comes. Conditions: none. -/
import Derived.Test.YtlbhhoojbokblaaAd
import Derived.Test.YtlbhhoojbokblaaAf
set_option linter.unusedVariables false
set_option linter.unusedSimpArgs false
namespace Go.Proofs.Ytlbhhoojbokblaa
open Go.Kern

def better (a b : Cand) : Prop := (decCmp a b).1 < 0
theorem better_tr {a b c : Cand} (h1 : better a b) (h2 : ¬ better c b) : better a c := by
  have h := decCmp_ord
  have h3 : (decCmp b c).1 ≤ 0 := by
    have := h.anti b c
    simp only [better] at h2
    omega
  exact (h.tr a b c (by simp only [better] at h1; omega) h3).2 (.inl h1)
theorem better_tt {a b c : Cand} (h1 : better a b) (h2 : better b c) : better a c := by
  have h := decCmp_ord
  simp only [better] at h1 h2 ⊢
  exact (h.tr a b c (by omega) (by omega)).2 (.inl h1)

/-- The best of the first i. -/
def BestOf (l : List Cand) (i : Nat) (n : Nat) : Prop :=
  n < i ∧ candFit (l.getD n noCand) = true ∧ (∀ j, j < n → candFit (l.getD j noCand) = true → better (l.getD n noCand) (l.getD j noCand)) ∧
    (∀ j, n < j → j < i → candFit (l.getD j noCand) = true → ¬ better (l.getD j noCand) (l.getD n noCand))
def NoneOf (l : List Cand) (i : Nat) : Prop := ∀ j, j < i → candFit (l.getD j noCand) = false
def BestSt (l : List Cand) (i : Nat) (b : Int) : Prop := (b = -1 ∧ NoneOf l i) ∨ (∃ n : Nat, b = n ∧ BestOf l i n)

theorem bestSt_unfit {l : List Cand} {i : Nat} {b : Int} (h : BestSt l i b) (hf : candFit (l.getD i noCand) = false) : BestSt l (i + 1) b := by
  rcases h with ⟨h1, h2⟩ | ⟨n, h1, h2, h3, h4, h5⟩
  · refine .inl ⟨h1, fun j hj => ?_⟩
    by_cases e : j = i
    · rw [e]; exact hf
    · exact h2 j (by omega)
  · refine .inr ⟨n, h1, by omega, h3, h4, fun j hj hji hfj => ?_⟩
    by_cases e : j = i
    · rw [e, hf] at hfj; cases hfj
    · exact h5 j hj (by omega) hfj
theorem bestSt_keep {l : List Cand} {i n : Nat} (h : BestOf l i n) (hb : ¬ better (l.getD i noCand) (l.getD n noCand)) : BestOf l (i + 1) n := by
  obtain ⟨h2, h3, h4, h5⟩ := h
  refine ⟨by omega, h3, h4, fun j hj hji hfj => ?_⟩
  by_cases e : j = i
  · rw [e]; exact hb
  · exact h5 j hj (by omega) hfj
theorem bestSt_new {l : List Cand} {i n : Nat} (h : BestOf l i n) (hf : candFit (l.getD i noCand) = true) (hb : better (l.getD i noCand) (l.getD n noCand)) : BestOf l (i + 1) i := by
  obtain ⟨h2, h3, h4, h5⟩ := h
  refine ⟨by omega, hf, fun j hj hfj => ?_, fun j hj hji => by omega⟩
  rcases Nat.lt_trichotomy j n with e | e | e
  · exact better_tt hb (h4 j e hfj)
  · rw [e]; exact hb
  · exact better_tr hb (h5 j e hj hfj)

theorem bestZ_st (l : List Cand) : ∀ (d i : Nat) (b : Int), d = l.length - i → i ≤ l.length → BestSt l i b → BestSt l l.length (bestZ l b i (l.drop i))
  | 0, i, b, hd, hi, h => by
    have e : i = l.length := by omega
    subst e
    rw [List.drop_length]; exact h
  | d + 1, i, b, hd, hi, h => by
    have hlt : i < l.length := by omega
    rw [bestZ_drop l l b i hlt i]
    have ih := fun b' => bestZ_st l d (i + 1) b' (by omega) (by omega)
    have e1 : ((i + 1 : Nat) : Int) = (i : Int) + 1 := by omega
    rw [← e1]
    rcases Bool.eq_false_or_eq_true (candFit (l.getD i noCand)) with hf | hf
    · rw [if_pos hf]
      rcases h with ⟨h1, h2⟩ | ⟨n, h1, h2⟩
      · rw [if_pos (by omega)]
        exact ih _ (.inr ⟨i, rfl, by omega, hf, (fun j hj hfj => by rw [h2 j hj] at hfj; cases hfj), (fun j hj hji => by omega)⟩)
      · subst h1
        rw [if_neg (by omega), Int.toNat_natCast]
        by_cases hb : (decCmp (l.getD i noCand) (l.getD n noCand)).1 < 0
        · rw [if_pos hb]; exact ih _ (.inr ⟨i, rfl, bestSt_new h2 hf hb⟩)
        · rw [if_neg hb]; exact ih _ (.inr ⟨n, rfl, bestSt_keep h2 hb⟩)
    · rw [if_neg (by rw [hf]; simp)]
      exact ih _ (bestSt_unfit h hf)

def bestI (l : List Cand) : Int := bestZ l (-1) 0 l
theorem bestI_st (l : List Cand) : BestSt l l.length (bestI l) :=
  bestZ_st l l.length 0 (-1) (by omega) (Nat.zero_le _) (.inl ⟨rfl, fun j hj => by omega⟩)
theorem bestOf_one {l : List Cand} {i a b : Nat} (ha : BestOf l i a) (hb : BestOf l i b) : a = b := by
  obtain ⟨a1, a2, a3, a4⟩ := ha
  obtain ⟨b1, b2, b3, b4⟩ := hb
  rcases Nat.lt_trichotomy a b with h | h | h
  · exact absurd (b3 a h a2) (a4 b h b1 b2)
  · exact h
  · exact absurd (a3 b h b2) (b4 a h a1 a2)
theorem bestI_of {l : List Cand} {b : Nat} (h : BestOf l l.length b) : bestI l = b := by
  rcases bestI_st l with ⟨_, h2⟩ | ⟨n, h1, h2⟩
  · have := h2 b h.1; rw [h.2.1] at this; cases this
  · rw [h1, bestOf_one h2 h]
theorem bestI_neg {l : List Cand} (h : bestI l < 0) : NoneOf l l.length := by
  rcases bestI_st l with ⟨_, h2⟩ | ⟨n, h1, h2⟩
  · exact h2
  · omega
theorem bestI_pos {l : List Cand} (h : ¬ bestI l < 0) : ∃ b : Nat, bestI l = b ∧ BestOf l l.length b := by
  rcases bestI_st l with ⟨h1, h2⟩ | ⟨n, h1, h2⟩
  · omega
  · exact ⟨n, h1, h2⟩

theorem getD_gone (l : List Cand) (g j : Nat) (hg : g < l.length) : (l.take g ++ l.drop (g + 1)).getD j noCand = if j < g then l.getD j noCand else l.getD (j + 1) noCand := by
  simp only [List.getD_eq_getElem?_getD]
  rw [List.getElem?_append]
  rw [List.length_take, Nat.min_eq_left (by omega)]
  by_cases h : j < g
  · rw [if_pos h, if_pos h, List.getElem?_take_of_lt h]
  · rw [if_neg h, if_neg h, List.getElem?_drop]
    congr 2
    omega

/-- One that isn't the best goes. -/
theorem best_gone (l : List Cand) (g b : Nat) (hg : g < l.length) (hne : g ≠ b) (h : bestI l = b) : bestI (l.take g ++ l.drop (g + 1)) = if g < b then (b : Int) - 1 else b := by
  obtain ⟨b', hb, hB⟩ := bestI_pos (l := l) (by omega)
  obtain rfl : b' = b := by omega
  have hlen : (l.take g ++ l.drop (g + 1)).length = l.length - 1 := by
    rw [List.length_append, List.length_take, List.length_drop]; omega
  have hG := getD_gone l g
  obtain ⟨h1, h2, h3, h4⟩ := hB
  by_cases hlt : g < b'
  · rw [if_pos hlt]
    have := bestI_of (l := l.take g ++ l.drop (g + 1)) (b := b' - 1) ⟨by omega, by rw [hG _ hg, if_neg (by omega), show b' - 1 + 1 = b' by omega]; exact h2, fun j hj hf => ?_, fun j hj hji hf => ?_⟩
    · omega
    · rw [hG _ hg, if_neg (by omega), show b' - 1 + 1 = b' by omega]
      rw [hG _ hg] at hf ⊢
      split at hf <;> rename_i e
      · rw [if_pos e]; exact h3 j (by omega) hf
      · rw [if_neg e]; exact h3 (j + 1) (by omega) hf
    · rw [hG _ hg, hG _ hg, if_neg (show ¬ b' - 1 < g by omega), if_neg (show ¬ j < g by omega), show b' - 1 + 1 = b' by omega]
      rw [hG _ hg, if_neg (by omega)] at hf
      exact h4 (j + 1) (by omega) (by omega) hf
  · rw [if_neg hlt]
    have := bestI_of (l := l.take g ++ l.drop (g + 1)) (b := b') ⟨by omega, by rw [hG _ hg, if_pos (by omega)]; exact h2, fun j hj hf => ?_, fun j hj hji hf => ?_⟩
    · exact this
    · rw [hG _ hg, hG _ hg, if_pos (by omega), if_pos (by omega)]
      rw [hG _ hg, if_pos (by omega)] at hf
      exact h3 j hj hf
    · rw [hG _ hg, hG _ hg, if_pos (show b' < g by omega)]
      rw [hG _ hg] at hf
      split at hf <;> rename_i e
      · rw [if_pos e]; exact h4 j hj (by omega) hf
      · rw [if_neg e]; exact h4 (j + 1) (by omega) (by omega) hf

/-- One more comes. -/
theorem best_more (l : List Cand) (c : Cand) (b : Nat) (h : bestI l = b) : bestI (l ++ [c]) = if candFit c = true ∧ (decCmp c (l.getD b noCand)).1 < 0 then (l.length : Int) else b := by
  obtain ⟨b', hb, hB⟩ := bestI_pos (l := l) (by omega)
  obtain rfl : b' = b := by omega
  have hlen : (l ++ [c]).length = l.length + 1 := by simp
  have hA : ∀ j, j < l.length → (l ++ [c]).getD j noCand = l.getD j noCand := fun j hj => getD_append_left l [c] noCand hj
  have hC : (l ++ [c]).getD l.length noCand = c := by simp [List.getD_eq_getElem?_getD]
  have hB' : BestOf (l ++ [c]) l.length b' := by
    obtain ⟨h1, h2, h3, h4⟩ := hB
    refine ⟨h1, by rw [hA _ h1]; exact h2, fun j hj hf => ?_, fun j hj hji hf => ?_⟩
    · rw [hA _ h1, hA j (by omega)]; rw [hA j (by omega)] at hf; exact h3 j hj hf
    · rw [hA _ h1, hA j hji]; rw [hA j hji] at hf; exact h4 j hj hji hf
  by_cases hn : candFit c = true ∧ (decCmp c (l.getD b' noCand)).1 < 0
  · rw [if_pos hn]
    refine bestI_of (b := l.length) ?_
    rw [hlen]
    exact bestSt_new hB' (by rw [hC]; exact hn.1) (by rw [hC, hA _ hB.1]; exact hn.2)
  · rw [if_neg hn]
    refine bestI_of ?_
    rw [hlen]
    by_cases hf : candFit c = true
    · exact bestSt_keep hB' (by rw [hC, hA _ hB.1]; exact fun h => hn ⟨hf, h⟩)
    · rcases bestSt_unfit (l := l ++ [c]) (i := l.length) (b := b') (.inr ⟨b', rfl, hB'⟩) (by rw [hC]; simpa using hf) with ⟨h1, _⟩ | ⟨n, h1, h2⟩
      · omega
      · obtain rfl : n = b' := by omega
        exact h2
end Go.Proofs.Ytlbhhoojbokblaa
