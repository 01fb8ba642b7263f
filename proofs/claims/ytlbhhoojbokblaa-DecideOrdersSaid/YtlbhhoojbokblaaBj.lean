/- Plain laws of the order of candidates: the fit ones, sorted, are one list. Conditions: none. -/
import Derived.Test.YtlbhhoojbokblaaAf
import Derived.Test.YtlbhhoojbokblaaAp
import Derived.Test.YtlbhhoojbokblaaBc
set_option linter.unusedVariables false
set_option linter.unusedSimpArgs false
namespace Go.Proofs.Ytlbhhoojbokblaa
open Go.Kern

section
variable (l : List Cand)
def cAt (x : Int) : Cand := l.getD x.toNat noCand
def VC (x : Int) : Prop := ∃ i : Nat, x = i ∧ i < l.length
def cC (x y : Int) : Int := (decCmp (cAt l x) (cAt l y)).1
def tlC (x y : Int) : Prop := cC l x y < 0 ∨ (cC l x y = 0 ∧ x < y)
def fitsTo (i : Nat) : List Int := ((List.range i).filter fun j => candFit (l.getD j noCand)).map fun (j : Nat) => (j : Int)

theorem cC_anti (x y : Int) : cC l y x = - cC l x y := decCmp_ord.anti _ _
theorem tlC_trans {x y z : Int} (h1 : tlC l x y) (h2 : tlC l y z) : tlC l x z := by
  have h := decCmp_ord.tr (cAt l x) (cAt l y) (cAt l z)
  simp only [tlC, cC] at h1 h2 ⊢
  rcases h1 with h1 | ⟨h1, h1'⟩
  · rcases h2 with h2 | ⟨h2, h2'⟩
    · exact .inl ((h (by omega) (by omega)).2 (.inl h1))
    · exact .inl ((h (by omega) (by omega)).2 (.inl h1))
  · rcases h2 with h2 | ⟨h2, h2'⟩
    · exact .inl ((h (by omega) (by omega)).2 (.inr h2))
    · have := (h (by omega) (by omega)).1
      by_cases e : (decCmp (cAt l x) (cAt l z)).1 = 0
      · exact .inr ⟨e, by omega⟩
      · exact .inl (by omega)
theorem tlC_asymm {x y : Int} (h1 : tlC l x y) (h2 : tlC l y x) : False := by
  have := cC_anti l x y
  simp only [tlC] at h1 h2
  omega
theorem tlC_tot {x y : Int} (h : x < y) (hn : ¬ tlC l y x) : tlC l x y := by
  have := cC_anti l x y
  simp only [tlC] at hn ⊢
  omega
theorem tlC_ord : Ord (VC l) (tlC l) (cC l) where
  ahead := fun x y _ _ h => by
    constructor
    · exact fun h => .inl h
    · rintro (h1 | ⟨_, h2⟩)
      · exact h1
      · omega
  tot := fun x y _ _ h hn => tlC_tot l h hn
  trans := fun x y z _ _ _ h1 h2 => tlC_trans l h1 h2

structure IsOrder (out : List Int) : Prop where
  perm : out.Perm (fitsTo l l.length)
  srt : out.Pairwise (tlC l)
theorem IsOrder.one {a b : List Int} (ha : IsOrder l a) (hb : IsOrder l b) : a = b :=
  List.Perm.eq_of_pairwise (fun x y _ _ h1 h2 => (tlC_asymm l h1 h2).elim) ha.srt hb.srt (ha.perm.trans hb.perm.symm)
noncomputable def orderZ : List Int := @dite _ (∃ out, IsOrder l out) (Classical.propDecidable _) (fun h => Classical.choose h) (fun _ => [])
theorem orderZ_of {out : List Int} (h : IsOrder l out) : out = orderZ l := by
  have hex : ∃ out, IsOrder l out := ⟨out, h⟩
  rw [orderZ, dif_pos hex]
  exact IsOrder.one l h (Classical.choose_spec hex)

theorem mem_fitsTo {i : Nat} {x : Int} : x ∈ fitsTo l i ↔ ∃ j : Nat, x = j ∧ j < i ∧ candFit (l.getD j noCand) = true := by
  simp only [fitsTo, List.mem_map, List.mem_filter, List.mem_range]
  constructor
  · rintro ⟨j, ⟨h1, h2⟩, rfl⟩; exact ⟨j, rfl, h1, h2⟩
  · rintro ⟨j, rfl, h1, h2⟩; exact ⟨j, ⟨h1, h2⟩, rfl⟩
theorem fitsTo_pw (i : Nat) : (fitsTo l i).Pairwise (· < ·) := by
  unfold fitsTo
  rw [List.pairwise_map]
  refine List.Pairwise.imp (fun h => by omega) ((List.pairwise_lt_range (n := i)).filter _)
theorem fitsTo_nodup (i : Nat) : (fitsTo l i).Nodup := (fitsTo_pw l i).imp fun h => by omega
theorem fitsTo_le (i : Nat) : (fitsTo l i).length ≤ i := by
  simp only [fitsTo, List.length_map]
  exact Nat.le_trans (List.length_filter_le _ _) (by simp)
theorem fitsTo_succ (i : Nat) : fitsTo l (i + 1) = fitsTo l i ++ (if candFit (l.getD i noCand) = true then [(i : Int)] else []) := by
  unfold fitsTo
  rw [List.range_succ, List.filter_append, List.map_append]
  congr 1
  rw [List.filter_cons]
  split <;> simp
theorem gd_get {ls : List Int} {i : Nat} (h : i < ls.length) : gd ls i = ls[i] := by simp [gd, List.getD_eq_getElem?_getD, h]
theorem pw_of_sorted {tl : Int → Int → Prop} {ls : List Int} (h : SortedAt tl ls 0 ls.length) : ls.Pairwise tl := by
  rw [List.pairwise_iff_getElem]
  intro i j hi hj hij
  have := h i j (Nat.zero_le _) hij hj
  rwa [gd_get hi, gd_get hj] at this
theorem fits_inc (i : Nat) : ∀ p q, p < q → q < (fitsTo l i).length → gd (fitsTo l i) p < gd (fitsTo l i) q := by
  intro p q h1 h2
  rw [gd_get (by omega), gd_get h2]
  exact List.pairwise_iff_getElem.1 (fitsTo_pw l i) p q (by omega) h2 h1
theorem fits_V (i : Nat) (h : i ≤ l.length) : AllV (VC l) (fitsTo l i) := by
  intro k hk
  rw [gd_get hk]
  obtain ⟨j, h1, h2, _⟩ := (mem_fitsTo l).1 (List.getElem_mem hk)
  exact ⟨j, h1, by omega⟩
end
end Go.Proofs.Ytlbhhoojbokblaa
