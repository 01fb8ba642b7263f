/- Plain laws of heaps: setting a key, dropping one. Conditions: none. -/
import Derived.Test.YtoekaigdacaghaaHc
set_option linter.unusedVariables false
set_option linter.unusedSimpArgs false
namespace Go.Proofs.Ytoekaigdacaghaa

def without (c : List Th) (k : ByteArray) : List Th := c.filter fun t => !decide (t.k = k)
theorem mem_without {c : List Th} {k : ByteArray} {t : Th} : t ∈ without c k ↔ t ∈ c ∧ t.k ≠ k := by
  simp [without]
theorem without_none {c : List Th} {k : ByteArray} (h : ∀ t, t ∈ c → t.k ≠ k) : without c k = c := by
  unfold without
  rw [List.filter_eq_self]
  intro t ht
  simp [h t ht]
theorem without_len {k : ByteArray} : ∀ {c : List Th}, c.Pairwise (fun a b => a.w < b.w ∧ a.k ≠ b.k) → (∃ t, t ∈ c ∧ t.k = k) → (without c k).length + 1 = c.length
  | [], _, ⟨t, ht, _⟩ => by cases ht
  | a :: c, hp, ⟨t, ht, hk⟩ => by
    have hp' := List.pairwise_cons.1 hp
    by_cases h : a.k = k
    · have : without (a :: c) k = without c k := by simp [without, h]
      rw [this, without_none fun u hu e => (hp'.1 u hu).2 (by rw [h, e])]
      rfl
    · have h1 : without (a :: c) k = a :: without c k := by simp [without, h]
      have ht' : t ∈ c := by
        rcases List.mem_cons.1 ht with e | e
        · rw [e] at hk; exact absurd hk h
        · exact e
      have ih := without_len hp'.2 ⟨t, ht', hk⟩
      rw [h1, List.length_cons, List.length_cons, ih]
theorem without_srt {c : List Th} (h : c.Pairwise fun a b => a.w < b.w ∧ a.k ≠ b.k) (k : ByteArray) : (without c k).Pairwise fun a b => a.w < b.w ∧ a.k ≠ b.k := h.filter _
theorem with_srt {c : List Th} {w : Int} (h : c.Pairwise fun a b => a.w < b.w ∧ a.k ≠ b.k) (ht : ∀ t, t ∈ c → t.w ≤ w) (k : ByteArray) (r : Int) : (without c k ++ [(⟨k, r, w + 1⟩ : Th)]).Pairwise fun a b => a.w < b.w ∧ a.k ≠ b.k := by
  rw [List.pairwise_append]
  refine ⟨without_srt h k, List.pairwise_singleton _ _, fun a ha b hb => ?_⟩
  rw [List.mem_singleton] at hb
  subst hb
  have := mem_without.1 ha
  exact ⟨by have := ht a this.1; simp only; omega, this.2⟩

theorem Heap.at_some {ρ : Int → Int} {c : List Th} {n : Nat} {ls : List Th} {em : EM} (h : Heap ρ c n ls em) {k : ByteArray} {i : Nat} (hf : findM k em = some i) : i < n ∧ (ls.getD i noTh).k = k := by
  by_cases hk : ∃ t, t ∈ c ∧ t.k = k
  · obtain ⟨t, ht, rfl⟩ := hk
    obtain ⟨j, hj, rfl⟩ := h.sur t ht
    have := h.at_ j hj
    rw [hf] at this
    injection this with this
    subst this
    exact ⟨hj, rfl⟩
  · have := h.no k (fun t ht e => hk ⟨t, ht, e⟩)
    rw [hf] at this; cases this
theorem Heap.at_none {ρ : Int → Int} {c : List Th} {n : Nat} {ls : List Th} {em : EM} (h : Heap ρ c n ls em) {k : ByteArray} (hf : findM k em = none) : ∀ t, t ∈ c → t.k ≠ k := by
  intro t ht e
  obtain ⟨j, hj, rfl⟩ := h.sur t ht
  have := h.at_ j hj
  rw [e, hf] at this; cases this
theorem Heap.other {ρ : Int → Int} {c : List Th} {n : Nat} {ls : List Th} {em : EM} (h : Heap ρ c n ls em) {i j : Nat} (hi : i < n) (hj : j < n) (hne : j ≠ i) : (ls.getD j noTh).k ≠ (ls.getD i noTh).k := by
  intro e
  have h1 := h.at_ j hj
  rw [e, h.at_ i hi] at h1
  injection h1 with h1
  exact hne h1.symm
theorem Heap.zero (ρ : Int → Int) : Heap ρ [] 0 [] [] := ⟨Nat.le_refl _, by simp, rfl, nofun, nofun, nofun, fun _ _ => rfl, .nil, nofun⟩

theorem Heap.setOld {ρ : Int → Int} {c : List Th} {n : Nat} {ls : List Th} {em : EM} (h : Heap ρ c n ls em) (hs : c.Pairwise fun a b => a.w < b.w ∧ a.k ≠ b.k) {i : Nat} (x : Th) (hf : findM x.k em = some i) :
    UpI ρ (without c x.k ++ [x]) n x (ls.set i x) (asetM x.k i em) i := by
  obtain ⟨hi, hk⟩ := h.at_some hf
  have hl := h.len
  have g1 := fun j => gset (show i < ls.length by omega) x j
  have hss : (ls.set i x).set i x = ls.set i x := by rw [List.set_set]
  have hoth : ∀ j, j < n → j ≠ i → (ls.getD j noTh).k ≠ x.k := fun j hj hji => by rw [← hk]; exact h.other hi hj hji
  refine ⟨⟨hi, by rw [List.length_set]; exact hl, by rw [List.length_set]; exact h.big, ?_, fun j hj => ?_, fun t ht => ?_, fun j hj hji => ?_, fun k hk' => ?_, fun j hj hji => ?_, UK_aset _ _ h.uk⟩, fun j hj hjn hji hpi => ?_, fun j hj hjn hji hi0 => ?_⟩
  · rw [List.length_append, List.length_singleton, without_len hs ⟨ls.getD i noTh, h.mem i hi, hk⟩]
    exact h.cnt
  · rw [hss, g1]
    split
    · exact List.mem_append_right _ (List.mem_singleton_self _)
    · rename_i q; exact List.mem_append_left _ (mem_without.2 ⟨h.mem j hj, hoth j hj q⟩)
  · rcases List.mem_append.1 ht with ht | ht
    · obtain ⟨h1, h2⟩ := mem_without.1 ht
      obtain ⟨j, hj, e⟩ := h.sur t h1
      refine ⟨j, hj, ?_⟩
      rw [hss, g1, if_neg (fun q => ?_)]
      · exact e
      · rw [q] at e; rw [← e, hk] at h2; exact h2 rfl
    · rw [List.mem_singleton] at ht
      exact ⟨i, hi, by rw [hss, g1, if_pos rfl, ht]⟩
  · rw [g1, if_neg hji, findM_aset, if_neg (hoth j hj hji)]
    exact h.at_ j hj
  · have hx := hk' x (List.mem_append_right _ (List.mem_singleton_self _))
    rw [findM_aset, if_neg (fun q => hx q.symm)]
    exact h.no k fun t ht e => hk' t (List.mem_append_left _ (mem_without.2 ⟨ht, fun q => hx (by rw [← q, e])⟩)) e
  · rw [g1, if_neg hji]; exact hoth j hj hji
  · rw [g1, g1, if_neg hji, if_neg hpi]; exact h.ord j hj hjn
  · rw [g1, g1, if_neg (by omega), if_neg (by omega)]
    have h1 := h.ord j hj hjn
    rw [hji] at h1
    exact lex_le_tr (h.ord i hi0 hi) h1

theorem Heap.setNew {ρ : Int → Int} {c : List Th} {n : Nat} {ls : List Th} {em : EM} (h : Heap ρ c n ls em) (hn : n + 1 < 1000000) (x : Th) (hf : findM x.k em = none) :
    UpI ρ (without c x.k ++ [x]) (n + 1) x ((ls.take n ++ [noTh]).set n x) (asetM x.k n em) n := by
  have hno := h.at_none hf
  have hl := h.len
  rw [without_none hno]
  have htl : (ls.take n).length = n := by rw [List.length_take]; omega
  have hlen : (ls.take n ++ [noTh]).length = n + 1 := by rw [List.length_append, htl]; rfl
  have g0 : ∀ j, j < n → (ls.take n ++ [noTh]).getD j noTh = ls.getD j noTh := fun j hj => by
    simp only [List.getD_eq_getElem?_getD]
    rw [List.getElem?_append_left (by omega), List.getElem?_take, if_pos hj]
  have g1 := fun j => gset (show n < (ls.take n ++ [noTh]).length by omega) x j
  have hss : ((ls.take n ++ [noTh]).set n x).set n x = (ls.take n ++ [noTh]).set n x := by rw [List.set_set]
  refine ⟨⟨by omega, by rw [List.length_set, hlen]; exact Nat.le_refl _, by rw [List.length_set, hlen]; exact hn, by rw [List.length_append, List.length_singleton, h.cnt], fun j hj => ?_, fun t ht => ?_, fun j hj hji => ?_, fun k hk' => ?_, fun j hj hji => ?_, UK_aset _ _ h.uk⟩, fun j hj hjn hji hpi => ?_, fun j hj hjn hji hi0 => by omega⟩
  · rw [hss, g1]
    split
    · exact List.mem_append_right _ (List.mem_singleton_self _)
    · rename_i q; rw [g0 j (by omega)]; exact List.mem_append_left _ (h.mem j (by omega))
  · rcases List.mem_append.1 ht with ht | ht
    · obtain ⟨j, hj, e⟩ := h.sur t ht
      exact ⟨j, by omega, by rw [hss, g1, if_neg (by omega), g0 j hj]; exact e⟩
    · rw [List.mem_singleton] at ht
      exact ⟨n, by omega, by rw [hss, g1, if_pos rfl, ht]⟩
  · rw [g1, if_neg hji, g0 j (by omega), findM_aset, if_neg (hno _ (h.mem j (by omega)))]
    exact h.at_ j (by omega)
  · have hx := hk' x (List.mem_append_right _ (List.mem_singleton_self _))
    rw [findM_aset, if_neg (fun q => hx q.symm)]
    exact h.no k fun t ht e => hk' t (List.mem_append_left _ ht) e
  · rw [g1, if_neg hji, g0 j (by omega)]; exact hno _ (h.mem j (by omega))
  · rw [g1, g1, if_neg hji, if_neg (by omega), g0 j (by omega), g0 _ (by omega)]; exact h.ord j hj (by omega)

theorem Heap.dropLast {ρ : Int → Int} {c : List Th} {n : Nat} {ls : List Th} {em : EM} (h : Heap ρ c n ls em) (hs : c.Pairwise fun a b => a.w < b.w ∧ a.k ≠ b.k) {k : ByteArray} (hf : findM k em = some (n - 1)) :
    Heap ρ (without c k) (n - 1) (ls.set (n - 1) noTh) (adelM k em) := by
  obtain ⟨hi, hk⟩ := h.at_some hf
  have hl := h.len
  have g1 := fun j => gset (show n - 1 < ls.length by omega) noTh j
  have hoth : ∀ j, j < n → j ≠ n - 1 → (ls.getD j noTh).k ≠ k := fun j hj hji => by rw [← hk]; exact h.other hi hj hji
  have hwl := without_len hs ⟨ls.getD (n - 1) noTh, h.mem _ hi, hk⟩
  have hcnt := h.cnt
  refine ⟨by rw [List.length_set]; omega, by rw [List.length_set]; exact h.big, by omega, fun j hj => ?_, fun t ht => ?_, fun j hj => ?_, fun k' hk' => ?_, UK_adel _ h.uk, fun j hj hjn => ?_⟩
  · rw [g1, if_neg (by omega)]; exact mem_without.2 ⟨h.mem j (by omega), hoth j (by omega) (by omega)⟩
  · obtain ⟨h1, h2⟩ := mem_without.1 ht
    obtain ⟨j, hj, e⟩ := h.sur t h1
    have hne : j ≠ n - 1 := fun q => by rw [q] at e; rw [← e, hk] at h2; exact h2 rfl
    exact ⟨j, by omega, by rw [g1, if_neg hne]; exact e⟩
  · rw [g1, if_neg (by omega), findM_adel _ _ h.uk, if_neg (hoth j (by omega) (by omega))]
    exact h.at_ j (by omega)
  · rw [findM_adel _ _ h.uk]
    split
    · rfl
    · rename_i q
      exact h.no k' fun t ht e => hk' t (mem_without.2 ⟨ht, fun e2 => q (by rw [← e, e2])⟩) e
  · rw [g1, g1, if_neg (by omega), if_neg (by omega)]; exact h.ord j hj (by omega)

theorem Heap.dropMid {ρ : Int → Int} {c : List Th} {n : Nat} {ls : List Th} {em : EM} (h : Heap ρ c n ls em) (hs : c.Pairwise fun a b => a.w < b.w ∧ a.k ≠ b.k) {k : ByteArray} {i : Nat} (hf : findM k em = some i) (hin : i < n - 1) :
    UpI ρ (without c k) (n - 1) (ls.getD (n - 1) noTh) ((ls.set (n - 1) noTh).set i (ls.getD (n - 1) noTh)) (asetM (ls.getD (n - 1) noTh).k i (adelM k em)) i := by
  obtain ⟨hi, hk⟩ := h.at_some hf
  have hl := h.len
  obtain ⟨x, hx⟩ : ∃ x, x = ls.getD (n - 1) noTh := ⟨_, rfl⟩
  have hxk : x.k ≠ k := by rw [← hk, hx]; exact h.other hi (by omega) (by omega)
  have hxc : x ∈ c := by rw [hx]; exact h.mem _ (by omega)
  rw [← hx]
  have g2 : ∀ j, ((ls.set (n - 1) noTh).set i x).getD j noTh = if j = i then x else if j = n - 1 then noTh else ls.getD j noTh := fun j => by
    rw [gset (by rw [List.length_set]; omega), gset (by omega)]
  have hss : (((ls.set (n - 1) noTh).set i x).set i x) = ((ls.set (n - 1) noTh).set i x) := by rw [List.set_set]
  have hoth : ∀ j, j < n → j ≠ i → (ls.getD j noTh).k ≠ k := fun j hj hji => by rw [← hk]; exact h.other hi hj hji
  have hwl := without_len hs ⟨ls.getD i noTh, h.mem _ hi, hk⟩
  have hcnt := h.cnt
  have hone : ∀ j, j < n - 1 → (ls.getD j noTh).k ≠ x.k := fun j hj => by rw [hx]; exact h.other (by omega) (by omega) (by omega)
  refine ⟨⟨hin, by rw [List.length_set, List.length_set]; omega, by rw [List.length_set, List.length_set]; exact h.big, by omega, fun j hj => ?_, fun t ht => ?_, fun j hj hji => ?_, fun k' hk' => ?_, fun j hj hji => ?_, UK_aset _ _ (UK_adel _ h.uk)⟩, fun j hj hjn hji hpi => ?_, fun j hj hjn hji hi0 => ?_⟩
  · rw [hss, g2]
    split
    · exact mem_without.2 ⟨hxc, hxk⟩
    · rename_i q
      rw [if_neg (by omega)]
      exact mem_without.2 ⟨h.mem j (by omega), hoth j (by omega) q⟩
  · obtain ⟨h1, h2⟩ := mem_without.1 ht
    obtain ⟨j, hj, e⟩ := h.sur t h1
    have hne : j ≠ i := fun q => by rw [q] at e; rw [← e, hk] at h2; exact h2 rfl
    by_cases q : j = n - 1
    · exact ⟨i, hin, by rw [hss, g2, if_pos rfl, hx, ← q]; exact e⟩
    · exact ⟨j, by omega, by rw [hss, g2, if_neg hne, if_neg q]; exact e⟩
  · rw [g2, if_neg hji, if_neg (by omega), findM_aset, if_neg (hone j hj), findM_adel _ _ h.uk, if_neg (hoth j (by omega) hji)]
    exact h.at_ j (by omega)
  · have hx' := hk' x (mem_without.2 ⟨hxc, hxk⟩)
    rw [findM_aset, if_neg (fun q => hx' q.symm), findM_adel _ _ h.uk]
    split
    · rfl
    · rename_i q
      exact h.no k' fun t ht e => hk' t (mem_without.2 ⟨ht, fun e2 => q (by rw [← e, e2])⟩) e
  · rw [g2, if_neg hji, if_neg (by omega)]; exact hone j hj
  · rw [g2, g2, if_neg hji, if_neg (by omega), if_neg hpi, if_neg (by omega)]; exact h.ord j hj (by omega)
  · rw [g2, g2, if_neg (by omega), if_neg (by omega), if_neg (by omega), if_neg (by omega)]
    have h1 := h.ord j hj (by omega)
    rw [hji] at h1
    exact lex_le_tr (h.ord i hi0 hi) h1
end Go.Proofs.Ytoekaigdacaghaa
