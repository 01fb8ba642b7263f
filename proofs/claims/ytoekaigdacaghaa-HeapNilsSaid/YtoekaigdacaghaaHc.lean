/- Plain laws of heaps: what a hole, its way up and its way down keep. Conditions: none. -/
import Derived.Test.YtoekaigdacaghaaHb
set_option linter.unusedVariables false
set_option linter.unusedSimpArgs false
namespace Go.Proofs.Ytoekaigdacaghaa

theorem gset {ls : List Th} {i : Nat} (h : i < ls.length) (x : Th) (j : Nat) : (ls.set i x).getD j noTh = if j = i then x else ls.getD j noTh := by
  simp only [List.getD_eq_getElem?_getD, List.getElem?_set]
  by_cases e : i = j
  · subst e; simp [h]
  · rw [if_neg e, if_neg (fun q => e q.symm)]

def UK (em : EM) : Prop := em.Pairwise fun a b => a.1 ≠ b.1
theorem findM_aset (k k' : ByteArray) (i : Nat) : ∀ em : EM, findM k (asetM k' i em) = if k = k' then some i else findM k em
  | [] => by simp only [asetM, findM]
  | e :: r => by
    have ih := findM_aset k k' i r
    simp only [asetM]
    split
    · rename_i q
      subst q
      simp only [findM]
      split <;> rfl
    · rename_i q
      simp only [findM, ih]
      by_cases h1 : k = e.1
      · have : ¬ k = k' := fun h => q (h ▸ h1 ▸ rfl)
        rw [if_pos h1, if_neg this, if_pos h1]
      · rw [if_neg h1, if_neg h1]
theorem mem_aset {k : ByteArray} {i : Nat} : ∀ {em : EM} {p : ByteArray × Nat}, p ∈ asetM k i em → p.1 = k ∨ p ∈ em
  | [], p, h => by simp [asetM] at h; exact .inl (by rw [h])
  | e :: r, p, h => by
    simp only [asetM] at h
    split at h
    · rcases List.mem_cons.1 h with h | h
      · exact .inl (by rw [h])
      · exact .inr (List.mem_cons_of_mem _ h)
    · rcases List.mem_cons.1 h with h | h
      · exact .inr (by rw [h]; exact List.mem_cons_self)
      · rcases mem_aset h with h | h
        · exact .inl h
        · exact .inr (List.mem_cons_of_mem _ h)
theorem UK_aset (k : ByteArray) (i : Nat) : ∀ {em : EM}, UK em → UK (asetM k i em)
  | [], _ => by simp [asetM, UK]
  | e :: r, h => by
    have h' := List.pairwise_cons.1 h
    have ih := UK_aset k i h'.2
    simp only [asetM]
    split
    · rename_i q
      refine List.pairwise_cons.2 ⟨fun b hb => ?_, h'.2⟩
      rw [q]; exact h'.1 b hb
    · rename_i q
      refine List.pairwise_cons.2 ⟨fun b hb => ?_, ih⟩
      rcases mem_aset hb with h1 | h1
      · rw [h1]; exact fun e => q e.symm
      · exact h'.1 b h1
theorem findM_none {k : ByteArray} : ∀ {em : EM}, (∀ p, p ∈ em → p.1 ≠ k) → findM k em = none
  | [], _ => rfl
  | e :: r, h => by
    rw [findM, if_neg (fun q => h e List.mem_cons_self q.symm)]
    exact findM_none fun p hp => h p (List.mem_cons_of_mem _ hp)
theorem adelM_mem {k : ByteArray} : ∀ {em : EM} {p : ByteArray × Nat}, p ∈ adelM k em → p ∈ em
  | [], p, h => by simp [adelM] at h
  | e :: r, p, h => by
    simp only [adelM] at h
    split at h
    · exact List.mem_cons_of_mem _ h
    · rcases List.mem_cons.1 h with h | h
      · rw [h]; exact List.mem_cons_self
      · exact List.mem_cons_of_mem _ (adelM_mem h)
theorem UK_adel (k : ByteArray) : ∀ {em : EM}, UK em → UK (adelM k em)
  | [], _ => by simp [adelM, UK]
  | e :: r, h => by
    have h' := List.pairwise_cons.1 h
    simp only [adelM]
    split
    · exact h'.2
    · exact List.pairwise_cons.2 ⟨fun b hb => h'.1 b (adelM_mem hb), UK_adel k h'.2⟩
theorem findM_adel (k k' : ByteArray) : ∀ {em : EM}, UK em → findM k (adelM k' em) = if k = k' then none else findM k em
  | [], _ => by simp [adelM, findM]
  | e :: r, h => by
    have h' := List.pairwise_cons.1 h
    have ih := findM_adel k k' h'.2
    simp only [adelM]
    split
    · rename_i q
      by_cases h1 : k = k'
      · rw [if_pos h1]
        exact findM_none fun p hp e => h'.1 p hp (by rw [e, h1, q])
      · rw [if_neg h1, findM, if_neg (fun e => h1 (by rw [e, q]))]
    · rename_i q
      simp only [findM, ih]
      by_cases h1 : k = e.1
      · rw [if_pos h1, if_pos h1, if_neg (fun e => q (by rw [← e, h1]))]
      · rw [if_neg h1, if_neg h1]

/-- The order is that of some rank. -/
def ByRank (ρ : Int → Int) (lt : Int → Int → Bool) : Prop := ∀ a b, lt a b = decide (ρ a < ρ b)
def lex (ρ : Int → Int) (x y : Th) : Prop := ρ x.r < ρ y.r ∨ (ρ x.r = ρ y.r ∧ x.w < y.w)
section
variable {ρ : Int → Int} {lt : Int → Int → Bool} (hr : ByRank ρ lt)
include hr
theorem ahead_T {x y : Th} : ahead lt x y = true ↔ lex ρ x y := by
  have hr' : ∀ a b, lt a b = decide (ρ a < ρ b) := hr
  simp only [ahead, hr', Bool.or_eq_true, Bool.and_eq_true, Bool.not_eq_true', decide_eq_true_eq, decide_eq_false_iff_not, lex]
  constructor
  · rintro (h | ⟨h1, h2⟩) <;> omega
  · rintro (h | ⟨h1, h2⟩)
    · exact .inl h
    · exact .inr ⟨by omega, h2⟩
theorem ahead_F {x y : Th} : ahead lt x y = false ↔ ¬ lex ρ x y := by
  rw [← ahead_T hr]
  cases ahead lt x y <;> simp
end
theorem lex_le_tr {ρ : Int → Int} {x y z : Th} (h1 : ¬ lex ρ y x) (h2 : ¬ lex ρ z y) : ¬ lex ρ z x := by
  simp only [lex] at h1 h2 ⊢; omega
theorem lex_le {ρ : Int → Int} {x y : Th} (h : lex ρ x y) : ¬ lex ρ y x := by
  simp only [lex] at h ⊢; omega

/-- What lies in the row but for a hole at i, where x belongs. -/
structure Hole (c : List Th) (n : Nat) (ls : List Th) (em : EM) (i : Nat) (x : Th) : Prop where
  bi : i < n
  len : n ≤ ls.length
  big : ls.length < 1000000
  cnt : n = c.length
  mem : ∀ j, j < n → (ls.set i x).getD j noTh ∈ c
  sur : ∀ t, t ∈ c → ∃ j, j < n ∧ (ls.set i x).getD j noTh = t
  at_ : ∀ j, j < n → j ≠ i → findM (ls.getD j noTh).k em = some j
  no : ∀ k, (∀ t, t ∈ c → t.k ≠ k) → findM k em = none
  one : ∀ j, j < n → j ≠ i → (ls.getD j noTh).k ≠ x.k
  uk : UK em

/-- The thing at p goes into the hole at i; the hole is at p. -/
theorem Hole.move {c : List Th} {n : Nat} {ls : List Th} {em : EM} {i : Nat} {x : Th} (h : Hole c n ls em i x) {p : Nat} (hp : p < n) (hne : p ≠ i) : Hole c n (ls.set i (ls.getD p noTh)) (asetM (ls.getD p noTh).k i em) p x := by
  obtain ⟨bi, len, big, cnt, mem, sur, at_, no, one, uk⟩ := h
  have hi : i < ls.length := by omega
  have hpl : p < ls.length := by omega
  have g1 := fun j => gset hi x j
  have g2 := fun j => gset hi (ls.getD p noTh) j
  have g3 : ∀ j, ((ls.set i (ls.getD p noTh)).set p x).getD j noTh = if j = p then x else if j = i then ls.getD p noTh else ls.getD j noTh := fun j => by
    rw [gset (by rw [List.length_set]; exact hpl), g2]
  have hy : ls.getD p noTh ∈ c := by have := mem p hp; rwa [g1, if_neg hne] at this
  refine ⟨hp, by rw [List.length_set]; exact len, by rw [List.length_set]; exact big, cnt, fun j hj => ?_, fun t ht => ?_, fun j hj hjp => ?_, fun k hk => ?_, fun j hj hjp => ?_, UK_aset _ _ uk⟩
  · rw [g3]
    by_cases e1 : j = p
    · rw [if_pos e1]; have := mem i bi; rwa [g1, if_pos rfl] at this
    · rw [if_neg e1]
      by_cases e2 : j = i
      · rw [if_pos e2]; exact hy
      · rw [if_neg e2]; have := mem j hj; rwa [g1, if_neg e2] at this
  · obtain ⟨j, hj, e⟩ := sur t ht
    rw [g1] at e
    by_cases e1 : j = i
    · rw [if_pos e1] at e; exact ⟨p, hp, by rw [g3, if_pos rfl]; exact e⟩
    · rw [if_neg e1] at e
      by_cases e2 : j = p
      · subst e2; exact ⟨i, bi, by rw [g3, if_neg (fun q => hne q.symm), if_pos rfl]; exact e⟩
      · exact ⟨j, hj, by rw [g3, if_neg e2, if_neg e1]; exact e⟩
  · rw [g2, findM_aset]
    by_cases e1 : j = i
    · rw [if_pos e1, if_pos rfl, e1]
    · rw [if_neg e1]
      have := at_ j hj e1
      rw [if_neg (fun q => ?_)]
      · exact this
      · rw [q, at_ p hp hne] at this
        injection this with this
        exact hjp this.symm
  · rw [findM_aset, if_neg (fun q => hk _ hy q.symm)]
    exact no k hk
  · rw [g2]
    by_cases e1 : j = i
    · rw [if_pos e1]; exact one p hp hne
    · rw [if_neg e1]; exact one j hj e1

structure UpI (ρ : Int → Int) (c : List Th) (n : Nat) (x : Th) (ls : List Th) (em : EM) (i : Nat) : Prop where
  hole : Hole c n ls em i x
  A : ∀ j, 0 < j → j < n → j ≠ i → (j - 1) / 2 ≠ i → ¬ lex ρ (ls.getD j noTh) (ls.getD ((j - 1) / 2) noTh)
  B : ∀ j, 0 < j → j < n → (j - 1) / 2 = i → 0 < i → ¬ lex ρ (ls.getD j noTh) (ls.getD ((i - 1) / 2) noTh)

theorem UpI.step {ρ : Int → Int} {c : List Th} {n : Nat} {x : Th} {ls : List Th} {em : EM} {i : Nat} (h : UpI ρ c n x ls em i) (hi : 0 < i) (hx : lex ρ x (ls.getD ((i - 1) / 2) noTh)) :
    UpI ρ c n x (ls.set i (ls.getD ((i - 1) / 2) noTh)) (asetM (ls.getD ((i - 1) / 2) noTh).k i em) ((i - 1) / 2) := by
  obtain ⟨ho, A, B⟩ := h
  have bi := ho.bi
  have hl := ho.len
  have g2 := fun j => gset (show i < ls.length by omega) (ls.getD ((i - 1) / 2) noTh) j
  refine ⟨ho.move (by omega) (by omega), fun j hj hjn hjp hpp => ?_, fun j hj hjn hjp hp0 => ?_⟩
  · rw [g2, g2]
    by_cases e1 : j = i
    · exact absurd (by rw [e1]) hpp
    · rw [if_neg e1]
      by_cases e2 : (j - 1) / 2 = i
      · rw [if_pos e2]; exact B j hj hjn e2 hi
      · rw [if_neg e2]; exact A j hj hjn e1 e2
  · have hA : ¬ lex ρ (ls.getD ((i - 1) / 2) noTh) (ls.getD (((i - 1) / 2 - 1) / 2) noTh) := A ((i - 1) / 2) hp0 (by omega) (by omega) (by omega)
    rw [g2, g2, if_neg (show ¬ ((i - 1) / 2 - 1) / 2 = i by omega)]
    by_cases e1 : j = i
    · rw [if_pos e1]; exact hA
    · rw [if_neg e1]
      have := A j hj hjn e1 (by omega)
      rw [hjp] at this
      exact lex_le_tr hA this

structure DownI (ρ : Int → Int) (c : List Th) (n : Nat) (x : Th) (ls : List Th) (em : EM) (i : Nat) : Prop where
  hole : Hole c n ls em i x
  C : ∀ j, 0 < j → j < n → (j - 1) / 2 ≠ i → ¬ lex ρ ((ls.set i x).getD j noTh) ((ls.set i x).getD ((j - 1) / 2) noTh)
  B : ∀ j, 0 < j → j < n → (j - 1) / 2 = i → 0 < i → ¬ lex ρ (ls.getD j noTh) (ls.getD ((i - 1) / 2) noTh)

/-- Where the way up ends the way down begins. -/
theorem UpI.turn {ρ : Int → Int} {c : List Th} {n : Nat} {x : Th} {ls : List Th} {em : EM} {i : Nat} (h : UpI ρ c n x ls em i) (hx : i = 0 ∨ ¬ lex ρ x (ls.getD ((i - 1) / 2) noTh)) :
    DownI ρ c n x (ls.set i x) (asetM x.k i em) i := by
  obtain ⟨ho, A, B⟩ := h
  have bi := ho.bi
  have hl := ho.len
  have g1 := fun j => gset (show i < ls.length by omega) x j
  have hss : (ls.set i x).set i x = ls.set i x := by rw [List.set_set]
  have hxc : x ∈ c := by have := ho.mem i bi; rwa [g1, if_pos rfl] at this
  refine ⟨⟨bi, by rw [List.length_set]; exact hl, by rw [List.length_set]; exact ho.big, ho.cnt, fun j hj => by rw [hss]; exact ho.mem j hj, fun t ht => by rw [hss]; exact ho.sur t ht, fun j hj hji => ?_, fun k hk => ?_, fun j hj hji => by rw [g1, if_neg hji]; exact ho.one j hj hji, UK_aset _ _ ho.uk⟩, fun j hj hjn hjp => ?_, fun j hj hjn hjp hi => ?_⟩
  · rw [g1, if_neg hji, findM_aset]
    split
    · rename_i q; exact absurd q (ho.one j hj hji)
    · exact ho.at_ j hj hji
  · rw [findM_aset, if_neg (fun q => hk _ hxc q.symm)]; exact ho.no k hk
  · rw [hss, g1, g1, if_neg hjp]
    by_cases e1 : j = i
    · rw [if_pos e1, e1]
      rcases hx with h0 | h0
      · omega
      · exact h0
    · rw [if_neg e1]; exact A j hj hjn e1 hjp
  · rw [g1, g1, if_neg (by omega), if_neg (by omega)]
    exact B j hj hjn hjp hi

theorem DownI.step {ρ : Int → Int} {lt : Int → Int → Bool} (hr : ByRank ρ lt) {c : List Th} {n : Nat} {x : Th} {ls : List Th} {em : EM} {i : Nat} (h : DownI ρ c n x ls em i) (hi : 2 * i + 1 < n) (hx : ahead lt (ls.getD (child lt n ls i) noTh) x = true) :
    DownI ρ c n x (ls.set i (ls.getD (child lt n ls i) noTh)) (asetM (ls.getD (child lt n ls i) noTh).k i em) (child lt n ls i) := by
  obtain ⟨ho, C, B⟩ := h
  have bi := ho.bi
  have hl := ho.len
  obtain ⟨k, hk⟩ : ∃ k, k = child lt n ls i := ⟨_, rfl⟩
  -- the child is one of the two, and the less urgent one is the other
  have hch : k < n ∧ (k - 1) / 2 = i ∧ i < k ∧ ∀ j, 0 < j → j < n → (j - 1) / 2 = i → ¬ lex ρ (ls.getD j noTh) (ls.getD k noTh) := by
    rw [hk, child]
    split
    · rename_i q
      refine ⟨q.1, by omega, by omega, fun j hj hjn hjp => ?_⟩
      have : j = 2 * i + 1 ∨ j = 2 * i + 2 := by omega
      rcases this with rfl | rfl
      · exact lex_le ((ahead_T hr).1 q.2)
      · simp only [lex]; omega
    · rename_i q
      refine ⟨hi, by omega, by omega, fun j hj hjn hjp => ?_⟩
      have : j = 2 * i + 1 ∨ j = 2 * i + 2 := by omega
      rcases this with rfl | rfl
      · simp only [lex]; omega
      · exact fun h => q ⟨hjn, (ahead_T hr).2 h⟩
  rw [← hk] at hx ⊢
  obtain ⟨kn, kp, ik, kmin⟩ := hch
  have hxl := (ahead_T hr).1 hx
  have hil : i < ls.length := by omega
  have hkl : k < ls.length := by omega
  have g1 := fun j => gset hil x j
  have g2 := fun j => gset hil (ls.getD k noTh) j
  have g3 : ∀ j, ((ls.set i (ls.getD k noTh)).set k x).getD j noTh = if j = k then x else if j = i then ls.getD k noTh else ls.getD j noTh := fun j => by
    rw [gset (by rw [List.length_set]; exact hkl), g2]
  have C' : ∀ j, 0 < j → j < n → (j - 1) / 2 ≠ i → j ≠ i → ¬ lex ρ (ls.getD j noTh) (ls.getD ((j - 1) / 2) noTh) := fun j hj hjn h1 h2 => by
    have := C j hj hjn h1
    rwa [g1, g1, if_neg h2, if_neg h1] at this
  refine ⟨ho.move kn (by omega), fun j hj hjn hjp => ?_, fun j hj hjn hjp hk0 => ?_⟩
  · rw [g3, g3, if_neg hjp]
    by_cases e1 : j = k
    · subst e1
      rw [if_pos rfl, if_pos kp]
      exact lex_le hxl
    · rw [if_neg e1]
      by_cases e2 : j = i
      · subst e2
        rw [if_pos rfl, if_neg (by omega)]
        exact B k (by omega) kn kp hj
      · rw [if_neg e2]
        by_cases e3 : (j - 1) / 2 = i
        · rw [if_pos e3]; exact kmin j hj hjn e3
        · rw [if_neg e3]; exact C' j hj hjn e3 e2
  · rw [g2, g2, if_neg (show ¬ j = i by omega), kp, if_pos rfl]
    have := C' j hj hjn (by omega) (by omega)
    rwa [hjp] at this

/-- A whole heap of the things c. -/
structure Heap (ρ : Int → Int) (c : List Th) (n : Nat) (ls : List Th) (em : EM) : Prop where
  len : n ≤ ls.length
  big : ls.length < 1000000
  cnt : n = c.length
  mem : ∀ j, j < n → ls.getD j noTh ∈ c
  sur : ∀ t, t ∈ c → ∃ j, j < n ∧ ls.getD j noTh = t
  at_ : ∀ j, j < n → findM (ls.getD j noTh).k em = some j
  no : ∀ k, (∀ t, t ∈ c → t.k ≠ k) → findM k em = none
  uk : UK em
  ord : ∀ j, 0 < j → j < n → ¬ lex ρ (ls.getD j noTh) (ls.getD ((j - 1) / 2) noTh)

theorem DownI.rest {ρ : Int → Int} {lt : Int → Int → Bool} (hr : ByRank ρ lt) {c : List Th} {n : Nat} {x : Th} {ls : List Th} {em : EM} {i : Nat} (h : DownI ρ c n x ls em i) (hx : n ≤ 2 * i + 1 ∨ ahead lt (ls.getD (child lt n ls i) noTh) x = false) :
    Heap ρ c n (ls.set i x) (asetM x.k i em) := by
  obtain ⟨ho, C, B⟩ := h
  have bi := ho.bi
  have hl := ho.len
  have g1 := fun j => gset (show i < ls.length by omega) x j
  have hxc : x ∈ c := by have := ho.mem i bi; rwa [g1, if_pos rfl] at this
  refine ⟨by rw [List.length_set]; exact hl, by rw [List.length_set]; exact ho.big, ho.cnt, ho.mem, ho.sur, fun j hj => ?_, fun k hk => ?_, UK_aset _ _ ho.uk, fun j hj hjn => ?_⟩
  · rw [g1, findM_aset]
    by_cases e1 : j = i
    · rw [if_pos e1, if_pos rfl, e1]
    · rw [if_neg e1, if_neg (ho.one j hj e1)]; exact ho.at_ j hj e1
  · rw [findM_aset, if_neg (fun q => hk _ hxc q.symm)]; exact ho.no k hk
  · by_cases e1 : (j - 1) / 2 = i
    · rw [g1, g1, if_pos e1, if_neg (by omega)]
      rcases hx with h0 | h0
      · omega
      · have h1 := (ahead_F hr).1 h0
        have : j = 2 * i + 1 ∨ j = 2 * i + 2 := by omega
        unfold child at h1
        split at h1
        · rename_i q
          rcases this with rfl | rfl
          · exact lex_le_tr h1 (lex_le ((ahead_T hr).1 q.2))
          · exact h1
        · rename_i q
          rcases this with rfl | rfl
          · exact h1
          · exact lex_le_tr h1 (fun h => q ⟨hjn, (ahead_T hr).2 h⟩)
    · exact C j hj hjn e1

/-- The first is the most urgent. -/
theorem Heap.least {ρ : Int → Int} {c : List Th} {n : Nat} {ls : List Th} {em : EM} (h : Heap ρ c n ls em) : ∀ j, j < n → ¬ lex ρ (ls.getD j noTh) (ls.getD 0 noTh) := by
  intro j
  induction j using Nat.strongRecOn with
  | _ j ih =>
    intro hj
    rcases Nat.eq_zero_or_pos j with e | e
    · subst e; simp only [lex]; omega
    · exact lex_le_tr (ih ((j - 1) / 2) (by omega) (by omega)) (h.ord j e hj)
end Go.Proofs.Ytoekaigdacaghaa
