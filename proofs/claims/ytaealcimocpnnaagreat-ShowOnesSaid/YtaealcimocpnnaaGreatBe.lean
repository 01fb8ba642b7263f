/- Plain laws of reading an expression on AS paths. Conditions: none. -/
import Derived.Test.YtaealcimocpnnaaGreatBd
set_option linter.unusedVariables false
set_option linter.unusedSimpArgs false
namespace Go.Proofs.YtaealcimocpnnaaGreat
open Go.Kern

structure PS where
  at_ : Nat
  e : Int
section
variable (l : List UInt8)
def skipB (i : Nat) : Nat := i + ((l.drop i).takeWhile (fun c => decide (c.toNat = 32))).length
theorem skipB_le (i : Nat) : i ≤ skipB l i := Nat.le_add_right _ _
theorem skipB_len {i : Nat} (h : i ≤ l.length) : skipB l i ≤ l.length := by
  have := (List.takeWhile_sublist (p := fun c : UInt8 => decide (c.toNat = 32)) (l := l.drop i)).length_le
  rw [List.length_drop] at this
  unfold skipB; omega
theorem skipB_step {i : Nat} (h : i < l.length) (hc : (l.getD i default).toNat = 32) : skipB l i = skipB l (i + 1) := by
  have hg : l.getD i default = l[i] := by simp [List.getD_eq_getElem?_getD, h]
  rw [hg] at hc
  unfold skipB
  rw [List.drop_eq_getElem_cons h, List.takeWhile_cons, if_pos (by simp [hc])]
  simp only [List.length_cons]; omega
theorem skipB_stop {i : Nat} (h : i < l.length) (hc : ¬ (l.getD i default).toNat = 32) : skipB l i = i := by
  have hg : l.getD i default = l[i] := by simp [List.getD_eq_getElem?_getD, h]
  rw [hg] at hc
  unfold skipB
  rw [List.drop_eq_getElem_cons h, List.takeWhile_cons, if_neg (by simp [hc])]
  rfl
theorem skipB_end {i : Nat} (h : l.length ≤ i) : skipB l i = i := by
  unfold skipB
  rw [List.drop_eq_nil_of_le h]; rfl
def chr (i : Nat) : Int := if i < l.length then ((l.getD i default).toNat : Int) else 0
def takeB (c : Int) (p : PS) : Bool × PS :=
  if p.e = 0 then (if chr l (skipB l p.at_) = c ∧ skipB l p.at_ < l.length then (true, ⟨skipB l p.at_ + 1, 0⟩) else (false, ⟨skipB l p.at_, 0⟩)) else (false, p)
def failB (e : Int) (p : PS) : PS := if p.e = 0 then ⟨p.at_, e⟩ else p
def digitZ (c : Int) : Bool := decide (48 ≤ c) && decide (c ≤ 57)
def numR : List UInt8 → Nat → Int → Nat × Int
  | [], i, n => (i, n)
  | c :: r, i, n => if digitZ c.toNat = true then numR r (i + 1) (if 1000000 < n * 10 + (c.toNat - 48) then 1000000 else n * 10 + (c.toNat - 48)) else (i, n)
def numberB (p : PS) : Int × PS :=
  if digitZ (chr l (skipB l p.at_)) = true then
    (let r := numR (l.drop (skipB l p.at_)) (skipB l p.at_) 0
     (r.2, if chr l (skipB l p.at_) = 48 ∧ skipB l p.at_ + 1 < r.1 then failB 4 ⟨r.1, p.e⟩ else if r.2 < 1 ∨ 65535 < r.2 then failB 7 ⟨r.1, p.e⟩ else ⟨r.1, p.e⟩))
  else (0, failB 4 ⟨skipB l p.at_, p.e⟩)
def partB (p : PS) : PS :=
  let a := numberB l p
  let t := takeB l 45 a.2
  if t.1 = true then
    (let b := numberB l t.2
     if b.2.e = 0 ∧ b.1 < a.1 then failB 7 b.2 else b.2)
  else t.2
def setB : Nat → PS → PS
  | 0, p => p
  | n + 1, p => if p.e = 0 then (if (takeB l 93 p).1 = true then (takeB l 93 p).2 else setB n (partB l (takeB l 93 p).2)) else p
def atomB (ch : PS → PS) (p : PS) : PS :=
  let t1 := takeB l 46 p
  if t1.1 = true then t1.2 else
  let t2 := takeB l 91 t1.2
  if t2.1 = true then setB l (l.length + 2) (partB l t2.2) else
  let t3 := takeB l 40 t2.2
  if t3.1 = true then
    (let q := ch t3.2
     if q.e = 0 then (if (takeB l 41 q).1 = true then (takeB l 41 q).2 else failB 4 (takeB l 41 q).2) else q)
  else (numberB l t3.2).2
def itemB (ch : PS → PS) (p : PS) : PS :=
  let q := atomB l ch p
  let t1 := takeB l 42 q
  if t1.1 = true then t1.2 else
  let t2 := takeB l 43 t1.2
  if t2.1 = true then t2.2 else (takeB l 63 t2.2).2
def beginsZ (c : Int) : Bool := digitZ c || decide (c = 46) || decide (c = 91) || decide (c = 40)
def rowB (ch : PS → PS) : Nat → PS → PS
  | 0, p => p
  | n + 1, p => if p.e = 0 then (if beginsZ (chr l (skipB l p.at_)) = true then rowB ch n (itemB l ch ⟨skipB l p.at_, 0⟩) else ⟨skipB l p.at_, 0⟩) else p
def altB (ch : PS → PS) : Nat → PS → PS
  | 0, p => p
  | n + 1, p => if (takeB l 124 (rowB l ch (l.length + 2) p)).1 = true then altB ch n (takeB l 124 (rowB l ch (l.length + 2) p)).2 else (takeB l 124 (rowB l ch (l.length + 2) p)).2
def choiceB : Nat → PS → PS
  | 0, p => failB 2 p
  | n + 1, p => altB l (choiceB n) (l.length + 2) p
def parseE : Int :=
  if 64 < l.length then 2 else
    let q := (takeB l 36 (choiceB l 8 (takeB l 94 ⟨0, 0⟩).2)).2
    if q.e = 0 then (if skipB l q.at_ < l.length then 4 else 0) else q.e

/-! Going on. -/
structure Mono (f : PS → PS) : Prop where
  le : ∀ p, p.at_ ≤ l.length → p.at_ ≤ (f p).at_
  len : ∀ p, p.at_ ≤ l.length → (f p).at_ ≤ l.length
  err : ∀ p, p.at_ ≤ l.length → p.e ≠ 0 → (f p).e ≠ 0
theorem fail_mono {e : Int} (he : e ≠ 0) : Mono l (failB e) := by
  refine ⟨fun p h => ?_, fun p h => ?_, fun p h k => ?_⟩ <;> (unfold failB; split <;> first | exact Nat.le_refl _ | assumption | skip)
theorem take_mono (c : Int) : Mono l (fun p => (takeB l c p).2) := by
  refine ⟨fun p h => ?_, fun p h => ?_, fun p h k => ?_⟩
  · have := skipB_le l p.at_
    simp only [takeB]; split
    · split
      · simp only; omega
      · exact this
    · exact Nat.le_refl _
  · have := skipB_len l h
    simp only [takeB]; split
    · split
      · rename_i q; simp only; omega
      · exact this
    · exact h
  · simp only [takeB, if_neg k]; exact k
theorem take_err {c : Int} {p : PS} (h : (takeB l c p).1 = true) : p.e = 0 ∧ (takeB l c p).2.e = 0 ∧ p.at_ < (takeB l c p).2.at_ := by
  have := skipB_le l p.at_
  unfold takeB at h ⊢
  by_cases h1 : p.e = 0
  · rw [if_pos h1] at h ⊢
    by_cases h2 : chr l (skipB l p.at_) = c ∧ skipB l p.at_ < l.length
    · rw [if_pos h2]; exact ⟨h1, rfl, by simp only; omega⟩
    · rw [if_neg h2] at h; cases h
  · rw [if_neg h1] at h; cases h
theorem numR_le : ∀ (r : List UInt8) (i : Nat) (n : Int), i ≤ (numR r i n).1 ∧ (numR r i n).1 ≤ i + r.length
  | [], i, n => ⟨Nat.le_refl _, Nat.le_refl _⟩
  | c :: r, i, n => by
    simp only [numR]
    split
    · have := numR_le r (i + 1) (if 1000000 < n * 10 + (c.toNat - 48) then 1000000 else n * 10 + (c.toNat - 48))
      simp only [List.length_cons]; omega
    · simp only [List.length_cons]; omega
theorem numR_gt {r : List UInt8} {i : Nat} {n : Int} {c : UInt8} (h : digitZ c.toNat = true) : i + 1 ≤ (numR (c :: r) i n).1 := by
  rw [numR, if_pos h]
  exact (numR_le r (i + 1) _).1
theorem chr_digit {i : Nat} (h : digitZ (chr l i) = true) : i < l.length ∧ chr l i = ((l.getD i default).toNat : Int) := by
  unfold chr at h ⊢
  by_cases hi : i < l.length
  · exact ⟨hi, if_pos hi⟩
  · rw [if_neg hi] at h; simp [digitZ] at h
theorem fail_at (e : Int) (p : PS) : (failB e p).at_ = p.at_ := by unfold failB; split <;> rfl
theorem fail_e {e : Int} (he : e ≠ 0) (p : PS) : (failB e p).e ≠ 0 := by
  unfold failB; split
  · exact he
  · assumption
theorem number_at (p : PS) (h : digitZ (chr l (skipB l p.at_)) = true) : (numberB l p).2.at_ = (numR (l.drop (skipB l p.at_)) (skipB l p.at_) 0).1 := by
  unfold numberB
  rw [if_pos h]
  simp only
  split
  · exact fail_at _ _
  · split
    · exact fail_at _ _
    · rfl
theorem number_mono : Mono l (fun p => (numberB l p).2) := by
  refine ⟨fun p h => ?_, fun p h => ?_, fun p h k => ?_⟩
  · have h1 := skipB_le l p.at_
    by_cases hd : digitZ (chr l (skipB l p.at_)) = true
    · have h2 := numR_le (l.drop (skipB l p.at_)) (skipB l p.at_) 0
      simp only [number_at l p hd]; omega
    · simp only [numberB, if_neg hd, fail_at]; exact h1
  · have h1 := skipB_len l h
    by_cases hd : digitZ (chr l (skipB l p.at_)) = true
    · have h2 := numR_le (l.drop (skipB l p.at_)) (skipB l p.at_) 0
      rw [List.length_drop] at h2
      simp only [number_at l p hd]; omega
    · simp only [numberB, if_neg hd, fail_at]; exact h1
  · by_cases hd : digitZ (chr l (skipB l p.at_)) = true
    · simp only [numberB, if_pos hd]
      split
      · exact fail_e (by decide) _
      · split
        · exact fail_e (by decide) _
        · exact k
    · simp only [numberB, if_neg hd]; exact fail_e (by decide) _
/-- A number is read, or there is a fault. -/
theorem number_go (p : PS) (h : (numberB l p).2.e = 0) : p.at_ < (numberB l p).2.at_ := by
  have h1 := skipB_le l p.at_
  by_cases hd : digitZ (chr l (skipB l p.at_)) = true
  · obtain ⟨hlt, hc⟩ := chr_digit l hd
    rw [number_at l p hd, List.drop_eq_getElem_cons hlt]
    have hg : l.getD (skipB l p.at_) default = l[skipB l p.at_] := by simp [List.getD_eq_getElem?_getD, hlt]
    rw [hc, hg] at hd
    have := numR_gt (r := l.drop (skipB l p.at_ + 1)) (i := skipB l p.at_) (n := 0) hd
    omega
  · simp only [numberB, if_neg hd] at h
    exact absurd h (fail_e (by decide) _)
theorem Mono.comp {f g : PS → PS} (hf : Mono l f) (hg : Mono l g) : Mono l (fun p => g (f p)) :=
  ⟨fun p h => Nat.le_trans (hf.le p h) (hg.le _ (hf.len p h)), fun p h => hg.len _ (hf.len p h), fun p h k => hg.err _ (hf.len p h) (hf.err p h k)⟩
theorem Mono.ite {f g : PS → PS} (c : PS → Prop) [∀ p, Decidable (c p)] (hf : Mono l f) (hg : Mono l g) : Mono l (fun p => if c p then f p else g p) := by
  refine ⟨fun p h => ?_, fun p h => ?_, fun p h k => ?_⟩ <;> (try simp only) <;> split
  · exact hf.le p h
  · exact hg.le p h
  · exact hf.len p h
  · exact hg.len p h
  · exact hf.err p h k
  · exact hg.err p h k
theorem Mono.id : Mono l (fun p => p) := ⟨fun _ _ => Nat.le_refl _, fun _ h => h, fun _ _ k => k⟩
theorem part_mono : Mono l (partB l) := by
  have h1 := (number_mono l).comp l (take_mono l 45)
  have h2 := h1.comp l (number_mono l)
  have h3 := h2.comp l (fail_mono l (e := 7) (by decide))
  exact Mono.ite l (fun p => (takeB l 45 (numberB l p).2).1 = true) (Mono.ite l (fun p => (numberB l (takeB l 45 (numberB l p).2).2).2.e = 0 ∧ (numberB l (takeB l 45 (numberB l p).2).2).1 < (numberB l p).1) h3 h2) h1
theorem part_go (p : PS) (hp : p.at_ ≤ l.length) (h : (partB l p).e = 0) : p.at_ < (partB l p).at_ := by
  have hm := number_mono l
  have h1 := hm.len p hp
  have ht := take_mono l 45
  have key : (numberB l p).2.e = 0 → p.at_ < (partB l p).at_ := fun h0 => by
    have g1 := number_go l p h0
    have g2 := ht.le _ h1
    have g3 := ht.len _ h1
    have g4 := hm.le _ g3
    simp only [partB]
    split
    · split
      · rw [fail_at]; omega
      · (try simp only at g2 g4); omega
    · (try simp only at g2); omega
  refine key ?_
  cases Int.decEq (numberB l p).2.e 0 with
  | isTrue h0 => exact h0
  | isFalse h0 =>
    have := ((ht.comp l hm).comp l (fail_mono l (e := 7) (by decide)))
    have t0 : (takeB l 45 (numberB l p).2).1 = false := by unfold takeB; rw [if_neg h0]
    simp only [partB, t0, Bool.false_eq_true, if_false] at h
    exact absurd h (ht.err _ h1 h0)
theorem set_mono : ∀ n, Mono l (setB l n)
  | 0 => Mono.id l
  | n + 1 => Mono.ite l (fun p => p.e = 0) (Mono.ite l (fun p => (takeB l 93 p).1 = true) (take_mono l 93) (((take_mono l 93).comp l (part_mono l)).comp l (set_mono n))) (Mono.id l)
variable {ch : PS → PS} (hch : Mono l ch)
include hch
theorem atom_mono : Mono l (atomB l ch) := by
  have t1 := take_mono l 46
  have t2 := t1.comp l (take_mono l 91)
  have t3 := t2.comp l (take_mono l 40)
  have q := t3.comp l hch
  have q1 := q.comp l (take_mono l 41)
  have q2 := q1.comp l (fail_mono l (e := 4) (by decide))
  exact Mono.ite l (fun p => (takeB l 46 p).1 = true) t1 (Mono.ite l (fun p => (takeB l 91 (takeB l 46 p).2).1 = true) ((t2.comp l (part_mono l)).comp l (set_mono l (l.length + 2)))
    (Mono.ite l (fun p => (takeB l 40 (takeB l 91 (takeB l 46 p).2).2).1 = true) (Mono.ite l (fun p => (ch (takeB l 40 (takeB l 91 (takeB l 46 p).2).2).2).e = 0) (Mono.ite l (fun p => (takeB l 41 (ch (takeB l 40 (takeB l 91 (takeB l 46 p).2).2).2)).1 = true) q1 q2) q) (t3.comp l (number_mono l))))
theorem item_mono : Mono l (itemB l ch) := by
  have a := atom_mono l hch
  have t1 := a.comp l (take_mono l 42)
  have t2 := t1.comp l (take_mono l 43)
  have t3 := t2.comp l (take_mono l 63)
  exact Mono.ite l (fun p => (takeB l 42 (atomB l ch p)).1 = true) t1 (Mono.ite l (fun p => (takeB l 43 (takeB l 42 (atomB l ch p)).2).1 = true) t2 t3)
theorem atom_go (p : PS) (hp : p.at_ ≤ l.length) (h : (atomB l ch p).e = 0) (h0 : p.e = 0) : p.at_ < (atomB l ch p).at_ := by
  have m1 := take_mono l 46
  have m2 := m1.comp l (take_mono l 91)
  have m3 := m2.comp l (take_mono l 40)
  have a1 := m1.le p hp
  have a2 := m2.le p hp
  have a3 := m3.le p hp
  have b1 := m1.len p hp
  have b2 := m2.len p hp
  have b3 := m3.len p hp
  try simp only at a1 a2 a3 b1 b2 b3
  simp only [atomB] at h ⊢
  split at h
  · rename_i t
    rw [if_pos t]; exact (take_err l t).2.2
  · rename_i n1
    rw [if_neg n1]
    split at h
    · rename_i t
      rw [if_pos t]
      have g1 := (take_err l t).2.2
      have g2 := ((part_mono l).comp l (set_mono l (l.length + 2))).le _ b2
      (try simp only at g2); omega
    · rename_i n2
      rw [if_neg n2]
      split at h
      · rename_i t
        rw [if_pos t]
        have g1 := (take_err l t).2.2
        have g2 := hch.le _ b3
        have g3 := hch.len _ b3
        have g4 := (take_mono l 41).le _ g3
        split
        · split
          · (try simp only at g4); omega
          · rw [fail_at]; omega
        · omega
      · rename_i n3
        rw [if_neg n3]
        have g1 := number_go l _ h
        omega
theorem item_go (p : PS) (hp : p.at_ ≤ l.length) (h : (itemB l ch p).e = 0) (h0 : p.e = 0) : p.at_ < (itemB l ch p).at_ := by
  have m := atom_mono l hch
  have b := m.len p hp
  have r1 := take_mono l 42
  have r2 := r1.comp l (take_mono l 43)
  have r3 := r2.comp l (take_mono l 63)
  have key : (atomB l ch p).e = 0 → p.at_ < (itemB l ch p).at_ := fun h1 => by
    have g := atom_go l hch p hp h1 h0
    have g1 := r1.le _ b
    have g2 := r2.le _ b
    have g3 := r3.le _ b
    try simp only at g1 g2 g3
    simp only [itemB]
    split
    · omega
    · split <;> omega
  refine key ?_
  cases Int.decEq (atomB l ch p).e 0 with
  | isTrue h1 => exact h1
  | isFalse h1 =>
    exfalso
    have e1 := r1.err _ b h1
    have e2 := r2.err _ b h1
    have e3 := r3.err _ b h1
    try simp only at e1 e2 e3
    simp only [itemB] at h
    split at h
    · exact e1 h
    · split at h
      · exact e2 h
      · exact e3 h
omit hch in
theorem at_mono (f : PS → PS) (hf : Mono l f) : Mono l (fun p => f ⟨skipB l p.at_, 0⟩) → True := fun _ => trivial
theorem row_mono : ∀ n, Mono l (rowB l ch n)
  | 0 => Mono.id l
  | n + 1 => by
    have ih := row_mono n
    have im := item_mono l hch
    refine ⟨fun p h => ?_, fun p h => ?_, fun p h k => ?_⟩
    · have s1 := skipB_le l p.at_
      have s2 := skipB_len l h
      simp only [rowB]; split
      · split
        · have g1 := im.le ⟨skipB l p.at_, 0⟩ s2
          have g2 := ih.le _ (im.len ⟨skipB l p.at_, 0⟩ s2)
          (try simp only at g1); omega
        · exact s1
      · exact Nat.le_refl _
    · have s2 := skipB_len l h
      simp only [rowB]; split
      · split
        · exact ih.len _ (im.len ⟨skipB l p.at_, 0⟩ s2)
        · exact s2
      · exact h
    · simp only [rowB, if_neg k]; exact k
theorem alt_mono : ∀ n, Mono l (altB l ch n)
  | 0 => Mono.id l
  | n + 1 => by
    have r := (row_mono l hch (l.length + 2)).comp l (take_mono l 124)
    exact Mono.ite l (fun p => (takeB l 124 (rowB l ch (l.length + 2) p)).1 = true) (r.comp l (alt_mono n)) r
omit hch in
theorem choice_mono : ∀ n, Mono l (choiceB l n)
  | 0 => fail_mono l (by decide)
  | n + 1 => alt_mono l (choice_mono n) _
end
end Go.Proofs.YtaealcimocpnnaaGreat
