/- The plain laws of the orders. Conditions: none. -/
import Derived.Test.YtlbhhoojbokblaaAe
set_option linter.unusedVariables false
set_option linter.unusedSimpArgs false
namespace Go.Proofs.Ytlbhhoojbokblaa
open Go.Kern

structure IsOrd {α : Type} (c : α → α → Int) : Prop where
  anti : ∀ a b, c b a = - c a b
  tr : ∀ a b d, c a b ≤ 0 → c b d ≤ 0 → c a d ≤ 0 ∧ (c a b < 0 ∨ c b d < 0 → c a d < 0)

theorem IsOrd.eq {α : Type} {c : α → α → Int} (h : IsOrd c) {a b d : α} (h1 : c a b = 0) (h2 : c b d = 0) : c a d = 0 := by
  have t1 := (h.tr a b d (by omega) (by omega)).1
  have a1 := h.anti a b
  have a2 := h.anti b d
  have a3 := h.anti a d
  have t2 := (h.tr d b a (by omega) (by omega)).1
  omega

theorem cmpZ_ord : IsOrd cmpZ where
  anti a b := by unfold cmpZ; (repeat' split) <;> omega
  tr a b d := by unfold cmpZ; (repeat' split) <;> omega

theorem IsOrd.on {α β : Type} {c : β → β → Int} (h : IsOrd c) (f : α → β) : IsOrd fun a b => c (f a) (f b) where
  anti a b := h.anti _ _
  tr a b d := h.tr _ _ _

theorem IsOrd.flip {α : Type} {c : α → α → Int} (h : IsOrd c) : IsOrd fun a b => c b a where
  anti a b := h.anti _ _
  tr a b d h1 h2 := by
    have := h.tr d b a h2 h1
    exact ⟨this.1, fun h => this.2 h.symm⟩

theorem firstC_ord : IsOrd firstC where
  anti a b := by cases a <;> cases b <;> rfl
  tr a b d := by cases a <;> cases b <;> cases d <;> decide

theorem zero_ord {α : Type} : IsOrd fun _ _ : α => orZ [] where
  anti a b := rfl
  tr a b d h1 h2 := ⟨h1, fun h => by simp [orZ] at h⟩

theorem IsOrd.or {α : Type} {c : α → α → Int} (h1 : IsOrd c) {l : α → α → List Int} (h2 : IsOrd fun a b => orZ (l a b)) : IsOrd fun a b => orZ (c a b :: l a b) where
  anti a b := by
    have a1 := h1.anti a b
    have a2 := h2.anti a b
    simp only [orZ]
    (repeat' split) <;> omega
  tr a b d := by
    simp only [orZ]
    have a1 := h1.anti a b
    have a2 := h1.anti b d
    have a3 := h1.anti a d
    have t1 := h1.tr a b d
    have t2 := h1.tr d b a
    have t3 := h1.tr b d a
    have t4 := h1.tr d a b
    have u1 := h2.tr a b d
    by_cases e1 : c a b = 0 <;> by_cases e2 : c b d = 0 <;> by_cases e3 : c a d = 0 <;> simp only [e1, e2, e3, if_true, if_false] <;> intro p q <;> omega

theorem firstNZ_fst : ∀ (l : List Int) (k : Int), (firstNZ k l).1 = orZ l
  | [], k => rfl
  | a :: l, k => by
    simp only [firstNZ, orZ]
    split
    · exact firstNZ_fst l _
    · rfl

theorem lexF_anti {α : Type} {c : α → α → Int} (h : IsOrd c) : ∀ l m : List α, lexF c m l = - lexF c l m
  | [], [] => rfl
  | [], _ :: _ => rfl
  | _ :: _, [] => rfl
  | a :: l, b :: m => by
    have := lexF_anti h l m
    have a1 := h.anti a b
    simp only [lexF]
    by_cases e : c a b = 0
    · rw [if_neg (by omega), if_neg (by omega)]; exact this
    · rw [if_pos (by omega), if_pos (by omega)]; exact a1

theorem lexF_tr {α : Type} {c : α → α → Int} (h : IsOrd c) : ∀ l m n : List α, lexF c l m ≤ 0 → lexF c m n ≤ 0 → lexF c l n ≤ 0 ∧ (lexF c l m < 0 ∨ lexF c m n < 0 → lexF c l n < 0)
  | [], [], [] => by simp [lexF]
  | [], [], _ :: _ => by simp [lexF]
  | [], _ :: _, [] => by simp [lexF]
  | [], _ :: _, _ :: _ => by simp [lexF]
  | _ :: _, [], _ => by simp [lexF]
  | _ :: _, _ :: _, [] => by simp [lexF]
  | a :: l, b :: m, d :: n => by
    have ih := lexF_tr h l m n
    have a1 := h.anti a b
    have a2 := h.anti b d
    have a3 := h.anti a d
    have t1 := h.tr a b d
    have t2 := h.tr d b a
    have t3 := h.tr b d a
    have t4 := h.tr d a b
    simp only [lexF]
    by_cases e1 : c a b = 0 <;> by_cases e2 : c b d = 0 <;> by_cases e3 : c a d = 0 <;> simp only [e1, e2, e3, ne_eq, not_true_eq_false, not_false_eq_true, if_true, if_false] <;> intro p q <;> omega

theorem lexF_ord {α : Type} {c : α → α → Int} (h : IsOrd c) : IsOrd (lexF c) := ⟨lexF_anti h, lexF_tr h⟩

theorem ordC_ord : IsOrd ordC := (cmpZ_ord.on Prod.fst).or ((cmpZ_ord.on Prod.snd).or zero_ord)
theorem pathCmp_ord : IsOrd pathCmp := (cmpZ_ord.on fun l : List Int => (l.length : Int)).or ((lexF_ord cmpZ_ord).or zero_ord)
theorem commsCmp_ord : IsOrd commsCmp := (cmpZ_ord.on fun l : List (Int × Int) => (l.length : Int)).or ((lexF_ord ordC_ord).or zero_ord)
theorem attrCmp_ord : IsOrd attrCmp :=
  (cmpZ_ord.on Attr.Pref).or ((cmpZ_ord.on Attr.Med).or ((cmpZ_ord.on Attr.Origin).or ((pathCmp_ord.on Attr.Path).or ((commsCmp_ord.on Attr.Comms).or ((cmpZ_ord.on Attr.From).or ((pathCmp_ord.on Attr.Clusters).or zero_ord))))))

theorem rules_ord : IsOrd fun a b => orZ (rules a b) :=
  (firstC_ord.on fun c : Cand => decide (c.From = 0)).or (((cmpZ_ord.on fun c : Cand => c.A.Pref).flip).or ((cmpZ_ord.on fun c : Cand => (c.A.Path.length : Int)).or
    ((cmpZ_ord.on fun c : Cand => c.A.Origin).or ((cmpZ_ord.on fun c : Cand => c.A.Med).or ((firstC_ord.on Cand.Outer).or ((cmpZ_ord.on Cand.Far).or ((cmpZ_ord.on Cand.ID).or
      ((attrCmp_ord.on Cand.A).or ((cmpZ_ord.on Cand.From).or zero_ord)))))))))

theorem decCmp_ord : IsOrd fun a b => (decCmp a b).1 := by
  have : (fun a b => (decCmp a b).1) = fun a b => orZ (rules a b) := by funext a b; exact firstNZ_fst _ _
  rw [this]; exact rules_ord
end Go.Proofs.Ytlbhhoojbokblaa
