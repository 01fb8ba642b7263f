/- Contract of the document's answer: ref18.Compare. Conditions: none. -/
import Derived.Test.YtlbhhoojbokblaaAl
set_option linter.unusedVariables false
set_option linter.unusedSimpArgs false
namespace Go.Proofs.Ytlbhhoojbokblaa
open Go.Kern
set_option maxRecDepth 100000
set_option maxHeartbeats 4000000
attribute [local go_sem] drun_nil drun_cons prun_nil prun_cons wrOk tqOk lateOp lateB dstOk ev ofConst leafOf Env.putO Env.get envOf readRs_nil oneRes nilSide SK.isNil isMu fillA partsFit boundA SK.cut SK.cutFull SK.fresh rowOk rowsOk_nil rowsOk_cons rowsOk_append rowsOk_ints splice oneOf keyKind cellsKind cellKind cellsB cellB zeroFits TK.agg AV.cells AV.known AV.one List.set_cons_zero List.set_cons_succ put_same put_put forall_const implies_true exists_eq_left exists_eq_left' exists_eq_right exists_eq Store.Sub.refl and_self Int.toNat_natCast length_ints List.length_map true_and and_true decide_true decide_false if_true if_false Bool.false_eq_true Bool.true_eq_false List.getElem?_cons_zero List.getElem?_cons_succ List.length_cons List.length_nil List.drop_zero List.drop_succ_cons List.take_succ_cons List.take_zero List.drop_nil List.take_nil List.append_nil List.map_cons List.map_nil List.cons_append List.nil_append beq_self_eq_true Bool.false_beq Bool.true_beq Bool.not_true Bool.not_false Option.map_some Option.map_none Option.bind_some ne_eq not_false_eq_true List.contains_cons List.contains_nil Bool.or_false Bool.or_true Bool.and_true Bool.and_false Bool.true_and Bool.false_and List.all_cons List.all_nil Nat.one_ne_zero Nat.zero_ne_one Option.isSome_some Option.isSome_none List.getElem?_toArray beq_true beq_false decide_eq_true_eq Int.toNat_zero forall_ints take_ints drop_ints Int.le_refl Int.natCast_nonneg Nat.zero_add Nat.add_zero or_true true_or false_or or_false
attribute [local go_sem ↓] allocN guardP OpSem callA readRs_cons readR binA intOpA strOpA nilOpA unA convA boxA allocA behind loadA buildA buildSliceA fieldAddrA fieldA indexAddrA indexA lenA sliceA extractA nilCheckA storeA lookupA mapSetA mapDelA makeSliceA appendA appendN apN
attribute [local irreducible] PCall W

theorem less_spec (i : Nat) (h1 : 1 ≤ i) (h10 : i ≤ 10) (a b : Cand) (ha : a.A.Fits) (hb : b.A.Fits) (σ : Store) :
    PCall Try.prog 25 [.int .i64 (i : Nat), .agg a.cells, .agg b.cells] σ (fun r s => r = .bool (decide (ruleOf i a b < 0)) ∧ s = σ) := by
  match i, h1, h10 with
  | 1, _, _ =>
    by_cases h : a.From = 0
    · by_cases k : b.From = 0
      · exact less1x a b ha hb h k σ
      · exact less1y a b ha hb h k σ
    · exact less1z a b ha hb h σ
  | 2, _, _ => exact less2 a b ha hb σ
  | 3, _, _ => exact less3 a b ha hb σ
  | 4, _, _ => exact less4 a b ha hb σ
  | 5, _, _ => exact less5 a b ha hb σ
  | 6, _, _ =>
    cases h : a.Outer
    · exact less6z a b ha hb h σ
    · cases k : b.Outer
      · exact less6y a b ha hb h k σ
      · exact less6x a b ha hb h k σ
  | 7, _, _ => exact less7 a b ha hb σ
  | 8, _, _ => exact less8 a b ha hb σ
  | 9, _, _ => exact less9 a b ha hb σ
  | 10, _, _ => exact less10 a b ha hb σ

theorem cons_eq {x y : Int} {l m : List Int} (h : x = y) (k : l = m) : x :: l = y :: m := by rw [h, k]
theorem rules_anti (a b : Cand) : rules b a = (rules a b).map fun n => - n :=
  cons_eq (firstC_ord.anti _ _) (cons_eq (cmpZ_ord.anti _ _) (cons_eq (cmpZ_ord.anti _ _) (cons_eq (cmpZ_ord.anti _ _) (cons_eq (cmpZ_ord.anti _ _) (cons_eq (firstC_ord.anti _ _) (cons_eq (cmpZ_ord.anti _ _) (cons_eq (cmpZ_ord.anti _ _) (cons_eq (attrCmp_ord.anti _ _) (cons_eq (cmpZ_ord.anti _ _) rfl)))))))))

theorem pathCmp_unit (l m : List Int) : IsUnit (pathCmp l m) := orZ_unit _ (by simp [cmpZ_unit, lexF_unit cmpZ_unit])
theorem commsCmp_unit (l m : List (Int × Int)) : IsUnit (commsCmp l m) := orZ_unit _ (by simp [cmpZ_unit, lexF_unit (c := ordC) ordC_unit])
theorem attrCmp_unit (a b : Attr) : IsUnit (attrCmp a b) := orZ_unit _ (by simp [cmpZ_unit, pathCmp_unit, commsCmp_unit])
theorem rules_unit (a b : Cand) : ∀ n, n ∈ rules a b → IsUnit n := by simp [rules, cmpZ_unit, firstC_unit, attrCmp_unit]
theorem ruleOf_unit (i : Nat) (h1 : 1 ≤ i) (h2 : i ≤ 10) (a b : Cand) : IsUnit (ruleOf i a b) := by
  have hl : (rules a b).length = 10 := rfl
  apply rules_unit a b
  rw [ruleOf, List.getD_eq_getElem?_getD, List.getElem?_eq_getElem (show i - 1 < (rules a b).length by omega)]
  exact List.getElem_mem _
theorem ruleOf_anti (i : Nat) (a b : Cand) : ruleOf i b a = - ruleOf i a b := by
  simp only [ruleOf, rules_anti a b, List.getD_eq_getElem?_getD, List.getElem?_map]
  cases (rules a b)[i - 1]? <;> rfl

theorem ref18_spec (a b : Cand) (ha : a.A.Fits) (hb : b.A.Fits) (σ : Store) :
    PCall Try.prog 11 [.agg a.cells, .agg b.cells] σ (fun r s => r = .tup [.int .i64 (decCmp a b).1, .int .i64 (decCmp a b).2] ∧ s = σ) := by
  refine PCall_q [.tmp 4, .tmp 5] 21 Try.func11 (by rfl) rfl rfl rfl rfl ?_
  repeat' first
    | refine W_seq ?_
    | refine W_block ?_
    | ((first | refine W_region (mu := []) ?_ | (refine W_region_any [] ⟨[], [], [], [], [], [], 0⟩ mixedOrders_ok (by kernel_rfl) ?_; intro nu hn1 hn2) | refine fn_ret ?_ | refine fn_normal ?_ | refine Hold_P ?_ | refine prun_go ?_ | refine drun_go ?_); simp -dsimp only [go_sem, Nat.reduceLT, Nat.reduceLeDiff, Nat.reduceEqDiff, Nat.reduceAdd, Nat.reduceMul, Int.reduceNeg, Nat.reduceBEq, reduceCtorEq, ↓reduceIte, Cand.cells])
    | (refine W_cond rfl (fun h => ?_) (fun h => ?_) <;> (try (cases h; done)))
    | refine W_ret ?_
    | refine W_skip ?_
    | refine W_exit ?_
    | refine then_normal ?_
    | refine then_ret ?_
    | refine then_exit ?_
    | refine inBlock_normal ?_
    | refine inBlock_ret ?_
    | refine inBlock_exit ?_
    | refine inBlock_ne (by decide) ?_
    | refine Hold_E ?_
    | (refine And.intro ?_ ?_; omega)
    | ((first | (refine ite_goB (fun h => ?_) (fun h => ?_) <;> (try exact absurd ((h : _ = false).symm.trans (by assumption : _ = true)) (by decide)) <;> (try exact absurd ((by assumption : _ = false).symm.trans (h : _ = true)) (by decide))) | (refine ite_go (fun h => ?_) (fun h => ?_) <;> (try exact absurd h (by assumption)) <;> (try exact absurd (by assumption) h))) <;> (try refine Hold_P ?_) <;> (try simp -dsimp only [h, go_sem, Nat.reduceLT, Nat.reduceLeDiff, Nat.reduceEqDiff, Nat.reduceAdd, Nat.reduceMul, Int.reduceNeg, Nat.reduceBEq, reduceCtorEq, ↓reduceIte, Cand.cells]))
    | refine Exists.intro _ (Exists.intro _ (And.intro (And.intro rfl rfl) ?_))
  refine W_loop_st (fun i : Nat => [(2, .ip (.agg a.cells) 0), (3, .ip (.agg b.cells) 0), (6, .int .i64 i)]) (fun _ => σ) (fun i => 1 ≤ i ∧ i ≤ 11 ∧ decCmp a b = firstNZ i ((rules a b).drop (i - 1))) (fun i => 11 - i) 1 ⟨by omega, by omega, rfl⟩ (Env.Sub_of_has (by simp [Env.Has, Env.get, Cand.cells])) (Store.Sub.refl _) ?_
  rintro i ⟨hi1, hi, hor⟩
  have hlen : (rules a b).length = 10 := rfl
  by_cases hlt : i ≤ 10
  · have hd : ((i : Int) ≤ 10) = True := by simp; omega
    have ho := firstNZ_drop (rules a b) (i - 1) (by omega) i
    have hu := ruleOf_unit i hi1 hlt a b
    have hn := ruleOf_anti i a b
    have hr : (rules a b).getD (i - 1) 0 = ruleOf i a b := rfl
    have hs : i - 1 + 1 = i + 1 - 1 := by omega
    rw [hr, hs] at ho
    by_cases c1 : ruleOf i a b < 0
    · have c1' := decT c1
      have hc : ruleOf i a b = -1 := by rcases hu with h | h | h <;> omega
      repeat' first
        | refine W_seq ?_
        | refine W_block ?_
        | ((first | refine W_region (mu := []) ?_ | (refine W_region_any [] ⟨[], [], [], [], [], [], 0⟩ mixedOrders_ok (by kernel_rfl) ?_; intro nu hn1 hn2) | refine fn_ret ?_ | refine fn_normal ?_ | refine Hold_P ?_ | refine prun_go ?_ | refine drun_go ?_); simp -dsimp only [go_sem, Nat.reduceLT, Nat.reduceLeDiff, Nat.reduceEqDiff, Nat.reduceAdd, Nat.reduceMul, Int.reduceNeg, Nat.reduceBEq, reduceCtorEq, ↓reduceIte, Cand.cells, hd, c1'])
        | (refine W_cond rfl (fun h => ?_) (fun h => ?_) <;> (try (cases h; done)))
        | refine W_ret ?_
        | refine W_skip ?_
        | refine W_exit ?_
        | refine then_normal ?_
        | refine then_ret ?_
        | refine then_exit ?_
        | refine inBlock_normal ?_
        | refine inBlock_ret ?_
        | refine inBlock_exit ?_
        | refine inBlock_ne (by decide) ?_
        | refine Hold_E ?_
        | (refine And.intro ?_ ?_; omega)
        | ((first | (refine ite_goB (fun h => ?_) (fun h => ?_) <;> (try exact absurd ((h : _ = false).symm.trans (by assumption : _ = true)) (by decide)) <;> (try exact absurd ((by assumption : _ = false).symm.trans (h : _ = true)) (by decide))) | (refine ite_go (fun h => ?_) (fun h => ?_) <;> (try exact absurd h (by assumption)) <;> (try exact absurd (by assumption) h))) <;> (try refine Hold_P ?_) <;> (try simp -dsimp only [h, go_sem, Nat.reduceLT, Nat.reduceLeDiff, Nat.reduceEqDiff, Nat.reduceAdd, Nat.reduceMul, Int.reduceNeg, Nat.reduceBEq, reduceCtorEq, ↓reduceIte, Cand.cells, hd, c1']))
        | refine Exists.intro _ (Exists.intro _ (And.intro (And.intro rfl rfl) ?_))
        | (refine PCall_use (less_spec i hi1 hlt a b ha hb _) ?_; rintro _ _ ⟨rfl, hq⟩; obtain rfl := hq.symm; clear hq)
        | (refine Exists.intro _ (And.intro (fun _ => less_spec i hi1 hlt a b ha hb _) ?_))
        | (refine Exists.intro _ (And.intro (less_spec i hi1 hlt a b ha hb _) ?_))
        | (refine Exists.intro _ (Exists.intro _ (And.intro (less_spec i hi1 hlt a b ha hb _) ?_)))
      all_goals (rw [hor, ho, hc]; rfl)
    · have c1' := decF c1
      by_cases c2 : ruleOf i b a < 0
      · have c2' := decT c2
        have hc : ruleOf i a b = 1 := by rcases hu with h | h | h <;> omega
        repeat' first
          | refine W_seq ?_
          | refine W_block ?_
          | ((first | refine W_region (mu := []) ?_ | (refine W_region_any [] ⟨[], [], [], [], [], [], 0⟩ mixedOrders_ok (by kernel_rfl) ?_; intro nu hn1 hn2) | refine fn_ret ?_ | refine fn_normal ?_ | refine Hold_P ?_ | refine prun_go ?_ | refine drun_go ?_); simp -dsimp only [go_sem, Nat.reduceLT, Nat.reduceLeDiff, Nat.reduceEqDiff, Nat.reduceAdd, Nat.reduceMul, Int.reduceNeg, Nat.reduceBEq, reduceCtorEq, ↓reduceIte, Cand.cells, hd, c1', c2'])
          | (refine W_cond rfl (fun h => ?_) (fun h => ?_) <;> (try (cases h; done)))
          | refine W_ret ?_
          | refine W_skip ?_
          | refine W_exit ?_
          | refine then_normal ?_
          | refine then_ret ?_
          | refine then_exit ?_
          | refine inBlock_normal ?_
          | refine inBlock_ret ?_
          | refine inBlock_exit ?_
          | refine inBlock_ne (by decide) ?_
          | refine Hold_E ?_
          | (refine And.intro ?_ ?_; omega)
          | ((first | (refine ite_goB (fun h => ?_) (fun h => ?_) <;> (try exact absurd ((h : _ = false).symm.trans (by assumption : _ = true)) (by decide)) <;> (try exact absurd ((by assumption : _ = false).symm.trans (h : _ = true)) (by decide))) | (refine ite_go (fun h => ?_) (fun h => ?_) <;> (try exact absurd h (by assumption)) <;> (try exact absurd (by assumption) h))) <;> (try refine Hold_P ?_) <;> (try simp -dsimp only [h, go_sem, Nat.reduceLT, Nat.reduceLeDiff, Nat.reduceEqDiff, Nat.reduceAdd, Nat.reduceMul, Int.reduceNeg, Nat.reduceBEq, reduceCtorEq, ↓reduceIte, Cand.cells, hd, c1', c2']))
          | refine Exists.intro _ (Exists.intro _ (And.intro (And.intro rfl rfl) ?_))
          | (refine PCall_use (less_spec i hi1 hlt a b ha hb _) ?_; rintro _ _ ⟨rfl, hq⟩; obtain rfl := hq.symm; clear hq)
          | (refine Exists.intro _ (And.intro (fun _ => less_spec i hi1 hlt a b ha hb _) ?_))
          | (refine Exists.intro _ (And.intro (less_spec i hi1 hlt a b ha hb _) ?_))
          | (refine Exists.intro _ (Exists.intro _ (And.intro (less_spec i hi1 hlt a b ha hb _) ?_)))
          | (refine PCall_use (less_spec i hi1 hlt b a hb ha _) ?_; rintro _ _ ⟨rfl, hq⟩; obtain rfl := hq.symm; clear hq)
          | (refine Exists.intro _ (And.intro (fun _ => less_spec i hi1 hlt b a hb ha _) ?_))
          | (refine Exists.intro _ (And.intro (less_spec i hi1 hlt b a hb ha _) ?_))
          | (refine Exists.intro _ (Exists.intro _ (And.intro (less_spec i hi1 hlt b a hb ha _) ?_)))
        all_goals (rw [hor, ho, hc]; rfl)
      · have c2' := decF c2
        have hc : ruleOf i a b = 0 := by rcases hu with h | h | h <;> omega
        rw [if_pos hc] at ho
        repeat' first
          | refine W_seq ?_
          | refine W_block ?_
          | ((first | refine W_region (mu := []) ?_ | (refine W_region_any [] ⟨[], [], [], [], [], [], 0⟩ mixedOrders_ok (by kernel_rfl) ?_; intro nu hn1 hn2) | refine fn_ret ?_ | refine fn_normal ?_ | refine Hold_P ?_ | refine prun_go ?_ | refine drun_go ?_); simp -dsimp only [go_sem, Nat.reduceLT, Nat.reduceLeDiff, Nat.reduceEqDiff, Nat.reduceAdd, Nat.reduceMul, Int.reduceNeg, Nat.reduceBEq, reduceCtorEq, ↓reduceIte, Cand.cells, hd, c1', c2'])
          | (refine W_cond rfl (fun h => ?_) (fun h => ?_) <;> (try (cases h; done)))
          | refine W_ret ?_
          | refine W_skip ?_
          | refine W_exit ?_
          | refine then_normal ?_
          | refine then_ret ?_
          | refine then_exit ?_
          | refine inBlock_normal ?_
          | refine inBlock_ret ?_
          | refine inBlock_exit ?_
          | refine inBlock_ne (by decide) ?_
          | refine Hold_E ?_
          | (refine And.intro ?_ ?_; omega)
          | ((first | (refine ite_goB (fun h => ?_) (fun h => ?_) <;> (try exact absurd ((h : _ = false).symm.trans (by assumption : _ = true)) (by decide)) <;> (try exact absurd ((by assumption : _ = false).symm.trans (h : _ = true)) (by decide))) | (refine ite_go (fun h => ?_) (fun h => ?_) <;> (try exact absurd h (by assumption)) <;> (try exact absurd (by assumption) h))) <;> (try refine Hold_P ?_) <;> (try simp -dsimp only [h, go_sem, Nat.reduceLT, Nat.reduceLeDiff, Nat.reduceEqDiff, Nat.reduceAdd, Nat.reduceMul, Int.reduceNeg, Nat.reduceBEq, reduceCtorEq, ↓reduceIte, Cand.cells, hd, c1', c2']))
          | refine Exists.intro _ (Exists.intro _ (And.intro (And.intro rfl rfl) ?_))
          | (refine PCall_use (less_spec i hi1 hlt a b ha hb _) ?_; rintro _ _ ⟨rfl, hq⟩; obtain rfl := hq.symm; clear hq)
          | (refine Exists.intro _ (And.intro (fun _ => less_spec i hi1 hlt a b ha hb _) ?_))
          | (refine Exists.intro _ (And.intro (less_spec i hi1 hlt a b ha hb _) ?_))
          | (refine Exists.intro _ (Exists.intro _ (And.intro (less_spec i hi1 hlt a b ha hb _) ?_)))
          | (refine PCall_use (less_spec i hi1 hlt b a hb ha _) ?_; rintro _ _ ⟨rfl, hq⟩; obtain rfl := hq.symm; clear hq)
          | (refine Exists.intro _ (And.intro (fun _ => less_spec i hi1 hlt b a hb ha _) ?_))
          | (refine Exists.intro _ (And.intro (less_spec i hi1 hlt b a hb ha _) ?_))
          | (refine Exists.intro _ (Exists.intro _ (And.intro (less_spec i hi1 hlt b a hb ha _) ?_)))
        exact ⟨i + 1, by omega, ⟨by omega, by omega, by rw [hor, ho]; rfl⟩, Env.Sub_of_has (by simp [Env.Has, Env.get, Cand.cells, wrap_succ (show i < 4611686018427387904 by omega)]), Store.Sub.refl _⟩
  · have hd : ((i : Int) ≤ 10) = False := by simp; omega
    have hi' : i = 11 := by omega
    have h0 : decCmp a b = (0, 0) := by rw [hor, hi']; rfl
    repeat' first
      | refine W_seq ?_
      | refine W_block ?_
      | ((first | refine W_region (mu := []) ?_ | (refine W_region_any [] ⟨[], [], [], [], [], [], 0⟩ mixedOrders_ok (by kernel_rfl) ?_; intro nu hn1 hn2) | refine fn_ret ?_ | refine fn_normal ?_ | refine Hold_P ?_ | refine prun_go ?_ | refine drun_go ?_); simp -dsimp only [go_sem, Nat.reduceLT, Nat.reduceLeDiff, Nat.reduceEqDiff, Nat.reduceAdd, Nat.reduceMul, Int.reduceNeg, Nat.reduceBEq, reduceCtorEq, ↓reduceIte, hd, h0])
      | (refine W_cond rfl (fun h => ?_) (fun h => ?_) <;> (try (cases h; done)))
      | refine W_ret ?_
      | refine W_skip ?_
      | refine W_exit ?_
      | refine then_normal ?_
      | refine then_ret ?_
      | refine then_exit ?_
      | refine inBlock_normal ?_
      | refine inBlock_ret ?_
      | refine inBlock_exit ?_
      | refine inBlock_ne (by decide) ?_
      | refine Hold_E ?_
      | (refine And.intro ?_ ?_; omega)
      | ((first | (refine ite_goB (fun h => ?_) (fun h => ?_) <;> (try exact absurd ((h : _ = false).symm.trans (by assumption : _ = true)) (by decide)) <;> (try exact absurd ((by assumption : _ = false).symm.trans (h : _ = true)) (by decide))) | (refine ite_go (fun h => ?_) (fun h => ?_) <;> (try exact absurd h (by assumption)) <;> (try exact absurd (by assumption) h))) <;> (try refine Hold_P ?_) <;> (try simp -dsimp only [h, go_sem, Nat.reduceLT, Nat.reduceLeDiff, Nat.reduceEqDiff, Nat.reduceAdd, Nat.reduceMul, Int.reduceNeg, Nat.reduceBEq, reduceCtorEq, ↓reduceIte, hd, h0]))
      | refine Exists.intro _ (Exists.intro _ (And.intro (And.intro rfl rfl) ?_))

end Go.Proofs.Ytlbhhoojbokblaa
