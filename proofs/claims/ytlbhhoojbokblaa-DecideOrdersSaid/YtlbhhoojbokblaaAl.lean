/- Contracts of the document's answer: ref18.less. Conditions: none. -/
import Derived.Test.YtlbhhoojbokblaaAk
set_option linter.unusedVariables false
set_option linter.unusedSimpArgs false
namespace Go.Proofs.Ytlbhhoojbokblaa
open Go.Kern
set_option maxRecDepth 100000
set_option maxHeartbeats 4000000
attribute [local go_sem] drun_nil drun_cons prun_nil prun_cons wrOk tqOk lateOp lateB dstOk ev ofConst leafOf Env.putO Env.get envOf readRs_nil oneRes nilSide SK.isNil isMu fillA partsFit boundA SK.cut SK.cutFull SK.fresh rowOk rowsOk_nil rowsOk_cons rowsOk_append rowsOk_ints splice oneOf keyKind cellsKind cellKind cellsB cellB zeroFits TK.agg AV.cells AV.known AV.one List.set_cons_zero List.set_cons_succ put_same put_put forall_const implies_true exists_eq_left exists_eq_left' exists_eq_right exists_eq Store.Sub.refl and_self Int.toNat_natCast length_ints List.length_map true_and and_true decide_true decide_false if_true if_false Bool.false_eq_true Bool.true_eq_false List.getElem?_cons_zero List.getElem?_cons_succ List.length_cons List.length_nil List.drop_zero List.drop_succ_cons List.take_succ_cons List.take_zero List.drop_nil List.take_nil List.append_nil List.map_cons List.map_nil List.cons_append List.nil_append beq_self_eq_true Bool.false_beq Bool.true_beq Bool.not_true Bool.not_false Option.map_some Option.map_none Option.bind_some ne_eq not_false_eq_true List.contains_cons List.contains_nil Bool.or_false Bool.or_true Bool.and_true Bool.and_false Bool.true_and Bool.false_and List.all_cons List.all_nil Nat.one_ne_zero Nat.zero_ne_one Option.isSome_some Option.isSome_none List.getElem?_toArray beq_true beq_false decide_eq_true_eq Int.toNat_zero forall_ints take_ints drop_ints Int.le_refl Int.natCast_nonneg Nat.zero_add Nat.add_zero or_true true_or false_or or_false
attribute [local go_sem ↓] allocN guardP OpSem callA readRs_cons readR binA intOpA strOpA nilOpA unA convA boxA allocA behind loadA buildA buildSliceA fieldAddrA fieldA indexAddrA indexA lenA sliceA extractA nilCheckA storeA lookupA mapSetA mapDelA makeSliceA appendA appendN apN
attribute [local irreducible] PCall W

def ruleOf (i : Nat) (a b : Cand) : Int := (rules a b).getD (i - 1) 0

theorem cmpZ_neg (a b : Int) : decide (cmpZ a b < 0) = decide (a < b) := by
  unfold cmpZ
  (repeat' split) <;> simp_all

theorem less2 (a b : Cand) (ha : a.A.Fits) (hb : b.A.Fits) (σ : Store) : PCall Try.prog 25 [.int .i64 (2 : Nat), .agg a.cells, .agg b.cells] σ (fun r s => r = .bool (decide (ruleOf 2 a b < 0)) ∧ s = σ) := by
  have e : decide (ruleOf 2 a b < 0) = decide (b.A.Pref < a.A.Pref) := cmpZ_neg _ _
  refine PCall_q [.tmp 6] 94 Try.func25 (by rfl) rfl rfl rfl rfl ?_
  repeat' first
    | refine W_seq ?_
    | refine W_block ?_
    | ((first | refine W_region (mu := []) ?_ | (refine W_region_any (id := 1) [] ⟨[], [8,9], [6,7], [], [], [], 0⟩ mixedOrders_ok (by kernel_rfl) ?_; intro nu hn1 hn2) | (refine W_region_any [] ⟨[], [], [], [], [], [], 0⟩ mixedOrders_ok (by kernel_rfl) ?_; intro nu hn1 hn2) | refine fn_ret ?_ | refine fn_normal ?_ | refine Hold_P ?_ | refine prun_go ?_ | refine drun_go ?_); simp -dsimp only [go_sem, Nat.reduceLT, Nat.reduceLeDiff, Nat.reduceEqDiff, Nat.reduceAdd, Nat.reduceMul, Int.reduceNeg, Nat.reduceBEq, reduceCtorEq, ↓reduceIte, Cand.cells, e])
    | (refine W_cond rfl (fun h => ?_) (fun h => ?_) <;> (try (cases h; done)))
    | refine W_ret ?_
    | refine W_skip ?_
    | refine W_exit ?_
    | refine then_normal ?_
    | refine then_ret ?_
    | refine then_exit ?_
    | refine inBlock_normal ?_
    | refine inBlock_ret ?_
    | refine inBlock_exit ?_
    | refine inBlock_ne (by decide) ?_
    | refine Hold_E ?_
    | (refine And.intro ?_ ?_; omega)
    | ((first | (refine ite_goB (fun h => ?_) (fun h => ?_) <;> (try exact absurd ((h : _ = false).symm.trans (by assumption : _ = true)) (by decide)) <;> (try exact absurd ((by assumption : _ = false).symm.trans (h : _ = true)) (by decide))) | (refine ite_go (fun h => ?_) (fun h => ?_) <;> (try exact absurd h (by assumption)) <;> (try exact absurd (by assumption) h))) <;> (try refine Hold_P ?_) <;> (try simp -dsimp only [h, go_sem, Nat.reduceLT, Nat.reduceLeDiff, Nat.reduceEqDiff, Nat.reduceAdd, Nat.reduceMul, Int.reduceNeg, Nat.reduceBEq, reduceCtorEq, ↓reduceIte, Cand.cells, e]))
    | refine Exists.intro _ (Exists.intro _ (And.intro (And.intro rfl rfl) ?_))
  have h67 : ∀ (s : Store) (x : Ob), (s.put (nu 7) x) (nu 6) = s (nu 6) := fun s x => put_ne (fun e => by have := hn2 6 7 (by simp) (by simp) e; omega)
  have h76 : ∀ (s : Store) (x : Ob), (s.put (nu 6) x) (nu 7) = s (nu 7) := fun s x => put_ne (fun e => by have := hn2 7 6 (by simp) (by simp) e; omega)
  have hsub : ∀ (x y z w : Ob), σ.Sub ((((σ.put (nu 6) x).put (nu 7) y).put (nu 6) z).put (nu 7) w) := fun x y z w =>
    Sub_put (Sub_put (Sub_put (Sub_put (Store.Sub.refl _) (hn1 6 (by simp)) _) (hn1 7 (by simp)) _) (hn1 6 (by simp)) _) (hn1 7 (by simp)) _
  simp -dsimp only [h67, h76, go_sem, Nat.reduceLT, Nat.reduceLeDiff, Nat.reduceEqDiff, Nat.reduceAdd, Nat.reduceMul, Int.reduceNeg, Nat.reduceBEq, reduceCtorEq, ↓reduceIte]
  repeat' first
    | refine W_seq ?_
    | refine W_block ?_
    | ((first | refine W_region (mu := []) ?_ | (refine W_region_any (id := 1) [] ⟨[], [8,9], [6,7], [], [], [], 0⟩ mixedOrders_ok (by kernel_rfl) ?_; intro nu hn1 hn2) | (refine W_region_any [] ⟨[], [], [], [], [], [], 0⟩ mixedOrders_ok (by kernel_rfl) ?_; intro nu hn1 hn2) | refine fn_ret ?_ | refine fn_normal ?_ | refine Hold_P ?_ | refine prun_go ?_ | refine drun_go ?_); simp -dsimp only [go_sem, Nat.reduceLT, Nat.reduceLeDiff, Nat.reduceEqDiff, Nat.reduceAdd, Nat.reduceMul, Int.reduceNeg, Nat.reduceBEq, reduceCtorEq, ↓reduceIte, Cand.cells, length_ints, h67, h76, e])
    | (refine W_cond rfl (fun h => ?_) (fun h => ?_) <;> (try (cases h; done)))
    | refine W_ret ?_
    | refine W_skip ?_
    | refine W_exit ?_
    | refine then_normal ?_
    | refine then_ret ?_
    | refine then_exit ?_
    | refine inBlock_normal ?_
    | refine inBlock_ret ?_
    | refine inBlock_exit ?_
    | refine inBlock_ne (by decide) ?_
    | refine Hold_E ?_
    | (refine And.intro ?_ ?_; omega)
    | ((first | (refine ite_goB (fun h => ?_) (fun h => ?_) <;> (try exact absurd ((h : _ = false).symm.trans (by assumption : _ = true)) (by decide)) <;> (try exact absurd ((by assumption : _ = false).symm.trans (h : _ = true)) (by decide))) | (refine ite_go (fun h => ?_) (fun h => ?_) <;> (try exact absurd h (by assumption)) <;> (try exact absurd (by assumption) h))) <;> (try refine Hold_P ?_) <;> (try simp -dsimp only [h, go_sem, Nat.reduceLT, Nat.reduceLeDiff, Nat.reduceEqDiff, Nat.reduceAdd, Nat.reduceMul, Int.reduceNeg, Nat.reduceBEq, reduceCtorEq, ↓reduceIte, Cand.cells, length_ints, h67, h76, e]))
    | refine Exists.intro _ (Exists.intro _ (And.intro (And.intro rfl rfl) ?_))
    | (refine PCall_use (ref09_spec a.A b.A ha hb _) ?_; rintro _ _ ⟨rfl, hq⟩; obtain rfl := hq.symm; clear hq)
    | (refine Exists.intro _ (And.intro (fun _ => ref09_spec a.A b.A ha hb _) ?_))
    | (refine Exists.intro _ (And.intro (ref09_spec a.A b.A ha hb _) ?_))
    | (refine Exists.intro _ (Exists.intro _ (And.intro (ref09_spec a.A b.A ha hb _) ?_)))
  all_goals exact hsub _ _ _ _

theorem less3 (a b : Cand) (ha : a.A.Fits) (hb : b.A.Fits) (σ : Store) : PCall Try.prog 25 [.int .i64 (3 : Nat), .agg a.cells, .agg b.cells] σ (fun r s => r = .bool (decide (ruleOf 3 a b < 0)) ∧ s = σ) := by
  have e : decide (ruleOf 3 a b < 0) = decide ((a.A.Path.length : Int) < (b.A.Path.length : Int)) := cmpZ_neg _ _
  refine PCall_q [.tmp 6] 94 Try.func25 (by rfl) rfl rfl rfl rfl ?_
  repeat' first
    | refine W_seq ?_
    | refine W_block ?_
    | ((first | refine W_region (mu := []) ?_ | (refine W_region_any (id := 1) [] ⟨[], [8,9], [6,7], [], [], [], 0⟩ mixedOrders_ok (by kernel_rfl) ?_; intro nu hn1 hn2) | (refine W_region_any [] ⟨[], [], [], [], [], [], 0⟩ mixedOrders_ok (by kernel_rfl) ?_; intro nu hn1 hn2) | refine fn_ret ?_ | refine fn_normal ?_ | refine Hold_P ?_ | refine prun_go ?_ | refine drun_go ?_); simp -dsimp only [go_sem, Nat.reduceLT, Nat.reduceLeDiff, Nat.reduceEqDiff, Nat.reduceAdd, Nat.reduceMul, Int.reduceNeg, Nat.reduceBEq, reduceCtorEq, ↓reduceIte, Cand.cells, e])
    | (refine W_cond rfl (fun h => ?_) (fun h => ?_) <;> (try (cases h; done)))
    | refine W_ret ?_
    | refine W_skip ?_
    | refine W_exit ?_
    | refine then_normal ?_
    | refine then_ret ?_
    | refine then_exit ?_
    | refine inBlock_normal ?_
    | refine inBlock_ret ?_
    | refine inBlock_exit ?_
    | refine inBlock_ne (by decide) ?_
    | refine Hold_E ?_
    | (refine And.intro ?_ ?_; omega)
    | ((first | (refine ite_goB (fun h => ?_) (fun h => ?_) <;> (try exact absurd ((h : _ = false).symm.trans (by assumption : _ = true)) (by decide)) <;> (try exact absurd ((by assumption : _ = false).symm.trans (h : _ = true)) (by decide))) | (refine ite_go (fun h => ?_) (fun h => ?_) <;> (try exact absurd h (by assumption)) <;> (try exact absurd (by assumption) h))) <;> (try refine Hold_P ?_) <;> (try simp -dsimp only [h, go_sem, Nat.reduceLT, Nat.reduceLeDiff, Nat.reduceEqDiff, Nat.reduceAdd, Nat.reduceMul, Int.reduceNeg, Nat.reduceBEq, reduceCtorEq, ↓reduceIte, Cand.cells, e]))
    | refine Exists.intro _ (Exists.intro _ (And.intro (And.intro rfl rfl) ?_))
  have h67 : ∀ (s : Store) (x : Ob), (s.put (nu 7) x) (nu 6) = s (nu 6) := fun s x => put_ne (fun e => by have := hn2 6 7 (by simp) (by simp) e; omega)
  have h76 : ∀ (s : Store) (x : Ob), (s.put (nu 6) x) (nu 7) = s (nu 7) := fun s x => put_ne (fun e => by have := hn2 7 6 (by simp) (by simp) e; omega)
  have hsub : ∀ (x y z w : Ob), σ.Sub ((((σ.put (nu 6) x).put (nu 7) y).put (nu 6) z).put (nu 7) w) := fun x y z w =>
    Sub_put (Sub_put (Sub_put (Sub_put (Store.Sub.refl _) (hn1 6 (by simp)) _) (hn1 7 (by simp)) _) (hn1 6 (by simp)) _) (hn1 7 (by simp)) _
  simp -dsimp only [h67, h76, go_sem, Nat.reduceLT, Nat.reduceLeDiff, Nat.reduceEqDiff, Nat.reduceAdd, Nat.reduceMul, Int.reduceNeg, Nat.reduceBEq, reduceCtorEq, ↓reduceIte]
  repeat' first
    | refine W_seq ?_
    | refine W_block ?_
    | ((first | refine W_region (mu := []) ?_ | (refine W_region_any (id := 1) [] ⟨[], [8,9], [6,7], [], [], [], 0⟩ mixedOrders_ok (by kernel_rfl) ?_; intro nu hn1 hn2) | (refine W_region_any [] ⟨[], [], [], [], [], [], 0⟩ mixedOrders_ok (by kernel_rfl) ?_; intro nu hn1 hn2) | refine fn_ret ?_ | refine fn_normal ?_ | refine Hold_P ?_ | refine prun_go ?_ | refine drun_go ?_); simp -dsimp only [go_sem, Nat.reduceLT, Nat.reduceLeDiff, Nat.reduceEqDiff, Nat.reduceAdd, Nat.reduceMul, Int.reduceNeg, Nat.reduceBEq, reduceCtorEq, ↓reduceIte, Cand.cells, length_ints, h67, h76, e])
    | (refine W_cond rfl (fun h => ?_) (fun h => ?_) <;> (try (cases h; done)))
    | refine W_ret ?_
    | refine W_skip ?_
    | refine W_exit ?_
    | refine then_normal ?_
    | refine then_ret ?_
    | refine then_exit ?_
    | refine inBlock_normal ?_
    | refine inBlock_ret ?_
    | refine inBlock_exit ?_
    | refine inBlock_ne (by decide) ?_
    | refine Hold_E ?_
    | (refine And.intro ?_ ?_; omega)
    | ((first | (refine ite_goB (fun h => ?_) (fun h => ?_) <;> (try exact absurd ((h : _ = false).symm.trans (by assumption : _ = true)) (by decide)) <;> (try exact absurd ((by assumption : _ = false).symm.trans (h : _ = true)) (by decide))) | (refine ite_go (fun h => ?_) (fun h => ?_) <;> (try exact absurd h (by assumption)) <;> (try exact absurd (by assumption) h))) <;> (try refine Hold_P ?_) <;> (try simp -dsimp only [h, go_sem, Nat.reduceLT, Nat.reduceLeDiff, Nat.reduceEqDiff, Nat.reduceAdd, Nat.reduceMul, Int.reduceNeg, Nat.reduceBEq, reduceCtorEq, ↓reduceIte, Cand.cells, length_ints, h67, h76, e]))
    | refine Exists.intro _ (Exists.intro _ (And.intro (And.intro rfl rfl) ?_))
    | (refine PCall_use (ref09_spec a.A b.A ha hb _) ?_; rintro _ _ ⟨rfl, hq⟩; obtain rfl := hq.symm; clear hq)
    | (refine Exists.intro _ (And.intro (fun _ => ref09_spec a.A b.A ha hb _) ?_))
    | (refine Exists.intro _ (And.intro (ref09_spec a.A b.A ha hb _) ?_))
    | (refine Exists.intro _ (Exists.intro _ (And.intro (ref09_spec a.A b.A ha hb _) ?_)))
  all_goals exact hsub _ _ _ _

theorem less4 (a b : Cand) (ha : a.A.Fits) (hb : b.A.Fits) (σ : Store) : PCall Try.prog 25 [.int .i64 (4 : Nat), .agg a.cells, .agg b.cells] σ (fun r s => r = .bool (decide (ruleOf 4 a b < 0)) ∧ s = σ) := by
  have e : decide (ruleOf 4 a b < 0) = decide (a.A.Origin < b.A.Origin) := cmpZ_neg _ _
  refine PCall_q [.tmp 6] 94 Try.func25 (by rfl) rfl rfl rfl rfl ?_
  repeat' first
    | refine W_seq ?_
    | refine W_block ?_
    | ((first | refine W_region (mu := []) ?_ | (refine W_region_any (id := 1) [] ⟨[], [8,9], [6,7], [], [], [], 0⟩ mixedOrders_ok (by kernel_rfl) ?_; intro nu hn1 hn2) | (refine W_region_any [] ⟨[], [], [], [], [], [], 0⟩ mixedOrders_ok (by kernel_rfl) ?_; intro nu hn1 hn2) | refine fn_ret ?_ | refine fn_normal ?_ | refine Hold_P ?_ | refine prun_go ?_ | refine drun_go ?_); simp -dsimp only [go_sem, Nat.reduceLT, Nat.reduceLeDiff, Nat.reduceEqDiff, Nat.reduceAdd, Nat.reduceMul, Int.reduceNeg, Nat.reduceBEq, reduceCtorEq, ↓reduceIte, Cand.cells, e])
    | (refine W_cond rfl (fun h => ?_) (fun h => ?_) <;> (try (cases h; done)))
    | refine W_ret ?_
    | refine W_skip ?_
    | refine W_exit ?_
    | refine then_normal ?_
    | refine then_ret ?_
    | refine then_exit ?_
    | refine inBlock_normal ?_
    | refine inBlock_ret ?_
    | refine inBlock_exit ?_
    | refine inBlock_ne (by decide) ?_
    | refine Hold_E ?_
    | (refine And.intro ?_ ?_; omega)
    | ((first | (refine ite_goB (fun h => ?_) (fun h => ?_) <;> (try exact absurd ((h : _ = false).symm.trans (by assumption : _ = true)) (by decide)) <;> (try exact absurd ((by assumption : _ = false).symm.trans (h : _ = true)) (by decide))) | (refine ite_go (fun h => ?_) (fun h => ?_) <;> (try exact absurd h (by assumption)) <;> (try exact absurd (by assumption) h))) <;> (try refine Hold_P ?_) <;> (try simp -dsimp only [h, go_sem, Nat.reduceLT, Nat.reduceLeDiff, Nat.reduceEqDiff, Nat.reduceAdd, Nat.reduceMul, Int.reduceNeg, Nat.reduceBEq, reduceCtorEq, ↓reduceIte, Cand.cells, e]))
    | refine Exists.intro _ (Exists.intro _ (And.intro (And.intro rfl rfl) ?_))
  have h67 : ∀ (s : Store) (x : Ob), (s.put (nu 7) x) (nu 6) = s (nu 6) := fun s x => put_ne (fun e => by have := hn2 6 7 (by simp) (by simp) e; omega)
  have h76 : ∀ (s : Store) (x : Ob), (s.put (nu 6) x) (nu 7) = s (nu 7) := fun s x => put_ne (fun e => by have := hn2 7 6 (by simp) (by simp) e; omega)
  have hsub : ∀ (x y z w : Ob), σ.Sub ((((σ.put (nu 6) x).put (nu 7) y).put (nu 6) z).put (nu 7) w) := fun x y z w =>
    Sub_put (Sub_put (Sub_put (Sub_put (Store.Sub.refl _) (hn1 6 (by simp)) _) (hn1 7 (by simp)) _) (hn1 6 (by simp)) _) (hn1 7 (by simp)) _
  simp -dsimp only [h67, h76, go_sem, Nat.reduceLT, Nat.reduceLeDiff, Nat.reduceEqDiff, Nat.reduceAdd, Nat.reduceMul, Int.reduceNeg, Nat.reduceBEq, reduceCtorEq, ↓reduceIte]
  repeat' first
    | refine W_seq ?_
    | refine W_block ?_
    | ((first | refine W_region (mu := []) ?_ | (refine W_region_any (id := 1) [] ⟨[], [8,9], [6,7], [], [], [], 0⟩ mixedOrders_ok (by kernel_rfl) ?_; intro nu hn1 hn2) | (refine W_region_any [] ⟨[], [], [], [], [], [], 0⟩ mixedOrders_ok (by kernel_rfl) ?_; intro nu hn1 hn2) | refine fn_ret ?_ | refine fn_normal ?_ | refine Hold_P ?_ | refine prun_go ?_ | refine drun_go ?_); simp -dsimp only [go_sem, Nat.reduceLT, Nat.reduceLeDiff, Nat.reduceEqDiff, Nat.reduceAdd, Nat.reduceMul, Int.reduceNeg, Nat.reduceBEq, reduceCtorEq, ↓reduceIte, Cand.cells, length_ints, h67, h76, e])
    | (refine W_cond rfl (fun h => ?_) (fun h => ?_) <;> (try (cases h; done)))
    | refine W_ret ?_
    | refine W_skip ?_
    | refine W_exit ?_
    | refine then_normal ?_
    | refine then_ret ?_
    | refine then_exit ?_
    | refine inBlock_normal ?_
    | refine inBlock_ret ?_
    | refine inBlock_exit ?_
    | refine inBlock_ne (by decide) ?_
    | refine Hold_E ?_
    | (refine And.intro ?_ ?_; omega)
    | ((first | (refine ite_goB (fun h => ?_) (fun h => ?_) <;> (try exact absurd ((h : _ = false).symm.trans (by assumption : _ = true)) (by decide)) <;> (try exact absurd ((by assumption : _ = false).symm.trans (h : _ = true)) (by decide))) | (refine ite_go (fun h => ?_) (fun h => ?_) <;> (try exact absurd h (by assumption)) <;> (try exact absurd (by assumption) h))) <;> (try refine Hold_P ?_) <;> (try simp -dsimp only [h, go_sem, Nat.reduceLT, Nat.reduceLeDiff, Nat.reduceEqDiff, Nat.reduceAdd, Nat.reduceMul, Int.reduceNeg, Nat.reduceBEq, reduceCtorEq, ↓reduceIte, Cand.cells, length_ints, h67, h76, e]))
    | refine Exists.intro _ (Exists.intro _ (And.intro (And.intro rfl rfl) ?_))
    | (refine PCall_use (ref09_spec a.A b.A ha hb _) ?_; rintro _ _ ⟨rfl, hq⟩; obtain rfl := hq.symm; clear hq)
    | (refine Exists.intro _ (And.intro (fun _ => ref09_spec a.A b.A ha hb _) ?_))
    | (refine Exists.intro _ (And.intro (ref09_spec a.A b.A ha hb _) ?_))
    | (refine Exists.intro _ (Exists.intro _ (And.intro (ref09_spec a.A b.A ha hb _) ?_)))
  all_goals exact hsub _ _ _ _

theorem less5 (a b : Cand) (ha : a.A.Fits) (hb : b.A.Fits) (σ : Store) : PCall Try.prog 25 [.int .i64 (5 : Nat), .agg a.cells, .agg b.cells] σ (fun r s => r = .bool (decide (ruleOf 5 a b < 0)) ∧ s = σ) := by
  have e : decide (ruleOf 5 a b < 0) = decide (a.A.Med < b.A.Med) := cmpZ_neg _ _
  refine PCall_q [.tmp 6] 94 Try.func25 (by rfl) rfl rfl rfl rfl ?_
  repeat' first
    | refine W_seq ?_
    | refine W_block ?_
    | ((first | refine W_region (mu := []) ?_ | (refine W_region_any (id := 1) [] ⟨[], [8,9], [6,7], [], [], [], 0⟩ mixedOrders_ok (by kernel_rfl) ?_; intro nu hn1 hn2) | (refine W_region_any [] ⟨[], [], [], [], [], [], 0⟩ mixedOrders_ok (by kernel_rfl) ?_; intro nu hn1 hn2) | refine fn_ret ?_ | refine fn_normal ?_ | refine Hold_P ?_ | refine prun_go ?_ | refine drun_go ?_); simp -dsimp only [go_sem, Nat.reduceLT, Nat.reduceLeDiff, Nat.reduceEqDiff, Nat.reduceAdd, Nat.reduceMul, Int.reduceNeg, Nat.reduceBEq, reduceCtorEq, ↓reduceIte, Cand.cells, e])
    | (refine W_cond rfl (fun h => ?_) (fun h => ?_) <;> (try (cases h; done)))
    | refine W_ret ?_
    | refine W_skip ?_
    | refine W_exit ?_
    | refine then_normal ?_
    | refine then_ret ?_
    | refine then_exit ?_
    | refine inBlock_normal ?_
    | refine inBlock_ret ?_
    | refine inBlock_exit ?_
    | refine inBlock_ne (by decide) ?_
    | refine Hold_E ?_
    | (refine And.intro ?_ ?_; omega)
    | ((first | (refine ite_goB (fun h => ?_) (fun h => ?_) <;> (try exact absurd ((h : _ = false).symm.trans (by assumption : _ = true)) (by decide)) <;> (try exact absurd ((by assumption : _ = false).symm.trans (h : _ = true)) (by decide))) | (refine ite_go (fun h => ?_) (fun h => ?_) <;> (try exact absurd h (by assumption)) <;> (try exact absurd (by assumption) h))) <;> (try refine Hold_P ?_) <;> (try simp -dsimp only [h, go_sem, Nat.reduceLT, Nat.reduceLeDiff, Nat.reduceEqDiff, Nat.reduceAdd, Nat.reduceMul, Int.reduceNeg, Nat.reduceBEq, reduceCtorEq, ↓reduceIte, Cand.cells, e]))
    | refine Exists.intro _ (Exists.intro _ (And.intro (And.intro rfl rfl) ?_))
  have h67 : ∀ (s : Store) (x : Ob), (s.put (nu 7) x) (nu 6) = s (nu 6) := fun s x => put_ne (fun e => by have := hn2 6 7 (by simp) (by simp) e; omega)
  have h76 : ∀ (s : Store) (x : Ob), (s.put (nu 6) x) (nu 7) = s (nu 7) := fun s x => put_ne (fun e => by have := hn2 7 6 (by simp) (by simp) e; omega)
  have hsub : ∀ (x y z w : Ob), σ.Sub ((((σ.put (nu 6) x).put (nu 7) y).put (nu 6) z).put (nu 7) w) := fun x y z w =>
    Sub_put (Sub_put (Sub_put (Sub_put (Store.Sub.refl _) (hn1 6 (by simp)) _) (hn1 7 (by simp)) _) (hn1 6 (by simp)) _) (hn1 7 (by simp)) _
  simp -dsimp only [h67, h76, go_sem, Nat.reduceLT, Nat.reduceLeDiff, Nat.reduceEqDiff, Nat.reduceAdd, Nat.reduceMul, Int.reduceNeg, Nat.reduceBEq, reduceCtorEq, ↓reduceIte]
  repeat' first
    | refine W_seq ?_
    | refine W_block ?_
    | ((first | refine W_region (mu := []) ?_ | (refine W_region_any (id := 1) [] ⟨[], [8,9], [6,7], [], [], [], 0⟩ mixedOrders_ok (by kernel_rfl) ?_; intro nu hn1 hn2) | (refine W_region_any [] ⟨[], [], [], [], [], [], 0⟩ mixedOrders_ok (by kernel_rfl) ?_; intro nu hn1 hn2) | refine fn_ret ?_ | refine fn_normal ?_ | refine Hold_P ?_ | refine prun_go ?_ | refine drun_go ?_); simp -dsimp only [go_sem, Nat.reduceLT, Nat.reduceLeDiff, Nat.reduceEqDiff, Nat.reduceAdd, Nat.reduceMul, Int.reduceNeg, Nat.reduceBEq, reduceCtorEq, ↓reduceIte, Cand.cells, length_ints, h67, h76, e])
    | (refine W_cond rfl (fun h => ?_) (fun h => ?_) <;> (try (cases h; done)))
    | refine W_ret ?_
    | refine W_skip ?_
    | refine W_exit ?_
    | refine then_normal ?_
    | refine then_ret ?_
    | refine then_exit ?_
    | refine inBlock_normal ?_
    | refine inBlock_ret ?_
    | refine inBlock_exit ?_
    | refine inBlock_ne (by decide) ?_
    | refine Hold_E ?_
    | (refine And.intro ?_ ?_; omega)
    | ((first | (refine ite_goB (fun h => ?_) (fun h => ?_) <;> (try exact absurd ((h : _ = false).symm.trans (by assumption : _ = true)) (by decide)) <;> (try exact absurd ((by assumption : _ = false).symm.trans (h : _ = true)) (by decide))) | (refine ite_go (fun h => ?_) (fun h => ?_) <;> (try exact absurd h (by assumption)) <;> (try exact absurd (by assumption) h))) <;> (try refine Hold_P ?_) <;> (try simp -dsimp only [h, go_sem, Nat.reduceLT, Nat.reduceLeDiff, Nat.reduceEqDiff, Nat.reduceAdd, Nat.reduceMul, Int.reduceNeg, Nat.reduceBEq, reduceCtorEq, ↓reduceIte, Cand.cells, length_ints, h67, h76, e]))
    | refine Exists.intro _ (Exists.intro _ (And.intro (And.intro rfl rfl) ?_))
    | (refine PCall_use (ref09_spec a.A b.A ha hb _) ?_; rintro _ _ ⟨rfl, hq⟩; obtain rfl := hq.symm; clear hq)
    | (refine Exists.intro _ (And.intro (fun _ => ref09_spec a.A b.A ha hb _) ?_))
    | (refine Exists.intro _ (And.intro (ref09_spec a.A b.A ha hb _) ?_))
    | (refine Exists.intro _ (Exists.intro _ (And.intro (ref09_spec a.A b.A ha hb _) ?_)))
  all_goals exact hsub _ _ _ _

theorem less7 (a b : Cand) (ha : a.A.Fits) (hb : b.A.Fits) (σ : Store) : PCall Try.prog 25 [.int .i64 (7 : Nat), .agg a.cells, .agg b.cells] σ (fun r s => r = .bool (decide (ruleOf 7 a b < 0)) ∧ s = σ) := by
  have e : decide (ruleOf 7 a b < 0) = decide (a.Far < b.Far) := cmpZ_neg _ _
  refine PCall_q [.tmp 6] 94 Try.func25 (by rfl) rfl rfl rfl rfl ?_
  repeat' first
    | refine W_seq ?_
    | refine W_block ?_
    | ((first | refine W_region (mu := []) ?_ | (refine W_region_any (id := 1) [] ⟨[], [8,9], [6,7], [], [], [], 0⟩ mixedOrders_ok (by kernel_rfl) ?_; intro nu hn1 hn2) | (refine W_region_any [] ⟨[], [], [], [], [], [], 0⟩ mixedOrders_ok (by kernel_rfl) ?_; intro nu hn1 hn2) | refine fn_ret ?_ | refine fn_normal ?_ | refine Hold_P ?_ | refine prun_go ?_ | refine drun_go ?_); simp -dsimp only [go_sem, Nat.reduceLT, Nat.reduceLeDiff, Nat.reduceEqDiff, Nat.reduceAdd, Nat.reduceMul, Int.reduceNeg, Nat.reduceBEq, reduceCtorEq, ↓reduceIte, Cand.cells, e])
    | (refine W_cond rfl (fun h => ?_) (fun h => ?_) <;> (try (cases h; done)))
    | refine W_ret ?_
    | refine W_skip ?_
    | refine W_exit ?_
    | refine then_normal ?_
    | refine then_ret ?_
    | refine then_exit ?_
    | refine inBlock_normal ?_
    | refine inBlock_ret ?_
    | refine inBlock_exit ?_
    | refine inBlock_ne (by decide) ?_
    | refine Hold_E ?_
    | (refine And.intro ?_ ?_; omega)
    | ((first | (refine ite_goB (fun h => ?_) (fun h => ?_) <;> (try exact absurd ((h : _ = false).symm.trans (by assumption : _ = true)) (by decide)) <;> (try exact absurd ((by assumption : _ = false).symm.trans (h : _ = true)) (by decide))) | (refine ite_go (fun h => ?_) (fun h => ?_) <;> (try exact absurd h (by assumption)) <;> (try exact absurd (by assumption) h))) <;> (try refine Hold_P ?_) <;> (try simp -dsimp only [h, go_sem, Nat.reduceLT, Nat.reduceLeDiff, Nat.reduceEqDiff, Nat.reduceAdd, Nat.reduceMul, Int.reduceNeg, Nat.reduceBEq, reduceCtorEq, ↓reduceIte, Cand.cells, e]))
    | refine Exists.intro _ (Exists.intro _ (And.intro (And.intro rfl rfl) ?_))
  have h67 : ∀ (s : Store) (x : Ob), (s.put (nu 7) x) (nu 6) = s (nu 6) := fun s x => put_ne (fun e => by have := hn2 6 7 (by simp) (by simp) e; omega)
  have h76 : ∀ (s : Store) (x : Ob), (s.put (nu 6) x) (nu 7) = s (nu 7) := fun s x => put_ne (fun e => by have := hn2 7 6 (by simp) (by simp) e; omega)
  have hsub : ∀ (x y z w : Ob), σ.Sub ((((σ.put (nu 6) x).put (nu 7) y).put (nu 6) z).put (nu 7) w) := fun x y z w =>
    Sub_put (Sub_put (Sub_put (Sub_put (Store.Sub.refl _) (hn1 6 (by simp)) _) (hn1 7 (by simp)) _) (hn1 6 (by simp)) _) (hn1 7 (by simp)) _
  simp -dsimp only [h67, h76, go_sem, Nat.reduceLT, Nat.reduceLeDiff, Nat.reduceEqDiff, Nat.reduceAdd, Nat.reduceMul, Int.reduceNeg, Nat.reduceBEq, reduceCtorEq, ↓reduceIte]
  repeat' first
    | refine W_seq ?_
    | refine W_block ?_
    | ((first | refine W_region (mu := []) ?_ | (refine W_region_any (id := 1) [] ⟨[], [8,9], [6,7], [], [], [], 0⟩ mixedOrders_ok (by kernel_rfl) ?_; intro nu hn1 hn2) | (refine W_region_any [] ⟨[], [], [], [], [], [], 0⟩ mixedOrders_ok (by kernel_rfl) ?_; intro nu hn1 hn2) | refine fn_ret ?_ | refine fn_normal ?_ | refine Hold_P ?_ | refine prun_go ?_ | refine drun_go ?_); simp -dsimp only [go_sem, Nat.reduceLT, Nat.reduceLeDiff, Nat.reduceEqDiff, Nat.reduceAdd, Nat.reduceMul, Int.reduceNeg, Nat.reduceBEq, reduceCtorEq, ↓reduceIte, Cand.cells, length_ints, h67, h76, e])
    | (refine W_cond rfl (fun h => ?_) (fun h => ?_) <;> (try (cases h; done)))
    | refine W_ret ?_
    | refine W_skip ?_
    | refine W_exit ?_
    | refine then_normal ?_
    | refine then_ret ?_
    | refine then_exit ?_
    | refine inBlock_normal ?_
    | refine inBlock_ret ?_
    | refine inBlock_exit ?_
    | refine inBlock_ne (by decide) ?_
    | refine Hold_E ?_
    | (refine And.intro ?_ ?_; omega)
    | ((first | (refine ite_goB (fun h => ?_) (fun h => ?_) <;> (try exact absurd ((h : _ = false).symm.trans (by assumption : _ = true)) (by decide)) <;> (try exact absurd ((by assumption : _ = false).symm.trans (h : _ = true)) (by decide))) | (refine ite_go (fun h => ?_) (fun h => ?_) <;> (try exact absurd h (by assumption)) <;> (try exact absurd (by assumption) h))) <;> (try refine Hold_P ?_) <;> (try simp -dsimp only [h, go_sem, Nat.reduceLT, Nat.reduceLeDiff, Nat.reduceEqDiff, Nat.reduceAdd, Nat.reduceMul, Int.reduceNeg, Nat.reduceBEq, reduceCtorEq, ↓reduceIte, Cand.cells, length_ints, h67, h76, e]))
    | refine Exists.intro _ (Exists.intro _ (And.intro (And.intro rfl rfl) ?_))
    | (refine PCall_use (ref09_spec a.A b.A ha hb _) ?_; rintro _ _ ⟨rfl, hq⟩; obtain rfl := hq.symm; clear hq)
    | (refine Exists.intro _ (And.intro (fun _ => ref09_spec a.A b.A ha hb _) ?_))
    | (refine Exists.intro _ (And.intro (ref09_spec a.A b.A ha hb _) ?_))
    | (refine Exists.intro _ (Exists.intro _ (And.intro (ref09_spec a.A b.A ha hb _) ?_)))
  all_goals exact hsub _ _ _ _

theorem less8 (a b : Cand) (ha : a.A.Fits) (hb : b.A.Fits) (σ : Store) : PCall Try.prog 25 [.int .i64 (8 : Nat), .agg a.cells, .agg b.cells] σ (fun r s => r = .bool (decide (ruleOf 8 a b < 0)) ∧ s = σ) := by
  have e : decide (ruleOf 8 a b < 0) = decide (a.ID < b.ID) := cmpZ_neg _ _
  refine PCall_q [.tmp 6] 94 Try.func25 (by rfl) rfl rfl rfl rfl ?_
  repeat' first
    | refine W_seq ?_
    | refine W_block ?_
    | ((first | refine W_region (mu := []) ?_ | (refine W_region_any (id := 1) [] ⟨[], [8,9], [6,7], [], [], [], 0⟩ mixedOrders_ok (by kernel_rfl) ?_; intro nu hn1 hn2) | (refine W_region_any [] ⟨[], [], [], [], [], [], 0⟩ mixedOrders_ok (by kernel_rfl) ?_; intro nu hn1 hn2) | refine fn_ret ?_ | refine fn_normal ?_ | refine Hold_P ?_ | refine prun_go ?_ | refine drun_go ?_); simp -dsimp only [go_sem, Nat.reduceLT, Nat.reduceLeDiff, Nat.reduceEqDiff, Nat.reduceAdd, Nat.reduceMul, Int.reduceNeg, Nat.reduceBEq, reduceCtorEq, ↓reduceIte, Cand.cells, e])
    | (refine W_cond rfl (fun h => ?_) (fun h => ?_) <;> (try (cases h; done)))
    | refine W_ret ?_
    | refine W_skip ?_
    | refine W_exit ?_
    | refine then_normal ?_
    | refine then_ret ?_
    | refine then_exit ?_
    | refine inBlock_normal ?_
    | refine inBlock_ret ?_
    | refine inBlock_exit ?_
    | refine inBlock_ne (by decide) ?_
    | refine Hold_E ?_
    | (refine And.intro ?_ ?_; omega)
    | ((first | (refine ite_goB (fun h => ?_) (fun h => ?_) <;> (try exact absurd ((h : _ = false).symm.trans (by assumption : _ = true)) (by decide)) <;> (try exact absurd ((by assumption : _ = false).symm.trans (h : _ = true)) (by decide))) | (refine ite_go (fun h => ?_) (fun h => ?_) <;> (try exact absurd h (by assumption)) <;> (try exact absurd (by assumption) h))) <;> (try refine Hold_P ?_) <;> (try simp -dsimp only [h, go_sem, Nat.reduceLT, Nat.reduceLeDiff, Nat.reduceEqDiff, Nat.reduceAdd, Nat.reduceMul, Int.reduceNeg, Nat.reduceBEq, reduceCtorEq, ↓reduceIte, Cand.cells, e]))
    | refine Exists.intro _ (Exists.intro _ (And.intro (And.intro rfl rfl) ?_))
  have h67 : ∀ (s : Store) (x : Ob), (s.put (nu 7) x) (nu 6) = s (nu 6) := fun s x => put_ne (fun e => by have := hn2 6 7 (by simp) (by simp) e; omega)
  have h76 : ∀ (s : Store) (x : Ob), (s.put (nu 6) x) (nu 7) = s (nu 7) := fun s x => put_ne (fun e => by have := hn2 7 6 (by simp) (by simp) e; omega)
  have hsub : ∀ (x y z w : Ob), σ.Sub ((((σ.put (nu 6) x).put (nu 7) y).put (nu 6) z).put (nu 7) w) := fun x y z w =>
    Sub_put (Sub_put (Sub_put (Sub_put (Store.Sub.refl _) (hn1 6 (by simp)) _) (hn1 7 (by simp)) _) (hn1 6 (by simp)) _) (hn1 7 (by simp)) _
  simp -dsimp only [h67, h76, go_sem, Nat.reduceLT, Nat.reduceLeDiff, Nat.reduceEqDiff, Nat.reduceAdd, Nat.reduceMul, Int.reduceNeg, Nat.reduceBEq, reduceCtorEq, ↓reduceIte]
  repeat' first
    | refine W_seq ?_
    | refine W_block ?_
    | ((first | refine W_region (mu := []) ?_ | (refine W_region_any (id := 1) [] ⟨[], [8,9], [6,7], [], [], [], 0⟩ mixedOrders_ok (by kernel_rfl) ?_; intro nu hn1 hn2) | (refine W_region_any [] ⟨[], [], [], [], [], [], 0⟩ mixedOrders_ok (by kernel_rfl) ?_; intro nu hn1 hn2) | refine fn_ret ?_ | refine fn_normal ?_ | refine Hold_P ?_ | refine prun_go ?_ | refine drun_go ?_); simp -dsimp only [go_sem, Nat.reduceLT, Nat.reduceLeDiff, Nat.reduceEqDiff, Nat.reduceAdd, Nat.reduceMul, Int.reduceNeg, Nat.reduceBEq, reduceCtorEq, ↓reduceIte, Cand.cells, length_ints, h67, h76, e])
    | (refine W_cond rfl (fun h => ?_) (fun h => ?_) <;> (try (cases h; done)))
    | refine W_ret ?_
    | refine W_skip ?_
    | refine W_exit ?_
    | refine then_normal ?_
    | refine then_ret ?_
    | refine then_exit ?_
    | refine inBlock_normal ?_
    | refine inBlock_ret ?_
    | refine inBlock_exit ?_
    | refine inBlock_ne (by decide) ?_
    | refine Hold_E ?_
    | (refine And.intro ?_ ?_; omega)
    | ((first | (refine ite_goB (fun h => ?_) (fun h => ?_) <;> (try exact absurd ((h : _ = false).symm.trans (by assumption : _ = true)) (by decide)) <;> (try exact absurd ((by assumption : _ = false).symm.trans (h : _ = true)) (by decide))) | (refine ite_go (fun h => ?_) (fun h => ?_) <;> (try exact absurd h (by assumption)) <;> (try exact absurd (by assumption) h))) <;> (try refine Hold_P ?_) <;> (try simp -dsimp only [h, go_sem, Nat.reduceLT, Nat.reduceLeDiff, Nat.reduceEqDiff, Nat.reduceAdd, Nat.reduceMul, Int.reduceNeg, Nat.reduceBEq, reduceCtorEq, ↓reduceIte, Cand.cells, length_ints, h67, h76, e]))
    | refine Exists.intro _ (Exists.intro _ (And.intro (And.intro rfl rfl) ?_))
    | (refine PCall_use (ref09_spec a.A b.A ha hb _) ?_; rintro _ _ ⟨rfl, hq⟩; obtain rfl := hq.symm; clear hq)
    | (refine Exists.intro _ (And.intro (fun _ => ref09_spec a.A b.A ha hb _) ?_))
    | (refine Exists.intro _ (And.intro (ref09_spec a.A b.A ha hb _) ?_))
    | (refine Exists.intro _ (Exists.intro _ (And.intro (ref09_spec a.A b.A ha hb _) ?_)))
  all_goals exact hsub _ _ _ _

theorem less10 (a b : Cand) (ha : a.A.Fits) (hb : b.A.Fits) (σ : Store) : PCall Try.prog 25 [.int .i64 (10 : Nat), .agg a.cells, .agg b.cells] σ (fun r s => r = .bool (decide (ruleOf 10 a b < 0)) ∧ s = σ) := by
  have e : decide (ruleOf 10 a b < 0) = decide (a.From < b.From) := cmpZ_neg _ _
  refine PCall_q [.tmp 6] 94 Try.func25 (by rfl) rfl rfl rfl rfl ?_
  repeat' first
    | refine W_seq ?_
    | refine W_block ?_
    | ((first | refine W_region (mu := []) ?_ | (refine W_region_any (id := 1) [] ⟨[], [8,9], [6,7], [], [], [], 0⟩ mixedOrders_ok (by kernel_rfl) ?_; intro nu hn1 hn2) | (refine W_region_any [] ⟨[], [], [], [], [], [], 0⟩ mixedOrders_ok (by kernel_rfl) ?_; intro nu hn1 hn2) | refine fn_ret ?_ | refine fn_normal ?_ | refine Hold_P ?_ | refine prun_go ?_ | refine drun_go ?_); simp -dsimp only [go_sem, Nat.reduceLT, Nat.reduceLeDiff, Nat.reduceEqDiff, Nat.reduceAdd, Nat.reduceMul, Int.reduceNeg, Nat.reduceBEq, reduceCtorEq, ↓reduceIte, Cand.cells, e])
    | (refine W_cond rfl (fun h => ?_) (fun h => ?_) <;> (try (cases h; done)))
    | refine W_ret ?_
    | refine W_skip ?_
    | refine W_exit ?_
    | refine then_normal ?_
    | refine then_ret ?_
    | refine then_exit ?_
    | refine inBlock_normal ?_
    | refine inBlock_ret ?_
    | refine inBlock_exit ?_
    | refine inBlock_ne (by decide) ?_
    | refine Hold_E ?_
    | (refine And.intro ?_ ?_; omega)
    | ((first | (refine ite_goB (fun h => ?_) (fun h => ?_) <;> (try exact absurd ((h : _ = false).symm.trans (by assumption : _ = true)) (by decide)) <;> (try exact absurd ((by assumption : _ = false).symm.trans (h : _ = true)) (by decide))) | (refine ite_go (fun h => ?_) (fun h => ?_) <;> (try exact absurd h (by assumption)) <;> (try exact absurd (by assumption) h))) <;> (try refine Hold_P ?_) <;> (try simp -dsimp only [h, go_sem, Nat.reduceLT, Nat.reduceLeDiff, Nat.reduceEqDiff, Nat.reduceAdd, Nat.reduceMul, Int.reduceNeg, Nat.reduceBEq, reduceCtorEq, ↓reduceIte, Cand.cells, e]))
    | refine Exists.intro _ (Exists.intro _ (And.intro (And.intro rfl rfl) ?_))
  have h67 : ∀ (s : Store) (x : Ob), (s.put (nu 7) x) (nu 6) = s (nu 6) := fun s x => put_ne (fun e => by have := hn2 6 7 (by simp) (by simp) e; omega)
  have h76 : ∀ (s : Store) (x : Ob), (s.put (nu 6) x) (nu 7) = s (nu 7) := fun s x => put_ne (fun e => by have := hn2 7 6 (by simp) (by simp) e; omega)
  have hsub : ∀ (x y z w : Ob), σ.Sub ((((σ.put (nu 6) x).put (nu 7) y).put (nu 6) z).put (nu 7) w) := fun x y z w =>
    Sub_put (Sub_put (Sub_put (Sub_put (Store.Sub.refl _) (hn1 6 (by simp)) _) (hn1 7 (by simp)) _) (hn1 6 (by simp)) _) (hn1 7 (by simp)) _
  simp -dsimp only [h67, h76, go_sem, Nat.reduceLT, Nat.reduceLeDiff, Nat.reduceEqDiff, Nat.reduceAdd, Nat.reduceMul, Int.reduceNeg, Nat.reduceBEq, reduceCtorEq, ↓reduceIte]
  repeat' first
    | refine W_seq ?_
    | refine W_block ?_
    | ((first | refine W_region (mu := []) ?_ | (refine W_region_any (id := 1) [] ⟨[], [8,9], [6,7], [], [], [], 0⟩ mixedOrders_ok (by kernel_rfl) ?_; intro nu hn1 hn2) | (refine W_region_any [] ⟨[], [], [], [], [], [], 0⟩ mixedOrders_ok (by kernel_rfl) ?_; intro nu hn1 hn2) | refine fn_ret ?_ | refine fn_normal ?_ | refine Hold_P ?_ | refine prun_go ?_ | refine drun_go ?_); simp -dsimp only [go_sem, Nat.reduceLT, Nat.reduceLeDiff, Nat.reduceEqDiff, Nat.reduceAdd, Nat.reduceMul, Int.reduceNeg, Nat.reduceBEq, reduceCtorEq, ↓reduceIte, Cand.cells, length_ints, h67, h76, e])
    | (refine W_cond rfl (fun h => ?_) (fun h => ?_) <;> (try (cases h; done)))
    | refine W_ret ?_
    | refine W_skip ?_
    | refine W_exit ?_
    | refine then_normal ?_
    | refine then_ret ?_
    | refine then_exit ?_
    | refine inBlock_normal ?_
    | refine inBlock_ret ?_
    | refine inBlock_exit ?_
    | refine inBlock_ne (by decide) ?_
    | refine Hold_E ?_
    | (refine And.intro ?_ ?_; omega)
    | ((first | (refine ite_goB (fun h => ?_) (fun h => ?_) <;> (try exact absurd ((h : _ = false).symm.trans (by assumption : _ = true)) (by decide)) <;> (try exact absurd ((by assumption : _ = false).symm.trans (h : _ = true)) (by decide))) | (refine ite_go (fun h => ?_) (fun h => ?_) <;> (try exact absurd h (by assumption)) <;> (try exact absurd (by assumption) h))) <;> (try refine Hold_P ?_) <;> (try simp -dsimp only [h, go_sem, Nat.reduceLT, Nat.reduceLeDiff, Nat.reduceEqDiff, Nat.reduceAdd, Nat.reduceMul, Int.reduceNeg, Nat.reduceBEq, reduceCtorEq, ↓reduceIte, Cand.cells, length_ints, h67, h76, e]))
    | refine Exists.intro _ (Exists.intro _ (And.intro (And.intro rfl rfl) ?_))
    | (refine PCall_use (ref09_spec a.A b.A ha hb _) ?_; rintro _ _ ⟨rfl, hq⟩; obtain rfl := hq.symm; clear hq)
    | (refine Exists.intro _ (And.intro (fun _ => ref09_spec a.A b.A ha hb _) ?_))
    | (refine Exists.intro _ (And.intro (ref09_spec a.A b.A ha hb _) ?_))
    | (refine Exists.intro _ (Exists.intro _ (And.intro (ref09_spec a.A b.A ha hb _) ?_)))
  all_goals exact hsub _ _ _ _

theorem less9 (a b : Cand) (ha : a.A.Fits) (hb : b.A.Fits) (σ : Store) : PCall Try.prog 25 [.int .i64 (9 : Nat), .agg a.cells, .agg b.cells] σ (fun r s => r = .bool (decide (ruleOf 9 a b < 0)) ∧ s = σ) := by
  have e : decide (ruleOf 9 a b < 0) = decide (attrCmp a.A b.A < 0) := rfl
  refine PCall_q [.tmp 6] 94 Try.func25 (by rfl) rfl rfl rfl rfl ?_
  repeat' first
    | refine W_seq ?_
    | refine W_block ?_
    | ((first | refine W_region (mu := []) ?_ | (refine W_region_any (id := 1) [] ⟨[], [8,9], [6,7], [], [], [], 0⟩ mixedOrders_ok (by kernel_rfl) ?_; intro nu hn1 hn2) | (refine W_region_any [] ⟨[], [], [], [], [], [], 0⟩ mixedOrders_ok (by kernel_rfl) ?_; intro nu hn1 hn2) | refine fn_ret ?_ | refine fn_normal ?_ | refine Hold_P ?_ | refine prun_go ?_ | refine drun_go ?_); simp -dsimp only [go_sem, Nat.reduceLT, Nat.reduceLeDiff, Nat.reduceEqDiff, Nat.reduceAdd, Nat.reduceMul, Int.reduceNeg, Nat.reduceBEq, reduceCtorEq, ↓reduceIte, Cand.cells, e])
    | (refine W_cond rfl (fun h => ?_) (fun h => ?_) <;> (try (cases h; done)))
    | refine W_ret ?_
    | refine W_skip ?_
    | refine W_exit ?_
    | refine then_normal ?_
    | refine then_ret ?_
    | refine then_exit ?_
    | refine inBlock_normal ?_
    | refine inBlock_ret ?_
    | refine inBlock_exit ?_
    | refine inBlock_ne (by decide) ?_
    | refine Hold_E ?_
    | (refine And.intro ?_ ?_; omega)
    | ((first | (refine ite_goB (fun h => ?_) (fun h => ?_) <;> (try exact absurd ((h : _ = false).symm.trans (by assumption : _ = true)) (by decide)) <;> (try exact absurd ((by assumption : _ = false).symm.trans (h : _ = true)) (by decide))) | (refine ite_go (fun h => ?_) (fun h => ?_) <;> (try exact absurd h (by assumption)) <;> (try exact absurd (by assumption) h))) <;> (try refine Hold_P ?_) <;> (try simp -dsimp only [h, go_sem, Nat.reduceLT, Nat.reduceLeDiff, Nat.reduceEqDiff, Nat.reduceAdd, Nat.reduceMul, Int.reduceNeg, Nat.reduceBEq, reduceCtorEq, ↓reduceIte, Cand.cells, e]))
    | refine Exists.intro _ (Exists.intro _ (And.intro (And.intro rfl rfl) ?_))
  have h67 : ∀ (s : Store) (x : Ob), (s.put (nu 7) x) (nu 6) = s (nu 6) := fun s x => put_ne (fun e => by have := hn2 6 7 (by simp) (by simp) e; omega)
  have h76 : ∀ (s : Store) (x : Ob), (s.put (nu 6) x) (nu 7) = s (nu 7) := fun s x => put_ne (fun e => by have := hn2 7 6 (by simp) (by simp) e; omega)
  have hsub : ∀ (x y z w : Ob), σ.Sub ((((σ.put (nu 6) x).put (nu 7) y).put (nu 6) z).put (nu 7) w) := fun x y z w =>
    Sub_put (Sub_put (Sub_put (Sub_put (Store.Sub.refl _) (hn1 6 (by simp)) _) (hn1 7 (by simp)) _) (hn1 6 (by simp)) _) (hn1 7 (by simp)) _
  simp -dsimp only [h67, h76, go_sem, Nat.reduceLT, Nat.reduceLeDiff, Nat.reduceEqDiff, Nat.reduceAdd, Nat.reduceMul, Int.reduceNeg, Nat.reduceBEq, reduceCtorEq, ↓reduceIte]
  repeat' first
    | refine W_seq ?_
    | refine W_block ?_
    | ((first | refine W_region (mu := []) ?_ | (refine W_region_any (id := 1) [] ⟨[], [8,9], [6,7], [], [], [], 0⟩ mixedOrders_ok (by kernel_rfl) ?_; intro nu hn1 hn2) | (refine W_region_any [] ⟨[], [], [], [], [], [], 0⟩ mixedOrders_ok (by kernel_rfl) ?_; intro nu hn1 hn2) | refine fn_ret ?_ | refine fn_normal ?_ | refine Hold_P ?_ | refine prun_go ?_ | refine drun_go ?_); simp -dsimp only [go_sem, Nat.reduceLT, Nat.reduceLeDiff, Nat.reduceEqDiff, Nat.reduceAdd, Nat.reduceMul, Int.reduceNeg, Nat.reduceBEq, reduceCtorEq, ↓reduceIte, Cand.cells, length_ints, h67, h76, e])
    | (refine W_cond rfl (fun h => ?_) (fun h => ?_) <;> (try (cases h; done)))
    | refine W_ret ?_
    | refine W_skip ?_
    | refine W_exit ?_
    | refine then_normal ?_
    | refine then_ret ?_
    | refine then_exit ?_
    | refine inBlock_normal ?_
    | refine inBlock_ret ?_
    | refine inBlock_exit ?_
    | refine inBlock_ne (by decide) ?_
    | refine Hold_E ?_
    | (refine And.intro ?_ ?_; omega)
    | ((first | (refine ite_goB (fun h => ?_) (fun h => ?_) <;> (try exact absurd ((h : _ = false).symm.trans (by assumption : _ = true)) (by decide)) <;> (try exact absurd ((by assumption : _ = false).symm.trans (h : _ = true)) (by decide))) | (refine ite_go (fun h => ?_) (fun h => ?_) <;> (try exact absurd h (by assumption)) <;> (try exact absurd (by assumption) h))) <;> (try refine Hold_P ?_) <;> (try simp -dsimp only [h, go_sem, Nat.reduceLT, Nat.reduceLeDiff, Nat.reduceEqDiff, Nat.reduceAdd, Nat.reduceMul, Int.reduceNeg, Nat.reduceBEq, reduceCtorEq, ↓reduceIte, Cand.cells, length_ints, h67, h76, e]))
    | refine Exists.intro _ (Exists.intro _ (And.intro (And.intro rfl rfl) ?_))
    | (refine PCall_use (ref09_spec a.A b.A ha hb _) ?_; rintro _ _ ⟨rfl, hq⟩; obtain rfl := hq.symm; clear hq)
    | (refine Exists.intro _ (And.intro (fun _ => ref09_spec a.A b.A ha hb _) ?_))
    | (refine Exists.intro _ (And.intro (ref09_spec a.A b.A ha hb _) ?_))
    | (refine Exists.intro _ (Exists.intro _ (And.intro (ref09_spec a.A b.A ha hb _) ?_)))
  all_goals exact hsub _ _ _ _

theorem less1x (a b : Cand) (ha : a.A.Fits) (hb : b.A.Fits) (h : a.From = 0) (k : b.From = 0) (σ : Store) : PCall Try.prog 25 [.int .i64 (1 : Nat), .agg a.cells, .agg b.cells] σ (fun r s => r = .bool (decide (ruleOf 1 a b < 0)) ∧ s = σ) := by
  have e : decide (ruleOf 1 a b < 0) = false := by simp [ruleOf, rules, firstC, h, k]
  have e1 := eq_true h
  have e2 := eq_true k
  refine PCall_q [.tmp 6] 94 Try.func25 (by rfl) rfl rfl rfl rfl ?_
  repeat' first
    | refine W_seq ?_
    | refine W_block ?_
    | ((first | refine W_region (mu := []) ?_ | (refine W_region_any (id := 1) [] ⟨[], [8,9], [6,7], [], [], [], 0⟩ mixedOrders_ok (by kernel_rfl) ?_; intro nu hn1 hn2) | (refine W_region_any [] ⟨[], [], [], [], [], [], 0⟩ mixedOrders_ok (by kernel_rfl) ?_; intro nu hn1 hn2) | refine fn_ret ?_ | refine fn_normal ?_ | refine Hold_P ?_ | refine prun_go ?_ | refine drun_go ?_); simp -dsimp only [go_sem, Nat.reduceLT, Nat.reduceLeDiff, Nat.reduceEqDiff, Nat.reduceAdd, Nat.reduceMul, Int.reduceNeg, Nat.reduceBEq, reduceCtorEq, ↓reduceIte, Cand.cells, e, e1, e2])
    | (refine W_cond rfl (fun h => ?_) (fun h => ?_) <;> (try (cases h; done)))
    | refine W_ret ?_
    | refine W_skip ?_
    | refine W_exit ?_
    | refine then_normal ?_
    | refine then_ret ?_
    | refine then_exit ?_
    | refine inBlock_normal ?_
    | refine inBlock_ret ?_
    | refine inBlock_exit ?_
    | refine inBlock_ne (by decide) ?_
    | refine Hold_E ?_
    | (refine And.intro ?_ ?_; omega)
    | ((first | (refine ite_goB (fun h => ?_) (fun h => ?_) <;> (try exact absurd ((h : _ = false).symm.trans (by assumption : _ = true)) (by decide)) <;> (try exact absurd ((by assumption : _ = false).symm.trans (h : _ = true)) (by decide))) | (refine ite_go (fun h => ?_) (fun h => ?_) <;> (try exact absurd h (by assumption)) <;> (try exact absurd (by assumption) h))) <;> (try refine Hold_P ?_) <;> (try simp -dsimp only [h, go_sem, Nat.reduceLT, Nat.reduceLeDiff, Nat.reduceEqDiff, Nat.reduceAdd, Nat.reduceMul, Int.reduceNeg, Nat.reduceBEq, reduceCtorEq, ↓reduceIte, Cand.cells, e, e1, e2]))
    | refine Exists.intro _ (Exists.intro _ (And.intro (And.intro rfl rfl) ?_))
  have h67 : ∀ (s : Store) (x : Ob), (s.put (nu 7) x) (nu 6) = s (nu 6) := fun s x => put_ne (fun e => by have := hn2 6 7 (by simp) (by simp) e; omega)
  have h76 : ∀ (s : Store) (x : Ob), (s.put (nu 6) x) (nu 7) = s (nu 7) := fun s x => put_ne (fun e => by have := hn2 7 6 (by simp) (by simp) e; omega)
  have hsub : ∀ (x y z w : Ob), σ.Sub ((((σ.put (nu 6) x).put (nu 7) y).put (nu 6) z).put (nu 7) w) := fun x y z w =>
    Sub_put (Sub_put (Sub_put (Sub_put (Store.Sub.refl _) (hn1 6 (by simp)) _) (hn1 7 (by simp)) _) (hn1 6 (by simp)) _) (hn1 7 (by simp)) _
  simp -dsimp only [h67, h76, go_sem, Nat.reduceLT, Nat.reduceLeDiff, Nat.reduceEqDiff, Nat.reduceAdd, Nat.reduceMul, Int.reduceNeg, Nat.reduceBEq, reduceCtorEq, ↓reduceIte]
  repeat' first
    | refine W_seq ?_
    | refine W_block ?_
    | ((first | refine W_region (mu := []) ?_ | (refine W_region_any (id := 1) [] ⟨[], [8,9], [6,7], [], [], [], 0⟩ mixedOrders_ok (by kernel_rfl) ?_; intro nu hn1 hn2) | (refine W_region_any [] ⟨[], [], [], [], [], [], 0⟩ mixedOrders_ok (by kernel_rfl) ?_; intro nu hn1 hn2) | refine fn_ret ?_ | refine fn_normal ?_ | refine Hold_P ?_ | refine prun_go ?_ | refine drun_go ?_); simp -dsimp only [go_sem, Nat.reduceLT, Nat.reduceLeDiff, Nat.reduceEqDiff, Nat.reduceAdd, Nat.reduceMul, Int.reduceNeg, Nat.reduceBEq, reduceCtorEq, ↓reduceIte, Cand.cells, length_ints, h67, h76, e, e1, e2])
    | (refine W_cond rfl (fun h => ?_) (fun h => ?_) <;> (try (cases h; done)))
    | refine W_ret ?_
    | refine W_skip ?_
    | refine W_exit ?_
    | refine then_normal ?_
    | refine then_ret ?_
    | refine then_exit ?_
    | refine inBlock_normal ?_
    | refine inBlock_ret ?_
    | refine inBlock_exit ?_
    | refine inBlock_ne (by decide) ?_
    | refine Hold_E ?_
    | (refine And.intro ?_ ?_; omega)
    | ((first | (refine ite_goB (fun h => ?_) (fun h => ?_) <;> (try exact absurd ((h : _ = false).symm.trans (by assumption : _ = true)) (by decide)) <;> (try exact absurd ((by assumption : _ = false).symm.trans (h : _ = true)) (by decide))) | (refine ite_go (fun h => ?_) (fun h => ?_) <;> (try exact absurd h (by assumption)) <;> (try exact absurd (by assumption) h))) <;> (try refine Hold_P ?_) <;> (try simp -dsimp only [h, go_sem, Nat.reduceLT, Nat.reduceLeDiff, Nat.reduceEqDiff, Nat.reduceAdd, Nat.reduceMul, Int.reduceNeg, Nat.reduceBEq, reduceCtorEq, ↓reduceIte, Cand.cells, length_ints, h67, h76, e, e1, e2]))
    | refine Exists.intro _ (Exists.intro _ (And.intro (And.intro rfl rfl) ?_))
    | (refine PCall_use (ref09_spec a.A b.A ha hb _) ?_; rintro _ _ ⟨rfl, hq⟩; obtain rfl := hq.symm; clear hq)
    | (refine Exists.intro _ (And.intro (fun _ => ref09_spec a.A b.A ha hb _) ?_))
    | (refine Exists.intro _ (And.intro (ref09_spec a.A b.A ha hb _) ?_))
    | (refine Exists.intro _ (Exists.intro _ (And.intro (ref09_spec a.A b.A ha hb _) ?_)))
  all_goals exact hsub _ _ _ _

theorem less1y (a b : Cand) (ha : a.A.Fits) (hb : b.A.Fits) (h : a.From = 0) (k : ¬ b.From = 0) (σ : Store) : PCall Try.prog 25 [.int .i64 (1 : Nat), .agg a.cells, .agg b.cells] σ (fun r s => r = .bool (decide (ruleOf 1 a b < 0)) ∧ s = σ) := by
  have e : decide (ruleOf 1 a b < 0) = true := by simp [ruleOf, rules, firstC, h, k]
  have e1 := eq_true h
  have e2 := eq_false k
  refine PCall_q [.tmp 6] 94 Try.func25 (by rfl) rfl rfl rfl rfl ?_
  repeat' first
    | refine W_seq ?_
    | refine W_block ?_
    | ((first | refine W_region (mu := []) ?_ | (refine W_region_any (id := 1) [] ⟨[], [8,9], [6,7], [], [], [], 0⟩ mixedOrders_ok (by kernel_rfl) ?_; intro nu hn1 hn2) | (refine W_region_any [] ⟨[], [], [], [], [], [], 0⟩ mixedOrders_ok (by kernel_rfl) ?_; intro nu hn1 hn2) | refine fn_ret ?_ | refine fn_normal ?_ | refine Hold_P ?_ | refine prun_go ?_ | refine drun_go ?_); simp -dsimp only [go_sem, Nat.reduceLT, Nat.reduceLeDiff, Nat.reduceEqDiff, Nat.reduceAdd, Nat.reduceMul, Int.reduceNeg, Nat.reduceBEq, reduceCtorEq, ↓reduceIte, Cand.cells, e, e1, e2])
    | (refine W_cond rfl (fun h => ?_) (fun h => ?_) <;> (try (cases h; done)))
    | refine W_ret ?_
    | refine W_skip ?_
    | refine W_exit ?_
    | refine then_normal ?_
    | refine then_ret ?_
    | refine then_exit ?_
    | refine inBlock_normal ?_
    | refine inBlock_ret ?_
    | refine inBlock_exit ?_
    | refine inBlock_ne (by decide) ?_
    | refine Hold_E ?_
    | (refine And.intro ?_ ?_; omega)
    | ((first | (refine ite_goB (fun h => ?_) (fun h => ?_) <;> (try exact absurd ((h : _ = false).symm.trans (by assumption : _ = true)) (by decide)) <;> (try exact absurd ((by assumption : _ = false).symm.trans (h : _ = true)) (by decide))) | (refine ite_go (fun h => ?_) (fun h => ?_) <;> (try exact absurd h (by assumption)) <;> (try exact absurd (by assumption) h))) <;> (try refine Hold_P ?_) <;> (try simp -dsimp only [h, go_sem, Nat.reduceLT, Nat.reduceLeDiff, Nat.reduceEqDiff, Nat.reduceAdd, Nat.reduceMul, Int.reduceNeg, Nat.reduceBEq, reduceCtorEq, ↓reduceIte, Cand.cells, e, e1, e2]))
    | refine Exists.intro _ (Exists.intro _ (And.intro (And.intro rfl rfl) ?_))
  have h67 : ∀ (s : Store) (x : Ob), (s.put (nu 7) x) (nu 6) = s (nu 6) := fun s x => put_ne (fun e => by have := hn2 6 7 (by simp) (by simp) e; omega)
  have h76 : ∀ (s : Store) (x : Ob), (s.put (nu 6) x) (nu 7) = s (nu 7) := fun s x => put_ne (fun e => by have := hn2 7 6 (by simp) (by simp) e; omega)
  have hsub : ∀ (x y z w : Ob), σ.Sub ((((σ.put (nu 6) x).put (nu 7) y).put (nu 6) z).put (nu 7) w) := fun x y z w =>
    Sub_put (Sub_put (Sub_put (Sub_put (Store.Sub.refl _) (hn1 6 (by simp)) _) (hn1 7 (by simp)) _) (hn1 6 (by simp)) _) (hn1 7 (by simp)) _
  simp -dsimp only [h67, h76, go_sem, Nat.reduceLT, Nat.reduceLeDiff, Nat.reduceEqDiff, Nat.reduceAdd, Nat.reduceMul, Int.reduceNeg, Nat.reduceBEq, reduceCtorEq, ↓reduceIte]
  repeat' first
    | refine W_seq ?_
    | refine W_block ?_
    | ((first | refine W_region (mu := []) ?_ | (refine W_region_any (id := 1) [] ⟨[], [8,9], [6,7], [], [], [], 0⟩ mixedOrders_ok (by kernel_rfl) ?_; intro nu hn1 hn2) | (refine W_region_any [] ⟨[], [], [], [], [], [], 0⟩ mixedOrders_ok (by kernel_rfl) ?_; intro nu hn1 hn2) | refine fn_ret ?_ | refine fn_normal ?_ | refine Hold_P ?_ | refine prun_go ?_ | refine drun_go ?_); simp -dsimp only [go_sem, Nat.reduceLT, Nat.reduceLeDiff, Nat.reduceEqDiff, Nat.reduceAdd, Nat.reduceMul, Int.reduceNeg, Nat.reduceBEq, reduceCtorEq, ↓reduceIte, Cand.cells, length_ints, h67, h76, e, e1, e2])
    | (refine W_cond rfl (fun h => ?_) (fun h => ?_) <;> (try (cases h; done)))
    | refine W_ret ?_
    | refine W_skip ?_
    | refine W_exit ?_
    | refine then_normal ?_
    | refine then_ret ?_
    | refine then_exit ?_
    | refine inBlock_normal ?_
    | refine inBlock_ret ?_
    | refine inBlock_exit ?_
    | refine inBlock_ne (by decide) ?_
    | refine Hold_E ?_
    | (refine And.intro ?_ ?_; omega)
    | ((first | (refine ite_goB (fun h => ?_) (fun h => ?_) <;> (try exact absurd ((h : _ = false).symm.trans (by assumption : _ = true)) (by decide)) <;> (try exact absurd ((by assumption : _ = false).symm.trans (h : _ = true)) (by decide))) | (refine ite_go (fun h => ?_) (fun h => ?_) <;> (try exact absurd h (by assumption)) <;> (try exact absurd (by assumption) h))) <;> (try refine Hold_P ?_) <;> (try simp -dsimp only [h, go_sem, Nat.reduceLT, Nat.reduceLeDiff, Nat.reduceEqDiff, Nat.reduceAdd, Nat.reduceMul, Int.reduceNeg, Nat.reduceBEq, reduceCtorEq, ↓reduceIte, Cand.cells, length_ints, h67, h76, e, e1, e2]))
    | refine Exists.intro _ (Exists.intro _ (And.intro (And.intro rfl rfl) ?_))
    | (refine PCall_use (ref09_spec a.A b.A ha hb _) ?_; rintro _ _ ⟨rfl, hq⟩; obtain rfl := hq.symm; clear hq)
    | (refine Exists.intro _ (And.intro (fun _ => ref09_spec a.A b.A ha hb _) ?_))
    | (refine Exists.intro _ (And.intro (ref09_spec a.A b.A ha hb _) ?_))
    | (refine Exists.intro _ (Exists.intro _ (And.intro (ref09_spec a.A b.A ha hb _) ?_)))
  all_goals exact hsub _ _ _ _

theorem less1z (a b : Cand) (ha : a.A.Fits) (hb : b.A.Fits) (h : ¬ a.From = 0) (σ : Store) : PCall Try.prog 25 [.int .i64 (1 : Nat), .agg a.cells, .agg b.cells] σ (fun r s => r = .bool (decide (ruleOf 1 a b < 0)) ∧ s = σ) := by
  have e : decide (ruleOf 1 a b < 0) = false := by by_cases k : b.From = 0 <;> simp [ruleOf, rules, firstC, h, k]
  have e1 := eq_false h
  refine PCall_q [.tmp 6] 94 Try.func25 (by rfl) rfl rfl rfl rfl ?_
  repeat' first
    | refine W_seq ?_
    | refine W_block ?_
    | ((first | refine W_region (mu := []) ?_ | (refine W_region_any (id := 1) [] ⟨[], [8,9], [6,7], [], [], [], 0⟩ mixedOrders_ok (by kernel_rfl) ?_; intro nu hn1 hn2) | (refine W_region_any [] ⟨[], [], [], [], [], [], 0⟩ mixedOrders_ok (by kernel_rfl) ?_; intro nu hn1 hn2) | refine fn_ret ?_ | refine fn_normal ?_ | refine Hold_P ?_ | refine prun_go ?_ | refine drun_go ?_); simp -dsimp only [go_sem, Nat.reduceLT, Nat.reduceLeDiff, Nat.reduceEqDiff, Nat.reduceAdd, Nat.reduceMul, Int.reduceNeg, Nat.reduceBEq, reduceCtorEq, ↓reduceIte, Cand.cells, e, e1])
    | (refine W_cond rfl (fun h => ?_) (fun h => ?_) <;> (try (cases h; done)))
    | refine W_ret ?_
    | refine W_skip ?_
    | refine W_exit ?_
    | refine then_normal ?_
    | refine then_ret ?_
    | refine then_exit ?_
    | refine inBlock_normal ?_
    | refine inBlock_ret ?_
    | refine inBlock_exit ?_
    | refine inBlock_ne (by decide) ?_
    | refine Hold_E ?_
    | (refine And.intro ?_ ?_; omega)
    | ((first | (refine ite_goB (fun h => ?_) (fun h => ?_) <;> (try exact absurd ((h : _ = false).symm.trans (by assumption : _ = true)) (by decide)) <;> (try exact absurd ((by assumption : _ = false).symm.trans (h : _ = true)) (by decide))) | (refine ite_go (fun h => ?_) (fun h => ?_) <;> (try exact absurd h (by assumption)) <;> (try exact absurd (by assumption) h))) <;> (try refine Hold_P ?_) <;> (try simp -dsimp only [h, go_sem, Nat.reduceLT, Nat.reduceLeDiff, Nat.reduceEqDiff, Nat.reduceAdd, Nat.reduceMul, Int.reduceNeg, Nat.reduceBEq, reduceCtorEq, ↓reduceIte, Cand.cells, e, e1]))
    | refine Exists.intro _ (Exists.intro _ (And.intro (And.intro rfl rfl) ?_))
  have h67 : ∀ (s : Store) (x : Ob), (s.put (nu 7) x) (nu 6) = s (nu 6) := fun s x => put_ne (fun e => by have := hn2 6 7 (by simp) (by simp) e; omega)
  have h76 : ∀ (s : Store) (x : Ob), (s.put (nu 6) x) (nu 7) = s (nu 7) := fun s x => put_ne (fun e => by have := hn2 7 6 (by simp) (by simp) e; omega)
  have hsub : ∀ (x y z w : Ob), σ.Sub ((((σ.put (nu 6) x).put (nu 7) y).put (nu 6) z).put (nu 7) w) := fun x y z w =>
    Sub_put (Sub_put (Sub_put (Sub_put (Store.Sub.refl _) (hn1 6 (by simp)) _) (hn1 7 (by simp)) _) (hn1 6 (by simp)) _) (hn1 7 (by simp)) _
  simp -dsimp only [h67, h76, go_sem, Nat.reduceLT, Nat.reduceLeDiff, Nat.reduceEqDiff, Nat.reduceAdd, Nat.reduceMul, Int.reduceNeg, Nat.reduceBEq, reduceCtorEq, ↓reduceIte]
  repeat' first
    | refine W_seq ?_
    | refine W_block ?_
    | ((first | refine W_region (mu := []) ?_ | (refine W_region_any (id := 1) [] ⟨[], [8,9], [6,7], [], [], [], 0⟩ mixedOrders_ok (by kernel_rfl) ?_; intro nu hn1 hn2) | (refine W_region_any [] ⟨[], [], [], [], [], [], 0⟩ mixedOrders_ok (by kernel_rfl) ?_; intro nu hn1 hn2) | refine fn_ret ?_ | refine fn_normal ?_ | refine Hold_P ?_ | refine prun_go ?_ | refine drun_go ?_); simp -dsimp only [go_sem, Nat.reduceLT, Nat.reduceLeDiff, Nat.reduceEqDiff, Nat.reduceAdd, Nat.reduceMul, Int.reduceNeg, Nat.reduceBEq, reduceCtorEq, ↓reduceIte, Cand.cells, length_ints, h67, h76, e, e1])
    | (refine W_cond rfl (fun h => ?_) (fun h => ?_) <;> (try (cases h; done)))
    | refine W_ret ?_
    | refine W_skip ?_
    | refine W_exit ?_
    | refine then_normal ?_
    | refine then_ret ?_
    | refine then_exit ?_
    | refine inBlock_normal ?_
    | refine inBlock_ret ?_
    | refine inBlock_exit ?_
    | refine inBlock_ne (by decide) ?_
    | refine Hold_E ?_
    | (refine And.intro ?_ ?_; omega)
    | ((first | (refine ite_goB (fun h => ?_) (fun h => ?_) <;> (try exact absurd ((h : _ = false).symm.trans (by assumption : _ = true)) (by decide)) <;> (try exact absurd ((by assumption : _ = false).symm.trans (h : _ = true)) (by decide))) | (refine ite_go (fun h => ?_) (fun h => ?_) <;> (try exact absurd h (by assumption)) <;> (try exact absurd (by assumption) h))) <;> (try refine Hold_P ?_) <;> (try simp -dsimp only [h, go_sem, Nat.reduceLT, Nat.reduceLeDiff, Nat.reduceEqDiff, Nat.reduceAdd, Nat.reduceMul, Int.reduceNeg, Nat.reduceBEq, reduceCtorEq, ↓reduceIte, Cand.cells, length_ints, h67, h76, e, e1]))
    | refine Exists.intro _ (Exists.intro _ (And.intro (And.intro rfl rfl) ?_))
    | (refine PCall_use (ref09_spec a.A b.A ha hb _) ?_; rintro _ _ ⟨rfl, hq⟩; obtain rfl := hq.symm; clear hq)
    | (refine Exists.intro _ (And.intro (fun _ => ref09_spec a.A b.A ha hb _) ?_))
    | (refine Exists.intro _ (And.intro (ref09_spec a.A b.A ha hb _) ?_))
    | (refine Exists.intro _ (Exists.intro _ (And.intro (ref09_spec a.A b.A ha hb _) ?_)))
  all_goals exact hsub _ _ _ _

theorem less6x (a b : Cand) (ha : a.A.Fits) (hb : b.A.Fits) (h : a.Outer = true) (k : b.Outer = true) (σ : Store) : PCall Try.prog 25 [.int .i64 (6 : Nat), .agg a.cells, .agg b.cells] σ (fun r s => r = .bool (decide (ruleOf 6 a b < 0)) ∧ s = σ) := by
  have e : decide (ruleOf 6 a b < 0) = false := by simp [ruleOf, rules, firstC, h, k]
  refine PCall_q [.tmp 6] 94 Try.func25 (by rfl) rfl rfl rfl rfl ?_
  repeat' first
    | refine W_seq ?_
    | refine W_block ?_
    | ((first | refine W_region (mu := []) ?_ | (refine W_region_any (id := 1) [] ⟨[], [8,9], [6,7], [], [], [], 0⟩ mixedOrders_ok (by kernel_rfl) ?_; intro nu hn1 hn2) | (refine W_region_any [] ⟨[], [], [], [], [], [], 0⟩ mixedOrders_ok (by kernel_rfl) ?_; intro nu hn1 hn2) | refine fn_ret ?_ | refine fn_normal ?_ | refine Hold_P ?_ | refine prun_go ?_ | refine drun_go ?_); simp -dsimp only [go_sem, Nat.reduceLT, Nat.reduceLeDiff, Nat.reduceEqDiff, Nat.reduceAdd, Nat.reduceMul, Int.reduceNeg, Nat.reduceBEq, reduceCtorEq, ↓reduceIte, Cand.cells, e, h, k])
    | (refine W_cond rfl (fun h => ?_) (fun h => ?_) <;> (try (cases h; done)))
    | refine W_ret ?_
    | refine W_skip ?_
    | refine W_exit ?_
    | refine then_normal ?_
    | refine then_ret ?_
    | refine then_exit ?_
    | refine inBlock_normal ?_
    | refine inBlock_ret ?_
    | refine inBlock_exit ?_
    | refine inBlock_ne (by decide) ?_
    | refine Hold_E ?_
    | (refine And.intro ?_ ?_; omega)
    | ((first | (refine ite_goB (fun h => ?_) (fun h => ?_) <;> (try exact absurd ((h : _ = false).symm.trans (by assumption : _ = true)) (by decide)) <;> (try exact absurd ((by assumption : _ = false).symm.trans (h : _ = true)) (by decide))) | (refine ite_go (fun h => ?_) (fun h => ?_) <;> (try exact absurd h (by assumption)) <;> (try exact absurd (by assumption) h))) <;> (try refine Hold_P ?_) <;> (try simp -dsimp only [h, go_sem, Nat.reduceLT, Nat.reduceLeDiff, Nat.reduceEqDiff, Nat.reduceAdd, Nat.reduceMul, Int.reduceNeg, Nat.reduceBEq, reduceCtorEq, ↓reduceIte, Cand.cells, e, h, k]))
    | refine Exists.intro _ (Exists.intro _ (And.intro (And.intro rfl rfl) ?_))
  have h67 : ∀ (s : Store) (x : Ob), (s.put (nu 7) x) (nu 6) = s (nu 6) := fun s x => put_ne (fun e => by have := hn2 6 7 (by simp) (by simp) e; omega)
  have h76 : ∀ (s : Store) (x : Ob), (s.put (nu 6) x) (nu 7) = s (nu 7) := fun s x => put_ne (fun e => by have := hn2 7 6 (by simp) (by simp) e; omega)
  have hsub : ∀ (x y z w : Ob), σ.Sub ((((σ.put (nu 6) x).put (nu 7) y).put (nu 6) z).put (nu 7) w) := fun x y z w =>
    Sub_put (Sub_put (Sub_put (Sub_put (Store.Sub.refl _) (hn1 6 (by simp)) _) (hn1 7 (by simp)) _) (hn1 6 (by simp)) _) (hn1 7 (by simp)) _
  simp -dsimp only [h67, h76, go_sem, Nat.reduceLT, Nat.reduceLeDiff, Nat.reduceEqDiff, Nat.reduceAdd, Nat.reduceMul, Int.reduceNeg, Nat.reduceBEq, reduceCtorEq, ↓reduceIte]
  repeat' first
    | refine W_seq ?_
    | refine W_block ?_
    | ((first | refine W_region (mu := []) ?_ | (refine W_region_any (id := 1) [] ⟨[], [8,9], [6,7], [], [], [], 0⟩ mixedOrders_ok (by kernel_rfl) ?_; intro nu hn1 hn2) | (refine W_region_any [] ⟨[], [], [], [], [], [], 0⟩ mixedOrders_ok (by kernel_rfl) ?_; intro nu hn1 hn2) | refine fn_ret ?_ | refine fn_normal ?_ | refine Hold_P ?_ | refine prun_go ?_ | refine drun_go ?_); simp -dsimp only [go_sem, Nat.reduceLT, Nat.reduceLeDiff, Nat.reduceEqDiff, Nat.reduceAdd, Nat.reduceMul, Int.reduceNeg, Nat.reduceBEq, reduceCtorEq, ↓reduceIte, Cand.cells, length_ints, h67, h76, e, h, k])
    | (refine W_cond rfl (fun h => ?_) (fun h => ?_) <;> (try (cases h; done)))
    | refine W_ret ?_
    | refine W_skip ?_
    | refine W_exit ?_
    | refine then_normal ?_
    | refine then_ret ?_
    | refine then_exit ?_
    | refine inBlock_normal ?_
    | refine inBlock_ret ?_
    | refine inBlock_exit ?_
    | refine inBlock_ne (by decide) ?_
    | refine Hold_E ?_
    | (refine And.intro ?_ ?_; omega)
    | ((first | (refine ite_goB (fun h => ?_) (fun h => ?_) <;> (try exact absurd ((h : _ = false).symm.trans (by assumption : _ = true)) (by decide)) <;> (try exact absurd ((by assumption : _ = false).symm.trans (h : _ = true)) (by decide))) | (refine ite_go (fun h => ?_) (fun h => ?_) <;> (try exact absurd h (by assumption)) <;> (try exact absurd (by assumption) h))) <;> (try refine Hold_P ?_) <;> (try simp -dsimp only [h, go_sem, Nat.reduceLT, Nat.reduceLeDiff, Nat.reduceEqDiff, Nat.reduceAdd, Nat.reduceMul, Int.reduceNeg, Nat.reduceBEq, reduceCtorEq, ↓reduceIte, Cand.cells, length_ints, h67, h76, e, h, k]))
    | refine Exists.intro _ (Exists.intro _ (And.intro (And.intro rfl rfl) ?_))
    | (refine PCall_use (ref09_spec a.A b.A ha hb _) ?_; rintro _ _ ⟨rfl, hq⟩; obtain rfl := hq.symm; clear hq)
    | (refine Exists.intro _ (And.intro (fun _ => ref09_spec a.A b.A ha hb _) ?_))
    | (refine Exists.intro _ (And.intro (ref09_spec a.A b.A ha hb _) ?_))
    | (refine Exists.intro _ (Exists.intro _ (And.intro (ref09_spec a.A b.A ha hb _) ?_)))
  all_goals exact hsub _ _ _ _

theorem less6y (a b : Cand) (ha : a.A.Fits) (hb : b.A.Fits) (h : a.Outer = true) (k : b.Outer = false) (σ : Store) : PCall Try.prog 25 [.int .i64 (6 : Nat), .agg a.cells, .agg b.cells] σ (fun r s => r = .bool (decide (ruleOf 6 a b < 0)) ∧ s = σ) := by
  have e : decide (ruleOf 6 a b < 0) = true := by simp [ruleOf, rules, firstC, h, k]
  refine PCall_q [.tmp 6] 94 Try.func25 (by rfl) rfl rfl rfl rfl ?_
  repeat' first
    | refine W_seq ?_
    | refine W_block ?_
    | ((first | refine W_region (mu := []) ?_ | (refine W_region_any (id := 1) [] ⟨[], [8,9], [6,7], [], [], [], 0⟩ mixedOrders_ok (by kernel_rfl) ?_; intro nu hn1 hn2) | (refine W_region_any [] ⟨[], [], [], [], [], [], 0⟩ mixedOrders_ok (by kernel_rfl) ?_; intro nu hn1 hn2) | refine fn_ret ?_ | refine fn_normal ?_ | refine Hold_P ?_ | refine prun_go ?_ | refine drun_go ?_); simp -dsimp only [go_sem, Nat.reduceLT, Nat.reduceLeDiff, Nat.reduceEqDiff, Nat.reduceAdd, Nat.reduceMul, Int.reduceNeg, Nat.reduceBEq, reduceCtorEq, ↓reduceIte, Cand.cells, e, h, k])
    | (refine W_cond rfl (fun h => ?_) (fun h => ?_) <;> (try (cases h; done)))
    | refine W_ret ?_
    | refine W_skip ?_
    | refine W_exit ?_
    | refine then_normal ?_
    | refine then_ret ?_
    | refine then_exit ?_
    | refine inBlock_normal ?_
    | refine inBlock_ret ?_
    | refine inBlock_exit ?_
    | refine inBlock_ne (by decide) ?_
    | refine Hold_E ?_
    | (refine And.intro ?_ ?_; omega)
    | ((first | (refine ite_goB (fun h => ?_) (fun h => ?_) <;> (try exact absurd ((h : _ = false).symm.trans (by assumption : _ = true)) (by decide)) <;> (try exact absurd ((by assumption : _ = false).symm.trans (h : _ = true)) (by decide))) | (refine ite_go (fun h => ?_) (fun h => ?_) <;> (try exact absurd h (by assumption)) <;> (try exact absurd (by assumption) h))) <;> (try refine Hold_P ?_) <;> (try simp -dsimp only [h, go_sem, Nat.reduceLT, Nat.reduceLeDiff, Nat.reduceEqDiff, Nat.reduceAdd, Nat.reduceMul, Int.reduceNeg, Nat.reduceBEq, reduceCtorEq, ↓reduceIte, Cand.cells, e, h, k]))
    | refine Exists.intro _ (Exists.intro _ (And.intro (And.intro rfl rfl) ?_))
  have h67 : ∀ (s : Store) (x : Ob), (s.put (nu 7) x) (nu 6) = s (nu 6) := fun s x => put_ne (fun e => by have := hn2 6 7 (by simp) (by simp) e; omega)
  have h76 : ∀ (s : Store) (x : Ob), (s.put (nu 6) x) (nu 7) = s (nu 7) := fun s x => put_ne (fun e => by have := hn2 7 6 (by simp) (by simp) e; omega)
  have hsub : ∀ (x y z w : Ob), σ.Sub ((((σ.put (nu 6) x).put (nu 7) y).put (nu 6) z).put (nu 7) w) := fun x y z w =>
    Sub_put (Sub_put (Sub_put (Sub_put (Store.Sub.refl _) (hn1 6 (by simp)) _) (hn1 7 (by simp)) _) (hn1 6 (by simp)) _) (hn1 7 (by simp)) _
  simp -dsimp only [h67, h76, go_sem, Nat.reduceLT, Nat.reduceLeDiff, Nat.reduceEqDiff, Nat.reduceAdd, Nat.reduceMul, Int.reduceNeg, Nat.reduceBEq, reduceCtorEq, ↓reduceIte]
  repeat' first
    | refine W_seq ?_
    | refine W_block ?_
    | ((first | refine W_region (mu := []) ?_ | (refine W_region_any (id := 1) [] ⟨[], [8,9], [6,7], [], [], [], 0⟩ mixedOrders_ok (by kernel_rfl) ?_; intro nu hn1 hn2) | (refine W_region_any [] ⟨[], [], [], [], [], [], 0⟩ mixedOrders_ok (by kernel_rfl) ?_; intro nu hn1 hn2) | refine fn_ret ?_ | refine fn_normal ?_ | refine Hold_P ?_ | refine prun_go ?_ | refine drun_go ?_); simp -dsimp only [go_sem, Nat.reduceLT, Nat.reduceLeDiff, Nat.reduceEqDiff, Nat.reduceAdd, Nat.reduceMul, Int.reduceNeg, Nat.reduceBEq, reduceCtorEq, ↓reduceIte, Cand.cells, length_ints, h67, h76, e, h, k])
    | (refine W_cond rfl (fun h => ?_) (fun h => ?_) <;> (try (cases h; done)))
    | refine W_ret ?_
    | refine W_skip ?_
    | refine W_exit ?_
    | refine then_normal ?_
    | refine then_ret ?_
    | refine then_exit ?_
    | refine inBlock_normal ?_
    | refine inBlock_ret ?_
    | refine inBlock_exit ?_
    | refine inBlock_ne (by decide) ?_
    | refine Hold_E ?_
    | (refine And.intro ?_ ?_; omega)
    | ((first | (refine ite_goB (fun h => ?_) (fun h => ?_) <;> (try exact absurd ((h : _ = false).symm.trans (by assumption : _ = true)) (by decide)) <;> (try exact absurd ((by assumption : _ = false).symm.trans (h : _ = true)) (by decide))) | (refine ite_go (fun h => ?_) (fun h => ?_) <;> (try exact absurd h (by assumption)) <;> (try exact absurd (by assumption) h))) <;> (try refine Hold_P ?_) <;> (try simp -dsimp only [h, go_sem, Nat.reduceLT, Nat.reduceLeDiff, Nat.reduceEqDiff, Nat.reduceAdd, Nat.reduceMul, Int.reduceNeg, Nat.reduceBEq, reduceCtorEq, ↓reduceIte, Cand.cells, length_ints, h67, h76, e, h, k]))
    | refine Exists.intro _ (Exists.intro _ (And.intro (And.intro rfl rfl) ?_))
    | (refine PCall_use (ref09_spec a.A b.A ha hb _) ?_; rintro _ _ ⟨rfl, hq⟩; obtain rfl := hq.symm; clear hq)
    | (refine Exists.intro _ (And.intro (fun _ => ref09_spec a.A b.A ha hb _) ?_))
    | (refine Exists.intro _ (And.intro (ref09_spec a.A b.A ha hb _) ?_))
    | (refine Exists.intro _ (Exists.intro _ (And.intro (ref09_spec a.A b.A ha hb _) ?_)))
  all_goals exact hsub _ _ _ _

theorem less6z (a b : Cand) (ha : a.A.Fits) (hb : b.A.Fits) (h : a.Outer = false) (σ : Store) : PCall Try.prog 25 [.int .i64 (6 : Nat), .agg a.cells, .agg b.cells] σ (fun r s => r = .bool (decide (ruleOf 6 a b < 0)) ∧ s = σ) := by
  have e : decide (ruleOf 6 a b < 0) = false := by cases k : b.Outer <;> simp [ruleOf, rules, firstC, h, k]
  refine PCall_q [.tmp 6] 94 Try.func25 (by rfl) rfl rfl rfl rfl ?_
  repeat' first
    | refine W_seq ?_
    | refine W_block ?_
    | ((first | refine W_region (mu := []) ?_ | (refine W_region_any (id := 1) [] ⟨[], [8,9], [6,7], [], [], [], 0⟩ mixedOrders_ok (by kernel_rfl) ?_; intro nu hn1 hn2) | (refine W_region_any [] ⟨[], [], [], [], [], [], 0⟩ mixedOrders_ok (by kernel_rfl) ?_; intro nu hn1 hn2) | refine fn_ret ?_ | refine fn_normal ?_ | refine Hold_P ?_ | refine prun_go ?_ | refine drun_go ?_); simp -dsimp only [go_sem, Nat.reduceLT, Nat.reduceLeDiff, Nat.reduceEqDiff, Nat.reduceAdd, Nat.reduceMul, Int.reduceNeg, Nat.reduceBEq, reduceCtorEq, ↓reduceIte, Cand.cells, e, h])
    | (refine W_cond rfl (fun h => ?_) (fun h => ?_) <;> (try (cases h; done)))
    | refine W_ret ?_
    | refine W_skip ?_
    | refine W_exit ?_
    | refine then_normal ?_
    | refine then_ret ?_
    | refine then_exit ?_
    | refine inBlock_normal ?_
    | refine inBlock_ret ?_
    | refine inBlock_exit ?_
    | refine inBlock_ne (by decide) ?_
    | refine Hold_E ?_
    | (refine And.intro ?_ ?_; omega)
    | ((first | (refine ite_goB (fun h => ?_) (fun h => ?_) <;> (try exact absurd ((h : _ = false).symm.trans (by assumption : _ = true)) (by decide)) <;> (try exact absurd ((by assumption : _ = false).symm.trans (h : _ = true)) (by decide))) | (refine ite_go (fun h => ?_) (fun h => ?_) <;> (try exact absurd h (by assumption)) <;> (try exact absurd (by assumption) h))) <;> (try refine Hold_P ?_) <;> (try simp -dsimp only [h, go_sem, Nat.reduceLT, Nat.reduceLeDiff, Nat.reduceEqDiff, Nat.reduceAdd, Nat.reduceMul, Int.reduceNeg, Nat.reduceBEq, reduceCtorEq, ↓reduceIte, Cand.cells, e, h]))
    | refine Exists.intro _ (Exists.intro _ (And.intro (And.intro rfl rfl) ?_))
  have h67 : ∀ (s : Store) (x : Ob), (s.put (nu 7) x) (nu 6) = s (nu 6) := fun s x => put_ne (fun e => by have := hn2 6 7 (by simp) (by simp) e; omega)
  have h76 : ∀ (s : Store) (x : Ob), (s.put (nu 6) x) (nu 7) = s (nu 7) := fun s x => put_ne (fun e => by have := hn2 7 6 (by simp) (by simp) e; omega)
  have hsub : ∀ (x y z w : Ob), σ.Sub ((((σ.put (nu 6) x).put (nu 7) y).put (nu 6) z).put (nu 7) w) := fun x y z w =>
    Sub_put (Sub_put (Sub_put (Sub_put (Store.Sub.refl _) (hn1 6 (by simp)) _) (hn1 7 (by simp)) _) (hn1 6 (by simp)) _) (hn1 7 (by simp)) _
  simp -dsimp only [h67, h76, go_sem, Nat.reduceLT, Nat.reduceLeDiff, Nat.reduceEqDiff, Nat.reduceAdd, Nat.reduceMul, Int.reduceNeg, Nat.reduceBEq, reduceCtorEq, ↓reduceIte]
  repeat' first
    | refine W_seq ?_
    | refine W_block ?_
    | ((first | refine W_region (mu := []) ?_ | (refine W_region_any (id := 1) [] ⟨[], [8,9], [6,7], [], [], [], 0⟩ mixedOrders_ok (by kernel_rfl) ?_; intro nu hn1 hn2) | (refine W_region_any [] ⟨[], [], [], [], [], [], 0⟩ mixedOrders_ok (by kernel_rfl) ?_; intro nu hn1 hn2) | refine fn_ret ?_ | refine fn_normal ?_ | refine Hold_P ?_ | refine prun_go ?_ | refine drun_go ?_); simp -dsimp only [go_sem, Nat.reduceLT, Nat.reduceLeDiff, Nat.reduceEqDiff, Nat.reduceAdd, Nat.reduceMul, Int.reduceNeg, Nat.reduceBEq, reduceCtorEq, ↓reduceIte, Cand.cells, length_ints, h67, h76, e, h])
    | (refine W_cond rfl (fun h => ?_) (fun h => ?_) <;> (try (cases h; done)))
    | refine W_ret ?_
    | refine W_skip ?_
    | refine W_exit ?_
    | refine then_normal ?_
    | refine then_ret ?_
    | refine then_exit ?_
    | refine inBlock_normal ?_
    | refine inBlock_ret ?_
    | refine inBlock_exit ?_
    | refine inBlock_ne (by decide) ?_
    | refine Hold_E ?_
    | (refine And.intro ?_ ?_; omega)
    | ((first | (refine ite_goB (fun h => ?_) (fun h => ?_) <;> (try exact absurd ((h : _ = false).symm.trans (by assumption : _ = true)) (by decide)) <;> (try exact absurd ((by assumption : _ = false).symm.trans (h : _ = true)) (by decide))) | (refine ite_go (fun h => ?_) (fun h => ?_) <;> (try exact absurd h (by assumption)) <;> (try exact absurd (by assumption) h))) <;> (try refine Hold_P ?_) <;> (try simp -dsimp only [h, go_sem, Nat.reduceLT, Nat.reduceLeDiff, Nat.reduceEqDiff, Nat.reduceAdd, Nat.reduceMul, Int.reduceNeg, Nat.reduceBEq, reduceCtorEq, ↓reduceIte, Cand.cells, length_ints, h67, h76, e, h]))
    | refine Exists.intro _ (Exists.intro _ (And.intro (And.intro rfl rfl) ?_))
    | (refine PCall_use (ref09_spec a.A b.A ha hb _) ?_; rintro _ _ ⟨rfl, hq⟩; obtain rfl := hq.symm; clear hq)
    | (refine Exists.intro _ (And.intro (fun _ => ref09_spec a.A b.A ha hb _) ?_))
    | (refine Exists.intro _ (And.intro (ref09_spec a.A b.A ha hb _) ?_))
    | (refine Exists.intro _ (Exists.intro _ (And.intro (ref09_spec a.A b.A ha hb _) ?_)))
  all_goals exact hsub _ _ _ _

end Go.Proofs.Ytlbhhoojbokblaa
