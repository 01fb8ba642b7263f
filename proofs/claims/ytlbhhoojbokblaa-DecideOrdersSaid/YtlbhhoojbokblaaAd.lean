/- Contracts of attr.May, decide.Fit, Best, Rule. Conditions: none. -/
import Derived.Test.YtlbhhoojbokblaaAc
set_option linter.unusedVariables false
set_option linter.unusedSimpArgs false
namespace Go.Proofs.Ytlbhhoojbokblaa
open Go.Kern
set_option maxRecDepth 100000
set_option maxHeartbeats 4000000
attribute [local go_sem] drun_nil drun_cons prun_nil prun_cons wrOk tqOk lateOp lateB dstOk ev ofConst leafOf Env.putO Env.get envOf readRs_nil oneRes nilSide SK.isNil isMu fillA partsFit boundA SK.cut SK.cutFull SK.fresh rowOk rowsOk_nil rowsOk_cons rowsOk_append rowsOk_ints splice oneOf keyKind cellsKind cellKind cellsB cellB zeroFits TK.agg AV.cells AV.known AV.one List.set_cons_zero List.set_cons_succ put_same put_put forall_const implies_true exists_eq_left exists_eq_left' exists_eq_right exists_eq Store.Sub.refl and_self Int.toNat_natCast length_ints List.length_map true_and and_true decide_true decide_false if_true if_false Bool.false_eq_true Bool.true_eq_false List.getElem?_cons_zero List.getElem?_cons_succ List.length_cons List.length_nil List.drop_zero List.drop_succ_cons List.take_succ_cons List.take_zero List.drop_nil List.take_nil List.append_nil List.map_cons List.map_nil List.cons_append List.nil_append beq_self_eq_true Bool.false_beq Bool.true_beq Bool.not_true Bool.not_false Option.map_some Option.map_none Option.bind_some ne_eq not_false_eq_true List.contains_cons List.contains_nil Bool.or_false Bool.or_true Bool.and_true Bool.and_false Bool.true_and Bool.false_and List.all_cons List.all_nil Nat.one_ne_zero Nat.zero_ne_one Option.isSome_some Option.isSome_none List.getElem?_toArray beq_true beq_false decide_eq_true_eq Int.toNat_zero forall_ints take_ints drop_ints Int.le_refl Int.natCast_nonneg Nat.zero_add Nat.add_zero or_true true_or false_or or_false
attribute [local go_sem ↓] allocN guardP OpSem callA readRs_cons readR binA intOpA strOpA nilOpA unA convA boxA allocA behind loadA buildA buildSliceA fieldAddrA fieldA indexAddrA indexA lenA sliceA extractA nilCheckA storeA lookupA mapSetA mapDelA makeSliceA appendA appendN apN
attribute [local irreducible] PCall W

def attrMay (a : Attr) : Bool := withinZ a.Pref 0 1048576 && (withinZ a.Med 0 1048576 && (withinZ a.Origin 0 2 && (withinZ a.From 0 65535 && (pathMay a.Path && (commSet a.Comms && clustersZ [] a.Clusters)))))

theorem attrMay_spec (a : Attr) (ha : a.Fits) (σ : Store) :
    PCall Try.prog 26 [.agg [.int .i64 a.Pref, .int .i64 a.Med, .int .i64 a.Origin, .sl a.kP (ints a.Path), .sl a.kC (comms a.Comms), .int .i64 a.From, .sl a.kK (ints a.Clusters)]] σ (fun r s => r = .bool (attrMay a) ∧ s = σ) := by
  obtain ⟨h1, h2, h3⟩ := ha
  refine PCall_q [.tmp 2] 36 Try.func26 (by rfl) rfl rfl rfl rfl ?_
  rcases (Bool.eq_false_or_eq_true (withinZ a.Pref 0 1048576)).symm with b1 | b1
  · skip
    repeat' first
      | refine W_seq ?_
      | refine W_block ?_
      | ((first | refine W_region (mu := []) ?_ | (refine W_region_any [] ⟨[], [], [], [], [], [], 0⟩ mixedOrders_ok (by kernel_rfl) ?_; intro nu hn1 hn2) | refine fn_ret ?_ | refine fn_normal ?_ | refine Hold_P ?_ | refine prun_go ?_ | refine drun_go ?_); simp -dsimp only [go_sem, Nat.reduceLT, Nat.reduceLeDiff, Nat.reduceEqDiff, Nat.reduceAdd, Nat.reduceMul, Int.reduceNeg, Nat.reduceBEq, reduceCtorEq, ↓reduceIte, b1])
      | (refine W_cond rfl (fun h => ?_) (fun h => ?_) <;> (try (cases h; done)))
      | refine W_ret ?_
      | refine W_skip ?_
      | refine W_exit ?_
      | refine then_normal ?_
      | refine then_ret ?_
      | refine then_exit ?_
      | refine inBlock_normal ?_
      | refine inBlock_ret ?_
      | refine inBlock_exit ?_
      | refine inBlock_ne (by decide) ?_
      | refine Hold_E ?_
      | (refine And.intro ?_ ?_; omega)
      | ((first | (refine ite_goB (fun h => ?_) (fun h => ?_) <;> (try exact absurd ((h : _ = false).symm.trans (by assumption : _ = true)) (by decide)) <;> (try exact absurd ((by assumption : _ = false).symm.trans (h : _ = true)) (by decide))) | (refine ite_go (fun h => ?_) (fun h => ?_) <;> (try exact absurd h (by assumption)) <;> (try exact absurd (by assumption) h))) <;> (try refine Hold_P ?_) <;> (try simp -dsimp only [h, go_sem, Nat.reduceLT, Nat.reduceLeDiff, Nat.reduceEqDiff, Nat.reduceAdd, Nat.reduceMul, Int.reduceNeg, Nat.reduceBEq, reduceCtorEq, ↓reduceIte, b1]))
      | refine Exists.intro _ (Exists.intro _ (And.intro (And.intro rfl rfl) ?_))
      | (refine PCall_use (within_spec _ _ _ _) ?_; rintro _ _ ⟨rfl, hq⟩; obtain rfl := hq.symm; clear hq)
      | (refine Exists.intro _ (And.intro (fun _ => within_spec _ _ _ _) ?_))
      | (refine Exists.intro _ (And.intro (within_spec _ _ _ _) ?_))
      | (refine Exists.intro _ (Exists.intro _ (And.intro (within_spec _ _ _ _) ?_)))
      | (refine PCall_use (pathMay_spec _ _ h1 _) ?_; rintro _ _ ⟨rfl, hq⟩; obtain rfl := hq.symm; clear hq)
      | (refine Exists.intro _ (And.intro (fun _ => pathMay_spec _ _ h1 _) ?_))
      | (refine Exists.intro _ (And.intro (pathMay_spec _ _ h1 _) ?_))
      | (refine Exists.intro _ (Exists.intro _ (And.intro (pathMay_spec _ _ h1 _) ?_)))
      | (refine PCall_use (commSet_spec _ _ h2 _) ?_; rintro _ _ ⟨rfl, hq⟩; obtain rfl := hq.symm; clear hq)
      | (refine Exists.intro _ (And.intro (fun _ => commSet_spec _ _ h2 _) ?_))
      | (refine Exists.intro _ (And.intro (commSet_spec _ _ h2 _) ?_))
      | (refine Exists.intro _ (Exists.intro _ (And.intro (commSet_spec _ _ h2 _) ?_)))
      | (refine PCall_use (clusters_spec _ _ h3 _) ?_; rintro _ _ ⟨rfl, hq⟩; obtain rfl := hq.symm; clear hq)
      | (refine Exists.intro _ (And.intro (fun _ => clusters_spec _ _ h3 _) ?_))
      | (refine Exists.intro _ (And.intro (clusters_spec _ _ h3 _) ?_))
      | (refine Exists.intro _ (Exists.intro _ (And.intro (clusters_spec _ _ h3 _) ?_)))
    simp [attrMay, b1]
  rcases (Bool.eq_false_or_eq_true (withinZ a.Med 0 1048576)).symm with b2 | b2
  · skip
    repeat' first
      | refine W_seq ?_
      | refine W_block ?_
      | ((first | refine W_region (mu := []) ?_ | (refine W_region_any [] ⟨[], [], [], [], [], [], 0⟩ mixedOrders_ok (by kernel_rfl) ?_; intro nu hn1 hn2) | refine fn_ret ?_ | refine fn_normal ?_ | refine Hold_P ?_ | refine prun_go ?_ | refine drun_go ?_); simp -dsimp only [go_sem, Nat.reduceLT, Nat.reduceLeDiff, Nat.reduceEqDiff, Nat.reduceAdd, Nat.reduceMul, Int.reduceNeg, Nat.reduceBEq, reduceCtorEq, ↓reduceIte, b1, b2])
      | (refine W_cond rfl (fun h => ?_) (fun h => ?_) <;> (try (cases h; done)))
      | refine W_ret ?_
      | refine W_skip ?_
      | refine W_exit ?_
      | refine then_normal ?_
      | refine then_ret ?_
      | refine then_exit ?_
      | refine inBlock_normal ?_
      | refine inBlock_ret ?_
      | refine inBlock_exit ?_
      | refine inBlock_ne (by decide) ?_
      | refine Hold_E ?_
      | (refine And.intro ?_ ?_; omega)
      | ((first | (refine ite_goB (fun h => ?_) (fun h => ?_) <;> (try exact absurd ((h : _ = false).symm.trans (by assumption : _ = true)) (by decide)) <;> (try exact absurd ((by assumption : _ = false).symm.trans (h : _ = true)) (by decide))) | (refine ite_go (fun h => ?_) (fun h => ?_) <;> (try exact absurd h (by assumption)) <;> (try exact absurd (by assumption) h))) <;> (try refine Hold_P ?_) <;> (try simp -dsimp only [h, go_sem, Nat.reduceLT, Nat.reduceLeDiff, Nat.reduceEqDiff, Nat.reduceAdd, Nat.reduceMul, Int.reduceNeg, Nat.reduceBEq, reduceCtorEq, ↓reduceIte, b1, b2]))
      | refine Exists.intro _ (Exists.intro _ (And.intro (And.intro rfl rfl) ?_))
      | (refine PCall_use (within_spec _ _ _ _) ?_; rintro _ _ ⟨rfl, hq⟩; obtain rfl := hq.symm; clear hq)
      | (refine Exists.intro _ (And.intro (fun _ => within_spec _ _ _ _) ?_))
      | (refine Exists.intro _ (And.intro (within_spec _ _ _ _) ?_))
      | (refine Exists.intro _ (Exists.intro _ (And.intro (within_spec _ _ _ _) ?_)))
      | (refine PCall_use (pathMay_spec _ _ h1 _) ?_; rintro _ _ ⟨rfl, hq⟩; obtain rfl := hq.symm; clear hq)
      | (refine Exists.intro _ (And.intro (fun _ => pathMay_spec _ _ h1 _) ?_))
      | (refine Exists.intro _ (And.intro (pathMay_spec _ _ h1 _) ?_))
      | (refine Exists.intro _ (Exists.intro _ (And.intro (pathMay_spec _ _ h1 _) ?_)))
      | (refine PCall_use (commSet_spec _ _ h2 _) ?_; rintro _ _ ⟨rfl, hq⟩; obtain rfl := hq.symm; clear hq)
      | (refine Exists.intro _ (And.intro (fun _ => commSet_spec _ _ h2 _) ?_))
      | (refine Exists.intro _ (And.intro (commSet_spec _ _ h2 _) ?_))
      | (refine Exists.intro _ (Exists.intro _ (And.intro (commSet_spec _ _ h2 _) ?_)))
      | (refine PCall_use (clusters_spec _ _ h3 _) ?_; rintro _ _ ⟨rfl, hq⟩; obtain rfl := hq.symm; clear hq)
      | (refine Exists.intro _ (And.intro (fun _ => clusters_spec _ _ h3 _) ?_))
      | (refine Exists.intro _ (And.intro (clusters_spec _ _ h3 _) ?_))
      | (refine Exists.intro _ (Exists.intro _ (And.intro (clusters_spec _ _ h3 _) ?_)))
    simp [attrMay, b1, b2]
  rcases (Bool.eq_false_or_eq_true (withinZ a.Origin 0 2)).symm with b3 | b3
  · skip
    repeat' first
      | refine W_seq ?_
      | refine W_block ?_
      | ((first | refine W_region (mu := []) ?_ | (refine W_region_any [] ⟨[], [], [], [], [], [], 0⟩ mixedOrders_ok (by kernel_rfl) ?_; intro nu hn1 hn2) | refine fn_ret ?_ | refine fn_normal ?_ | refine Hold_P ?_ | refine prun_go ?_ | refine drun_go ?_); simp -dsimp only [go_sem, Nat.reduceLT, Nat.reduceLeDiff, Nat.reduceEqDiff, Nat.reduceAdd, Nat.reduceMul, Int.reduceNeg, Nat.reduceBEq, reduceCtorEq, ↓reduceIte, b1, b2, b3])
      | (refine W_cond rfl (fun h => ?_) (fun h => ?_) <;> (try (cases h; done)))
      | refine W_ret ?_
      | refine W_skip ?_
      | refine W_exit ?_
      | refine then_normal ?_
      | refine then_ret ?_
      | refine then_exit ?_
      | refine inBlock_normal ?_
      | refine inBlock_ret ?_
      | refine inBlock_exit ?_
      | refine inBlock_ne (by decide) ?_
      | refine Hold_E ?_
      | (refine And.intro ?_ ?_; omega)
      | ((first | (refine ite_goB (fun h => ?_) (fun h => ?_) <;> (try exact absurd ((h : _ = false).symm.trans (by assumption : _ = true)) (by decide)) <;> (try exact absurd ((by assumption : _ = false).symm.trans (h : _ = true)) (by decide))) | (refine ite_go (fun h => ?_) (fun h => ?_) <;> (try exact absurd h (by assumption)) <;> (try exact absurd (by assumption) h))) <;> (try refine Hold_P ?_) <;> (try simp -dsimp only [h, go_sem, Nat.reduceLT, Nat.reduceLeDiff, Nat.reduceEqDiff, Nat.reduceAdd, Nat.reduceMul, Int.reduceNeg, Nat.reduceBEq, reduceCtorEq, ↓reduceIte, b1, b2, b3]))
      | refine Exists.intro _ (Exists.intro _ (And.intro (And.intro rfl rfl) ?_))
      | (refine PCall_use (within_spec _ _ _ _) ?_; rintro _ _ ⟨rfl, hq⟩; obtain rfl := hq.symm; clear hq)
      | (refine Exists.intro _ (And.intro (fun _ => within_spec _ _ _ _) ?_))
      | (refine Exists.intro _ (And.intro (within_spec _ _ _ _) ?_))
      | (refine Exists.intro _ (Exists.intro _ (And.intro (within_spec _ _ _ _) ?_)))
      | (refine PCall_use (pathMay_spec _ _ h1 _) ?_; rintro _ _ ⟨rfl, hq⟩; obtain rfl := hq.symm; clear hq)
      | (refine Exists.intro _ (And.intro (fun _ => pathMay_spec _ _ h1 _) ?_))
      | (refine Exists.intro _ (And.intro (pathMay_spec _ _ h1 _) ?_))
      | (refine Exists.intro _ (Exists.intro _ (And.intro (pathMay_spec _ _ h1 _) ?_)))
      | (refine PCall_use (commSet_spec _ _ h2 _) ?_; rintro _ _ ⟨rfl, hq⟩; obtain rfl := hq.symm; clear hq)
      | (refine Exists.intro _ (And.intro (fun _ => commSet_spec _ _ h2 _) ?_))
      | (refine Exists.intro _ (And.intro (commSet_spec _ _ h2 _) ?_))
      | (refine Exists.intro _ (Exists.intro _ (And.intro (commSet_spec _ _ h2 _) ?_)))
      | (refine PCall_use (clusters_spec _ _ h3 _) ?_; rintro _ _ ⟨rfl, hq⟩; obtain rfl := hq.symm; clear hq)
      | (refine Exists.intro _ (And.intro (fun _ => clusters_spec _ _ h3 _) ?_))
      | (refine Exists.intro _ (And.intro (clusters_spec _ _ h3 _) ?_))
      | (refine Exists.intro _ (Exists.intro _ (And.intro (clusters_spec _ _ h3 _) ?_)))
    simp [attrMay, b1, b2, b3]
  rcases (Bool.eq_false_or_eq_true (withinZ a.From 0 65535)).symm with b4 | b4
  · skip
    repeat' first
      | refine W_seq ?_
      | refine W_block ?_
      | ((first | refine W_region (mu := []) ?_ | (refine W_region_any [] ⟨[], [], [], [], [], [], 0⟩ mixedOrders_ok (by kernel_rfl) ?_; intro nu hn1 hn2) | refine fn_ret ?_ | refine fn_normal ?_ | refine Hold_P ?_ | refine prun_go ?_ | refine drun_go ?_); simp -dsimp only [go_sem, Nat.reduceLT, Nat.reduceLeDiff, Nat.reduceEqDiff, Nat.reduceAdd, Nat.reduceMul, Int.reduceNeg, Nat.reduceBEq, reduceCtorEq, ↓reduceIte, b1, b2, b3, b4])
      | (refine W_cond rfl (fun h => ?_) (fun h => ?_) <;> (try (cases h; done)))
      | refine W_ret ?_
      | refine W_skip ?_
      | refine W_exit ?_
      | refine then_normal ?_
      | refine then_ret ?_
      | refine then_exit ?_
      | refine inBlock_normal ?_
      | refine inBlock_ret ?_
      | refine inBlock_exit ?_
      | refine inBlock_ne (by decide) ?_
      | refine Hold_E ?_
      | (refine And.intro ?_ ?_; omega)
      | ((first | (refine ite_goB (fun h => ?_) (fun h => ?_) <;> (try exact absurd ((h : _ = false).symm.trans (by assumption : _ = true)) (by decide)) <;> (try exact absurd ((by assumption : _ = false).symm.trans (h : _ = true)) (by decide))) | (refine ite_go (fun h => ?_) (fun h => ?_) <;> (try exact absurd h (by assumption)) <;> (try exact absurd (by assumption) h))) <;> (try refine Hold_P ?_) <;> (try simp -dsimp only [h, go_sem, Nat.reduceLT, Nat.reduceLeDiff, Nat.reduceEqDiff, Nat.reduceAdd, Nat.reduceMul, Int.reduceNeg, Nat.reduceBEq, reduceCtorEq, ↓reduceIte, b1, b2, b3, b4]))
      | refine Exists.intro _ (Exists.intro _ (And.intro (And.intro rfl rfl) ?_))
      | (refine PCall_use (within_spec _ _ _ _) ?_; rintro _ _ ⟨rfl, hq⟩; obtain rfl := hq.symm; clear hq)
      | (refine Exists.intro _ (And.intro (fun _ => within_spec _ _ _ _) ?_))
      | (refine Exists.intro _ (And.intro (within_spec _ _ _ _) ?_))
      | (refine Exists.intro _ (Exists.intro _ (And.intro (within_spec _ _ _ _) ?_)))
      | (refine PCall_use (pathMay_spec _ _ h1 _) ?_; rintro _ _ ⟨rfl, hq⟩; obtain rfl := hq.symm; clear hq)
      | (refine Exists.intro _ (And.intro (fun _ => pathMay_spec _ _ h1 _) ?_))
      | (refine Exists.intro _ (And.intro (pathMay_spec _ _ h1 _) ?_))
      | (refine Exists.intro _ (Exists.intro _ (And.intro (pathMay_spec _ _ h1 _) ?_)))
      | (refine PCall_use (commSet_spec _ _ h2 _) ?_; rintro _ _ ⟨rfl, hq⟩; obtain rfl := hq.symm; clear hq)
      | (refine Exists.intro _ (And.intro (fun _ => commSet_spec _ _ h2 _) ?_))
      | (refine Exists.intro _ (And.intro (commSet_spec _ _ h2 _) ?_))
      | (refine Exists.intro _ (Exists.intro _ (And.intro (commSet_spec _ _ h2 _) ?_)))
      | (refine PCall_use (clusters_spec _ _ h3 _) ?_; rintro _ _ ⟨rfl, hq⟩; obtain rfl := hq.symm; clear hq)
      | (refine Exists.intro _ (And.intro (fun _ => clusters_spec _ _ h3 _) ?_))
      | (refine Exists.intro _ (And.intro (clusters_spec _ _ h3 _) ?_))
      | (refine Exists.intro _ (Exists.intro _ (And.intro (clusters_spec _ _ h3 _) ?_)))
    simp [attrMay, b1, b2, b3, b4]
  rcases (Bool.eq_false_or_eq_true (pathMay a.Path)).symm with b5 | b5
  · skip
    repeat' first
      | refine W_seq ?_
      | refine W_block ?_
      | ((first | refine W_region (mu := []) ?_ | (refine W_region_any [] ⟨[], [], [], [], [], [], 0⟩ mixedOrders_ok (by kernel_rfl) ?_; intro nu hn1 hn2) | refine fn_ret ?_ | refine fn_normal ?_ | refine Hold_P ?_ | refine prun_go ?_ | refine drun_go ?_); simp -dsimp only [go_sem, Nat.reduceLT, Nat.reduceLeDiff, Nat.reduceEqDiff, Nat.reduceAdd, Nat.reduceMul, Int.reduceNeg, Nat.reduceBEq, reduceCtorEq, ↓reduceIte, b1, b2, b3, b4, b5])
      | (refine W_cond rfl (fun h => ?_) (fun h => ?_) <;> (try (cases h; done)))
      | refine W_ret ?_
      | refine W_skip ?_
      | refine W_exit ?_
      | refine then_normal ?_
      | refine then_ret ?_
      | refine then_exit ?_
      | refine inBlock_normal ?_
      | refine inBlock_ret ?_
      | refine inBlock_exit ?_
      | refine inBlock_ne (by decide) ?_
      | refine Hold_E ?_
      | (refine And.intro ?_ ?_; omega)
      | ((first | (refine ite_goB (fun h => ?_) (fun h => ?_) <;> (try exact absurd ((h : _ = false).symm.trans (by assumption : _ = true)) (by decide)) <;> (try exact absurd ((by assumption : _ = false).symm.trans (h : _ = true)) (by decide))) | (refine ite_go (fun h => ?_) (fun h => ?_) <;> (try exact absurd h (by assumption)) <;> (try exact absurd (by assumption) h))) <;> (try refine Hold_P ?_) <;> (try simp -dsimp only [h, go_sem, Nat.reduceLT, Nat.reduceLeDiff, Nat.reduceEqDiff, Nat.reduceAdd, Nat.reduceMul, Int.reduceNeg, Nat.reduceBEq, reduceCtorEq, ↓reduceIte, b1, b2, b3, b4, b5]))
      | refine Exists.intro _ (Exists.intro _ (And.intro (And.intro rfl rfl) ?_))
      | (refine PCall_use (within_spec _ _ _ _) ?_; rintro _ _ ⟨rfl, hq⟩; obtain rfl := hq.symm; clear hq)
      | (refine Exists.intro _ (And.intro (fun _ => within_spec _ _ _ _) ?_))
      | (refine Exists.intro _ (And.intro (within_spec _ _ _ _) ?_))
      | (refine Exists.intro _ (Exists.intro _ (And.intro (within_spec _ _ _ _) ?_)))
      | (refine PCall_use (pathMay_spec _ _ h1 _) ?_; rintro _ _ ⟨rfl, hq⟩; obtain rfl := hq.symm; clear hq)
      | (refine Exists.intro _ (And.intro (fun _ => pathMay_spec _ _ h1 _) ?_))
      | (refine Exists.intro _ (And.intro (pathMay_spec _ _ h1 _) ?_))
      | (refine Exists.intro _ (Exists.intro _ (And.intro (pathMay_spec _ _ h1 _) ?_)))
      | (refine PCall_use (commSet_spec _ _ h2 _) ?_; rintro _ _ ⟨rfl, hq⟩; obtain rfl := hq.symm; clear hq)
      | (refine Exists.intro _ (And.intro (fun _ => commSet_spec _ _ h2 _) ?_))
      | (refine Exists.intro _ (And.intro (commSet_spec _ _ h2 _) ?_))
      | (refine Exists.intro _ (Exists.intro _ (And.intro (commSet_spec _ _ h2 _) ?_)))
      | (refine PCall_use (clusters_spec _ _ h3 _) ?_; rintro _ _ ⟨rfl, hq⟩; obtain rfl := hq.symm; clear hq)
      | (refine Exists.intro _ (And.intro (fun _ => clusters_spec _ _ h3 _) ?_))
      | (refine Exists.intro _ (And.intro (clusters_spec _ _ h3 _) ?_))
      | (refine Exists.intro _ (Exists.intro _ (And.intro (clusters_spec _ _ h3 _) ?_)))
    simp [attrMay, b1, b2, b3, b4, b5]
  rcases (Bool.eq_false_or_eq_true (commSet a.Comms)).symm with b6 | b6
  · skip
    repeat' first
      | refine W_seq ?_
      | refine W_block ?_
      | ((first | refine W_region (mu := []) ?_ | (refine W_region_any [] ⟨[], [], [], [], [], [], 0⟩ mixedOrders_ok (by kernel_rfl) ?_; intro nu hn1 hn2) | refine fn_ret ?_ | refine fn_normal ?_ | refine Hold_P ?_ | refine prun_go ?_ | refine drun_go ?_); simp -dsimp only [go_sem, Nat.reduceLT, Nat.reduceLeDiff, Nat.reduceEqDiff, Nat.reduceAdd, Nat.reduceMul, Int.reduceNeg, Nat.reduceBEq, reduceCtorEq, ↓reduceIte, b1, b2, b3, b4, b5, b6])
      | (refine W_cond rfl (fun h => ?_) (fun h => ?_) <;> (try (cases h; done)))
      | refine W_ret ?_
      | refine W_skip ?_
      | refine W_exit ?_
      | refine then_normal ?_
      | refine then_ret ?_
      | refine then_exit ?_
      | refine inBlock_normal ?_
      | refine inBlock_ret ?_
      | refine inBlock_exit ?_
      | refine inBlock_ne (by decide) ?_
      | refine Hold_E ?_
      | (refine And.intro ?_ ?_; omega)
      | ((first | (refine ite_goB (fun h => ?_) (fun h => ?_) <;> (try exact absurd ((h : _ = false).symm.trans (by assumption : _ = true)) (by decide)) <;> (try exact absurd ((by assumption : _ = false).symm.trans (h : _ = true)) (by decide))) | (refine ite_go (fun h => ?_) (fun h => ?_) <;> (try exact absurd h (by assumption)) <;> (try exact absurd (by assumption) h))) <;> (try refine Hold_P ?_) <;> (try simp -dsimp only [h, go_sem, Nat.reduceLT, Nat.reduceLeDiff, Nat.reduceEqDiff, Nat.reduceAdd, Nat.reduceMul, Int.reduceNeg, Nat.reduceBEq, reduceCtorEq, ↓reduceIte, b1, b2, b3, b4, b5, b6]))
      | refine Exists.intro _ (Exists.intro _ (And.intro (And.intro rfl rfl) ?_))
      | (refine PCall_use (within_spec _ _ _ _) ?_; rintro _ _ ⟨rfl, hq⟩; obtain rfl := hq.symm; clear hq)
      | (refine Exists.intro _ (And.intro (fun _ => within_spec _ _ _ _) ?_))
      | (refine Exists.intro _ (And.intro (within_spec _ _ _ _) ?_))
      | (refine Exists.intro _ (Exists.intro _ (And.intro (within_spec _ _ _ _) ?_)))
      | (refine PCall_use (pathMay_spec _ _ h1 _) ?_; rintro _ _ ⟨rfl, hq⟩; obtain rfl := hq.symm; clear hq)
      | (refine Exists.intro _ (And.intro (fun _ => pathMay_spec _ _ h1 _) ?_))
      | (refine Exists.intro _ (And.intro (pathMay_spec _ _ h1 _) ?_))
      | (refine Exists.intro _ (Exists.intro _ (And.intro (pathMay_spec _ _ h1 _) ?_)))
      | (refine PCall_use (commSet_spec _ _ h2 _) ?_; rintro _ _ ⟨rfl, hq⟩; obtain rfl := hq.symm; clear hq)
      | (refine Exists.intro _ (And.intro (fun _ => commSet_spec _ _ h2 _) ?_))
      | (refine Exists.intro _ (And.intro (commSet_spec _ _ h2 _) ?_))
      | (refine Exists.intro _ (Exists.intro _ (And.intro (commSet_spec _ _ h2 _) ?_)))
      | (refine PCall_use (clusters_spec _ _ h3 _) ?_; rintro _ _ ⟨rfl, hq⟩; obtain rfl := hq.symm; clear hq)
      | (refine Exists.intro _ (And.intro (fun _ => clusters_spec _ _ h3 _) ?_))
      | (refine Exists.intro _ (And.intro (clusters_spec _ _ h3 _) ?_))
      | (refine Exists.intro _ (Exists.intro _ (And.intro (clusters_spec _ _ h3 _) ?_)))
    simp [attrMay, b1, b2, b3, b4, b5, b6]
  rcases (Bool.eq_false_or_eq_true (clustersZ [] a.Clusters)).symm with b7 | b7
  · skip
    repeat' first
      | refine W_seq ?_
      | refine W_block ?_
      | ((first | refine W_region (mu := []) ?_ | (refine W_region_any [] ⟨[], [], [], [], [], [], 0⟩ mixedOrders_ok (by kernel_rfl) ?_; intro nu hn1 hn2) | refine fn_ret ?_ | refine fn_normal ?_ | refine Hold_P ?_ | refine prun_go ?_ | refine drun_go ?_); simp -dsimp only [go_sem, Nat.reduceLT, Nat.reduceLeDiff, Nat.reduceEqDiff, Nat.reduceAdd, Nat.reduceMul, Int.reduceNeg, Nat.reduceBEq, reduceCtorEq, ↓reduceIte, b1, b2, b3, b4, b5, b6, b7])
      | (refine W_cond rfl (fun h => ?_) (fun h => ?_) <;> (try (cases h; done)))
      | refine W_ret ?_
      | refine W_skip ?_
      | refine W_exit ?_
      | refine then_normal ?_
      | refine then_ret ?_
      | refine then_exit ?_
      | refine inBlock_normal ?_
      | refine inBlock_ret ?_
      | refine inBlock_exit ?_
      | refine inBlock_ne (by decide) ?_
      | refine Hold_E ?_
      | (refine And.intro ?_ ?_; omega)
      | ((first | (refine ite_goB (fun h => ?_) (fun h => ?_) <;> (try exact absurd ((h : _ = false).symm.trans (by assumption : _ = true)) (by decide)) <;> (try exact absurd ((by assumption : _ = false).symm.trans (h : _ = true)) (by decide))) | (refine ite_go (fun h => ?_) (fun h => ?_) <;> (try exact absurd h (by assumption)) <;> (try exact absurd (by assumption) h))) <;> (try refine Hold_P ?_) <;> (try simp -dsimp only [h, go_sem, Nat.reduceLT, Nat.reduceLeDiff, Nat.reduceEqDiff, Nat.reduceAdd, Nat.reduceMul, Int.reduceNeg, Nat.reduceBEq, reduceCtorEq, ↓reduceIte, b1, b2, b3, b4, b5, b6, b7]))
      | refine Exists.intro _ (Exists.intro _ (And.intro (And.intro rfl rfl) ?_))
      | (refine PCall_use (within_spec _ _ _ _) ?_; rintro _ _ ⟨rfl, hq⟩; obtain rfl := hq.symm; clear hq)
      | (refine Exists.intro _ (And.intro (fun _ => within_spec _ _ _ _) ?_))
      | (refine Exists.intro _ (And.intro (within_spec _ _ _ _) ?_))
      | (refine Exists.intro _ (Exists.intro _ (And.intro (within_spec _ _ _ _) ?_)))
      | (refine PCall_use (pathMay_spec _ _ h1 _) ?_; rintro _ _ ⟨rfl, hq⟩; obtain rfl := hq.symm; clear hq)
      | (refine Exists.intro _ (And.intro (fun _ => pathMay_spec _ _ h1 _) ?_))
      | (refine Exists.intro _ (And.intro (pathMay_spec _ _ h1 _) ?_))
      | (refine Exists.intro _ (Exists.intro _ (And.intro (pathMay_spec _ _ h1 _) ?_)))
      | (refine PCall_use (commSet_spec _ _ h2 _) ?_; rintro _ _ ⟨rfl, hq⟩; obtain rfl := hq.symm; clear hq)
      | (refine Exists.intro _ (And.intro (fun _ => commSet_spec _ _ h2 _) ?_))
      | (refine Exists.intro _ (And.intro (commSet_spec _ _ h2 _) ?_))
      | (refine Exists.intro _ (Exists.intro _ (And.intro (commSet_spec _ _ h2 _) ?_)))
      | (refine PCall_use (clusters_spec _ _ h3 _) ?_; rintro _ _ ⟨rfl, hq⟩; obtain rfl := hq.symm; clear hq)
      | (refine Exists.intro _ (And.intro (fun _ => clusters_spec _ _ h3 _) ?_))
      | (refine Exists.intro _ (And.intro (clusters_spec _ _ h3 _) ?_))
      | (refine Exists.intro _ (Exists.intro _ (And.intro (clusters_spec _ _ h3 _) ?_)))
    simp [attrMay, b1, b2, b3, b4, b5, b6, b7]
  repeat' first
    | refine W_seq ?_
    | refine W_block ?_
    | ((first | refine W_region (mu := []) ?_ | (refine W_region_any [] ⟨[], [], [], [], [], [], 0⟩ mixedOrders_ok (by kernel_rfl) ?_; intro nu hn1 hn2) | refine fn_ret ?_ | refine fn_normal ?_ | refine Hold_P ?_ | refine prun_go ?_ | refine drun_go ?_); simp -dsimp only [go_sem, Nat.reduceLT, Nat.reduceLeDiff, Nat.reduceEqDiff, Nat.reduceAdd, Nat.reduceMul, Int.reduceNeg, Nat.reduceBEq, reduceCtorEq, ↓reduceIte, b1, b2, b3, b4, b5, b6, b7])
    | (refine W_cond rfl (fun h => ?_) (fun h => ?_) <;> (try (cases h; done)))
    | refine W_ret ?_
    | refine W_skip ?_
    | refine W_exit ?_
    | refine then_normal ?_
    | refine then_ret ?_
    | refine then_exit ?_
    | refine inBlock_normal ?_
    | refine inBlock_ret ?_
    | refine inBlock_exit ?_
    | refine inBlock_ne (by decide) ?_
    | refine Hold_E ?_
    | (refine And.intro ?_ ?_; omega)
    | ((first | (refine ite_goB (fun h => ?_) (fun h => ?_) <;> (try exact absurd ((h : _ = false).symm.trans (by assumption : _ = true)) (by decide)) <;> (try exact absurd ((by assumption : _ = false).symm.trans (h : _ = true)) (by decide))) | (refine ite_go (fun h => ?_) (fun h => ?_) <;> (try exact absurd h (by assumption)) <;> (try exact absurd (by assumption) h))) <;> (try refine Hold_P ?_) <;> (try simp -dsimp only [h, go_sem, Nat.reduceLT, Nat.reduceLeDiff, Nat.reduceEqDiff, Nat.reduceAdd, Nat.reduceMul, Int.reduceNeg, Nat.reduceBEq, reduceCtorEq, ↓reduceIte, b1, b2, b3, b4, b5, b6, b7]))
    | refine Exists.intro _ (Exists.intro _ (And.intro (And.intro rfl rfl) ?_))
    | (refine PCall_use (within_spec _ _ _ _) ?_; rintro _ _ ⟨rfl, hq⟩; obtain rfl := hq.symm; clear hq)
    | (refine Exists.intro _ (And.intro (fun _ => within_spec _ _ _ _) ?_))
    | (refine Exists.intro _ (And.intro (within_spec _ _ _ _) ?_))
    | (refine Exists.intro _ (Exists.intro _ (And.intro (within_spec _ _ _ _) ?_)))
    | (refine PCall_use (pathMay_spec _ _ h1 _) ?_; rintro _ _ ⟨rfl, hq⟩; obtain rfl := hq.symm; clear hq)
    | (refine Exists.intro _ (And.intro (fun _ => pathMay_spec _ _ h1 _) ?_))
    | (refine Exists.intro _ (And.intro (pathMay_spec _ _ h1 _) ?_))
    | (refine Exists.intro _ (Exists.intro _ (And.intro (pathMay_spec _ _ h1 _) ?_)))
    | (refine PCall_use (commSet_spec _ _ h2 _) ?_; rintro _ _ ⟨rfl, hq⟩; obtain rfl := hq.symm; clear hq)
    | (refine Exists.intro _ (And.intro (fun _ => commSet_spec _ _ h2 _) ?_))
    | (refine Exists.intro _ (And.intro (commSet_spec _ _ h2 _) ?_))
    | (refine Exists.intro _ (Exists.intro _ (And.intro (commSet_spec _ _ h2 _) ?_)))
    | (refine PCall_use (clusters_spec _ _ h3 _) ?_; rintro _ _ ⟨rfl, hq⟩; obtain rfl := hq.symm; clear hq)
    | (refine Exists.intro _ (And.intro (fun _ => clusters_spec _ _ h3 _) ?_))
    | (refine Exists.intro _ (And.intro (clusters_spec _ _ h3 _) ?_))
    | (refine Exists.intro _ (Exists.intro _ (And.intro (clusters_spec _ _ h3 _) ?_)))
  simp [attrMay, b1, b2, b3, b4, b5, b6, b7]

def candFit (c : Cand) : Bool := !decide (c.Far = -1) && attrMay c.A

theorem fit_spec (c : Cand) (hc : c.A.Fits) (σ : Store) : PCall Try.prog 13 [.agg c.cells] σ (fun r s => r = .bool (candFit c) ∧ s = σ) := by
  refine PCall_q [.tmp 2] 12 Try.func13 (by rfl) rfl rfl rfl rfl ?_
  repeat' first
    | refine W_seq ?_
    | refine W_block ?_
    | ((first | refine W_region (mu := []) ?_ | (refine W_region_any [] ⟨[], [], [], [], [], [], 0⟩ mixedOrders_ok (by kernel_rfl) ?_; intro nu hn1 hn2) | refine fn_ret ?_ | refine fn_normal ?_ | refine Hold_P ?_ | refine prun_go ?_ | refine drun_go ?_); simp -dsimp only [go_sem, Nat.reduceLT, Nat.reduceLeDiff, Nat.reduceEqDiff, Nat.reduceAdd, Nat.reduceMul, Int.reduceNeg, Nat.reduceBEq, reduceCtorEq, ↓reduceIte, Cand.cells])
    | (refine W_cond rfl (fun h => ?_) (fun h => ?_) <;> (try (cases h; done)))
    | refine W_ret ?_
    | refine W_skip ?_
    | refine W_exit ?_
    | refine then_normal ?_
    | refine then_ret ?_
    | refine then_exit ?_
    | refine inBlock_normal ?_
    | refine inBlock_ret ?_
    | refine inBlock_exit ?_
    | refine inBlock_ne (by decide) ?_
    | refine Hold_E ?_
    | (refine And.intro ?_ ?_; omega)
    | ((first | (refine ite_goB (fun h => ?_) (fun h => ?_) <;> (try exact absurd ((h : _ = false).symm.trans (by assumption : _ = true)) (by decide)) <;> (try exact absurd ((by assumption : _ = false).symm.trans (h : _ = true)) (by decide))) | (refine ite_go (fun h => ?_) (fun h => ?_) <;> (try exact absurd h (by assumption)) <;> (try exact absurd (by assumption) h))) <;> (try refine Hold_P ?_) <;> (try simp -dsimp only [h, go_sem, Nat.reduceLT, Nat.reduceLeDiff, Nat.reduceEqDiff, Nat.reduceAdd, Nat.reduceMul, Int.reduceNeg, Nat.reduceBEq, reduceCtorEq, ↓reduceIte, Cand.cells]))
    | refine Exists.intro _ (Exists.intro _ (And.intro (And.intro rfl rfl) ?_))
    | (refine PCall_use (attrMay_spec _ hc _) ?_; rintro _ _ ⟨rfl, hq⟩; obtain rfl := hq.symm; clear hq)
    | (refine Exists.intro _ (And.intro (fun _ => attrMay_spec _ hc _) ?_))
    | (refine Exists.intro _ (And.intro (attrMay_spec _ hc _) ?_))
    | (refine Exists.intro _ (Exists.intro _ (And.intro (attrMay_spec _ hc _) ?_)))
  all_goals simp_all [candFit]

theorem rule2_spec (σ : Store) : PCall Try.prog 21 [.int .i64 2] σ (fun r s => r = .str ⟨#[112, 114, 101, 102]⟩ ∧ s = σ) := by
  have hw : IntKind.i64.wrap (2 - 1) = 1 := by decide
  have ht : Int.toNat 1 = 1 := rfl
  have hi : ((1 : Int) < ((10 : Nat) : Int)) = True := by simp
  have hz : ((0 : Int) ≤ 1) = True := by simp
  refine PCall_q [.tmp 2] 18 Try.func21 (by rfl) rfl rfl rfl rfl ?_
  repeat' first
    | refine W_seq ?_
    | refine W_block ?_
    | ((first | refine W_region (mu := []) ?_ | (refine W_region_any [] ⟨[], [], [], [], [], [], 0⟩ mixedOrders_ok (by kernel_rfl) ?_; intro nu hn1 hn2) | refine fn_ret ?_ | refine fn_normal ?_ | refine Hold_P ?_ | refine prun_go ?_ | refine drun_go ?_); simp -dsimp only [go_sem, Nat.reduceLT, Nat.reduceLeDiff, Nat.reduceEqDiff, Nat.reduceAdd, Nat.reduceMul, Int.reduceNeg, Nat.reduceBEq, reduceCtorEq, ↓reduceIte, hw, ht, hi, hz, List.getD_cons_succ, List.getD_cons_zero])
    | (refine W_cond rfl (fun h => ?_) (fun h => ?_) <;> (try (cases h; done)))
    | refine W_ret ?_
    | refine W_skip ?_
    | refine W_exit ?_
    | refine then_normal ?_
    | refine then_ret ?_
    | refine then_exit ?_
    | refine inBlock_normal ?_
    | refine inBlock_ret ?_
    | refine inBlock_exit ?_
    | refine inBlock_ne (by decide) ?_
    | refine Hold_E ?_
    | (refine And.intro ?_ ?_; omega)
    | ((first | (refine ite_goB (fun h => ?_) (fun h => ?_) <;> (try exact absurd ((h : _ = false).symm.trans (by assumption : _ = true)) (by decide)) <;> (try exact absurd ((by assumption : _ = false).symm.trans (h : _ = true)) (by decide))) | (refine ite_go (fun h => ?_) (fun h => ?_) <;> (try exact absurd h (by assumption)) <;> (try exact absurd (by assumption) h))) <;> (try refine Hold_P ?_) <;> (try simp -dsimp only [h, go_sem, Nat.reduceLT, Nat.reduceLeDiff, Nat.reduceEqDiff, Nat.reduceAdd, Nat.reduceMul, Int.reduceNeg, Nat.reduceBEq, reduceCtorEq, ↓reduceIte, hw, ht, hi, hz, List.getD_cons_succ, List.getD_cons_zero]))
    | refine Exists.intro _ (Exists.intro _ (And.intro (And.intro rfl rfl) ?_))

def cands (l : List Cand) : List AV := l.map fun c => .agg c.cells
theorem length_cands (l : List Cand) : (cands l).length = l.length := by simp [cands]
def noCand : Cand := ⟨⟨0, 0, 0, .nil, [], .nil, [], 0, .nil, []⟩, 0, 0, false, 0⟩
theorem getD_cands {l : List Cand} {i : Nat} (h : i < l.length) : (cands l).getD i .any = .agg (l.getD i noCand).cells := getD_map (fun c : Cand => AV.agg c.cells) noCand h

/-- The best from place i on, when b is the best so far. -/
def bestZ (all : List Cand) : Int → Int → List Cand → Int
  | b, _, [] => b
  | b, i, c :: l => if candFit c = true then (if b < 0 then bestZ all i (i + 1) l else if (decCmp c (all.getD b.toNat noCand)).1 < 0 then bestZ all i (i + 1) l else bestZ all b (i + 1) l) else bestZ all b (i + 1) l

theorem bestZ_drop (all l : List Cand) (b : Int) (i : Nat) (h : i < l.length) (k : Int) : bestZ all b k (l.drop i) = if candFit (l.getD i noCand) = true then (if b < 0 then bestZ all k (k + 1) (l.drop (i + 1)) else if (decCmp (l.getD i noCand) (all.getD b.toNat noCand)).1 < 0 then bestZ all k (k + 1) (l.drop (i + 1)) else bestZ all b (k + 1) (l.drop (i + 1))) else bestZ all b (k + 1) (l.drop (i + 1)) := by
  rw [List.drop_eq_getElem_cons h, bestZ]
  have hg : l[i] = l.getD i noCand := by simp [List.getD_eq_getElem?_getD, h]
  rw [hg]

theorem best_spec (k : SK) (l : List Cand) (hl : l.length < 4611686018427387904) (hf : ∀ c, c ∈ l → c.A.Fits) (σ : Store) :
    PCall Try.prog 15 [.sl k (cands l)] σ (fun r s => r = .int .i64 (bestZ l (-1) 0 l) ∧ s = σ) := by
  refine PCall_q [.tmp 2] 35 Try.func15 (by rfl) rfl rfl rfl rfl ?_
  repeat' first
    | refine W_seq ?_
    | refine W_block ?_
    | ((first | refine W_region (mu := []) ?_ | (refine W_region_any [] ⟨[], [], [], [], [], [], 0⟩ mixedOrders_ok (by kernel_rfl) ?_; intro nu hn1 hn2) | refine fn_ret ?_ | refine fn_normal ?_ | refine Hold_P ?_ | refine prun_go ?_ | refine drun_go ?_); simp -dsimp only [go_sem, Nat.reduceLT, Nat.reduceLeDiff, Nat.reduceEqDiff, Nat.reduceAdd, Nat.reduceMul, Int.reduceNeg, Nat.reduceBEq, reduceCtorEq, ↓reduceIte, length_cands])
    | (refine W_cond rfl (fun h => ?_) (fun h => ?_) <;> (try (cases h; done)))
    | refine W_ret ?_
    | refine W_skip ?_
    | refine W_exit ?_
    | refine then_normal ?_
    | refine then_ret ?_
    | refine then_exit ?_
    | refine inBlock_normal ?_
    | refine inBlock_ret ?_
    | refine inBlock_exit ?_
    | refine inBlock_ne (by decide) ?_
    | refine Hold_E ?_
    | (refine And.intro ?_ ?_; omega)
    | ((first | (refine ite_goB (fun h => ?_) (fun h => ?_) <;> (try exact absurd ((h : _ = false).symm.trans (by assumption : _ = true)) (by decide)) <;> (try exact absurd ((by assumption : _ = false).symm.trans (h : _ = true)) (by decide))) | (refine ite_go (fun h => ?_) (fun h => ?_) <;> (try exact absurd h (by assumption)) <;> (try exact absurd (by assumption) h))) <;> (try refine Hold_P ?_) <;> (try simp -dsimp only [h, go_sem, Nat.reduceLT, Nat.reduceLeDiff, Nat.reduceEqDiff, Nat.reduceAdd, Nat.reduceMul, Int.reduceNeg, Nat.reduceBEq, reduceCtorEq, ↓reduceIte, length_cands]))
    | refine Exists.intro _ (Exists.intro _ (And.intro (And.intro rfl rfl) ?_))
  refine W_loop_st (fun x : Nat × Int => [(0, .sl k (cands l)), (3, .int .i64 x.2), (8, .sl k (cands l)), (9, .int .i64 l.length), (10, .int .i64 x.1)]) (fun _ => σ) (fun x => x.1 ≤ l.length ∧ -1 ≤ x.2 ∧ x.2 < x.1 ∧ bestZ l (-1) 0 l = bestZ l x.2 x.1 (l.drop x.1)) (fun x => l.length - x.1) (0, -1) ⟨Nat.zero_le _, by omega, by omega, rfl⟩ (Env.Sub_of_has (by simp [Env.Has, Env.get])) (Store.Sub.refl _) ?_
  rintro ⟨i, b⟩ ⟨hi, hb1, hb2, hor⟩
  simp only at hi hb1 hb2 hor
  by_cases hlt : i < l.length
  · have hx := getD_cands hlt
    have hd : decide ((i : Int) < (l.length : Int)) = true := decT (by omega)
    have hfi : (l.getD i noCand).A.Fits := hf _ (by rw [List.getD_eq_getElem?_getD, List.getElem?_eq_getElem hlt]; exact List.getElem_mem hlt)
    have ho := bestZ_drop l l b i hlt i
    rcases Bool.eq_false_or_eq_true (candFit (l.getD i noCand)) with hc | hc
    · by_cases hb : b < 0
      · rw [if_pos hc, if_pos hb] at ho
        have hb' : decide (b < 0) = true := decT hb
        repeat' first
          | refine W_seq ?_
          | refine W_block ?_
          | ((first | refine W_region (mu := []) ?_ | (refine W_region_any (id := 8) [] ⟨[0], [], [], [], [], [], 0⟩ mixedOrders_ok (by kernel_rfl) ?_; intro nu hn1 hn2) | (refine W_region_any [] ⟨[], [], [], [], [], [], 0⟩ mixedOrders_ok (by kernel_rfl) ?_; intro nu hn1 hn2) | refine fn_ret ?_ | refine fn_normal ?_ | refine Hold_P ?_ | refine prun_go ?_ | refine drun_go ?_); simp -dsimp only [go_sem, Nat.reduceLT, Nat.reduceLeDiff, Nat.reduceEqDiff, Nat.reduceAdd, Nat.reduceMul, Int.reduceNeg, Nat.reduceBEq, reduceCtorEq, ↓reduceIte, length_cands, hx, hd, Cand.cells])
          | (refine W_cond rfl (fun h => ?_) (fun h => ?_) <;> (try (cases h; done)))
          | refine W_ret ?_
          | refine W_skip ?_
          | refine W_exit ?_
          | refine then_normal ?_
          | refine then_ret ?_
          | refine then_exit ?_
          | refine inBlock_normal ?_
          | refine inBlock_ret ?_
          | refine inBlock_exit ?_
          | refine inBlock_ne (by decide) ?_
          | refine Hold_E ?_
          | (refine And.intro ?_ ?_; omega)
          | ((first | (refine ite_goB (fun h => ?_) (fun h => ?_) <;> (try exact absurd ((h : _ = false).symm.trans (by assumption : _ = true)) (by decide)) <;> (try exact absurd ((by assumption : _ = false).symm.trans (h : _ = true)) (by decide))) | (refine ite_go (fun h => ?_) (fun h => ?_) <;> (try exact absurd h (by assumption)) <;> (try exact absurd (by assumption) h))) <;> (try refine Hold_P ?_) <;> (try simp -dsimp only [h, go_sem, Nat.reduceLT, Nat.reduceLeDiff, Nat.reduceEqDiff, Nat.reduceAdd, Nat.reduceMul, Int.reduceNeg, Nat.reduceBEq, reduceCtorEq, ↓reduceIte, length_cands, hx, hd, Cand.cells]))
          | refine Exists.intro _ (Exists.intro _ (And.intro (And.intro rfl rfl) ?_))
        intro o1 ho1
        repeat' first
          | refine W_seq ?_
          | refine W_block ?_
          | ((first | refine W_region (mu := []) ?_ | (refine W_region_any (id := 8) [] ⟨[0], [], [], [], [], [], 0⟩ mixedOrders_ok (by kernel_rfl) ?_; intro nu hn1 hn2) | (refine W_region_any [] ⟨[], [], [], [], [], [], 0⟩ mixedOrders_ok (by kernel_rfl) ?_; intro nu hn1 hn2) | refine fn_ret ?_ | refine fn_normal ?_ | refine Hold_P ?_ | refine prun_go ?_ | refine drun_go ?_); simp -dsimp only [go_sem, Nat.reduceLT, Nat.reduceLeDiff, Nat.reduceEqDiff, Nat.reduceAdd, Nat.reduceMul, Int.reduceNeg, Nat.reduceBEq, reduceCtorEq, ↓reduceIte, length_cands, hx, hd, Cand.cells, hc, hb'])
          | (refine W_cond rfl (fun h => ?_) (fun h => ?_) <;> (try (cases h; done)))
          | refine W_ret ?_
          | refine W_skip ?_
          | refine W_exit ?_
          | refine then_normal ?_
          | refine then_ret ?_
          | refine then_exit ?_
          | refine inBlock_normal ?_
          | refine inBlock_ret ?_
          | refine inBlock_exit ?_
          | refine inBlock_ne (by decide) ?_
          | refine Hold_E ?_
          | (refine And.intro ?_ ?_; omega)
          | ((first | (refine ite_goB (fun h => ?_) (fun h => ?_) <;> (try exact absurd ((h : _ = false).symm.trans (by assumption : _ = true)) (by decide)) <;> (try exact absurd ((by assumption : _ = false).symm.trans (h : _ = true)) (by decide))) | (refine ite_go (fun h => ?_) (fun h => ?_) <;> (try exact absurd h (by assumption)) <;> (try exact absurd (by assumption) h))) <;> (try refine Hold_P ?_) <;> (try simp -dsimp only [h, go_sem, Nat.reduceLT, Nat.reduceLeDiff, Nat.reduceEqDiff, Nat.reduceAdd, Nat.reduceMul, Int.reduceNeg, Nat.reduceBEq, reduceCtorEq, ↓reduceIte, length_cands, hx, hd, Cand.cells, hc, hb']))
          | refine Exists.intro _ (Exists.intro _ (And.intro (And.intro rfl rfl) ?_))
          | (refine PCall_use (fit_spec (l.getD i noCand) hfi _) ?_; rintro _ _ ⟨rfl, hq⟩; obtain rfl := hq.symm; clear hq)
          | (refine Exists.intro _ (And.intro (fun _ => fit_spec (l.getD i noCand) hfi _) ?_))
          | (refine Exists.intro _ (And.intro (fit_spec (l.getD i noCand) hfi _) ?_))
          | (refine Exists.intro _ (Exists.intro _ (And.intro (fit_spec (l.getD i noCand) hfi _) ?_)))
        exact ⟨(i + 1, i), by simp only; omega, ⟨by simp only; omega, by simp only; omega, by simp only; omega, by rw [hor, ho]; rfl⟩, Env.Sub_of_has (by simp [Env.Has, Env.get, wrap_succ (show i < 4611686018427387904 by omega)]), Sub_put (Store.Sub.refl _) ho1 _⟩
      · have hbi : b.toNat < l.length := by omega
        have hb' : decide (b < 0) = false := decF hb
        have hbz : (0 ≤ b) = True := by simp; omega
        have hbl : (b < (l.length : Int)) = True := by simp; omega
        have hxb := getD_cands hbi
        have hfb : (l.getD b.toNat noCand).A.Fits := hf _ (by rw [List.getD_eq_getElem?_getD, List.getElem?_eq_getElem hbi]; exact List.getElem_mem hbi)
        rw [if_pos hc, if_neg hb] at ho
        repeat' first
          | refine W_seq ?_
          | refine W_block ?_
          | ((first | refine W_region (mu := []) ?_ | (refine W_region_any (id := 8) [] ⟨[0], [], [], [], [], [], 0⟩ mixedOrders_ok (by kernel_rfl) ?_; intro nu hn1 hn2) | (refine W_region_any [] ⟨[], [], [], [], [], [], 0⟩ mixedOrders_ok (by kernel_rfl) ?_; intro nu hn1 hn2) | refine fn_ret ?_ | refine fn_normal ?_ | refine Hold_P ?_ | refine prun_go ?_ | refine drun_go ?_); simp -dsimp only [go_sem, Nat.reduceLT, Nat.reduceLeDiff, Nat.reduceEqDiff, Nat.reduceAdd, Nat.reduceMul, Int.reduceNeg, Nat.reduceBEq, reduceCtorEq, ↓reduceIte, length_cands, hx, hd, Cand.cells])
          | (refine W_cond rfl (fun h => ?_) (fun h => ?_) <;> (try (cases h; done)))
          | refine W_ret ?_
          | refine W_skip ?_
          | refine W_exit ?_
          | refine then_normal ?_
          | refine then_ret ?_
          | refine then_exit ?_
          | refine inBlock_normal ?_
          | refine inBlock_ret ?_
          | refine inBlock_exit ?_
          | refine inBlock_ne (by decide) ?_
          | refine Hold_E ?_
          | (refine And.intro ?_ ?_; omega)
          | ((first | (refine ite_goB (fun h => ?_) (fun h => ?_) <;> (try exact absurd ((h : _ = false).symm.trans (by assumption : _ = true)) (by decide)) <;> (try exact absurd ((by assumption : _ = false).symm.trans (h : _ = true)) (by decide))) | (refine ite_go (fun h => ?_) (fun h => ?_) <;> (try exact absurd h (by assumption)) <;> (try exact absurd (by assumption) h))) <;> (try refine Hold_P ?_) <;> (try simp -dsimp only [h, go_sem, Nat.reduceLT, Nat.reduceLeDiff, Nat.reduceEqDiff, Nat.reduceAdd, Nat.reduceMul, Int.reduceNeg, Nat.reduceBEq, reduceCtorEq, ↓reduceIte, length_cands, hx, hd, Cand.cells]))
          | refine Exists.intro _ (Exists.intro _ (And.intro (And.intro rfl rfl) ?_))
        intro o1 ho1
        by_cases hq : (decCmp (l.getD i noCand) (l.getD b.toNat noCand)).1 < 0
        · have hq' : decide ((decCmp (l.getD i noCand) (l.getD b.toNat noCand)).1 < 0) = true := decT hq
          rw [if_pos hq] at ho
          repeat' first
            | refine W_seq ?_
            | refine W_block ?_
            | ((first | refine W_region (mu := []) ?_ | (refine W_region_any (id := 8) [] ⟨[0], [], [], [], [], [], 0⟩ mixedOrders_ok (by kernel_rfl) ?_; intro nu hn1 hn2) | (refine W_region_any [] ⟨[], [], [], [], [], [], 0⟩ mixedOrders_ok (by kernel_rfl) ?_; intro nu hn1 hn2) | refine fn_ret ?_ | refine fn_normal ?_ | refine Hold_P ?_ | refine prun_go ?_ | refine drun_go ?_); simp -dsimp only [go_sem, Nat.reduceLT, Nat.reduceLeDiff, Nat.reduceEqDiff, Nat.reduceAdd, Nat.reduceMul, Int.reduceNeg, Nat.reduceBEq, reduceCtorEq, ↓reduceIte, length_cands, hx, hxb, hbz, hbl, hd, Cand.cells, hc, hb', hq'])
            | (refine W_cond rfl (fun h => ?_) (fun h => ?_) <;> (try (cases h; done)))
            | refine W_ret ?_
            | refine W_skip ?_
            | refine W_exit ?_
            | refine then_normal ?_
            | refine then_ret ?_
            | refine then_exit ?_
            | refine inBlock_normal ?_
            | refine inBlock_ret ?_
            | refine inBlock_exit ?_
            | refine inBlock_ne (by decide) ?_
            | refine Hold_E ?_
            | (refine And.intro ?_ ?_; omega)
            | ((first | (refine ite_goB (fun h => ?_) (fun h => ?_) <;> (try exact absurd ((h : _ = false).symm.trans (by assumption : _ = true)) (by decide)) <;> (try exact absurd ((by assumption : _ = false).symm.trans (h : _ = true)) (by decide))) | (refine ite_go (fun h => ?_) (fun h => ?_) <;> (try exact absurd h (by assumption)) <;> (try exact absurd (by assumption) h))) <;> (try refine Hold_P ?_) <;> (try simp -dsimp only [h, go_sem, Nat.reduceLT, Nat.reduceLeDiff, Nat.reduceEqDiff, Nat.reduceAdd, Nat.reduceMul, Int.reduceNeg, Nat.reduceBEq, reduceCtorEq, ↓reduceIte, length_cands, hx, hxb, hbz, hbl, hd, Cand.cells, hc, hb', hq']))
            | refine Exists.intro _ (Exists.intro _ (And.intro (And.intro rfl rfl) ?_))
            | (refine PCall_use (fit_spec (l.getD i noCand) hfi _) ?_; rintro _ _ ⟨rfl, hq⟩; obtain rfl := hq.symm; clear hq)
            | (refine Exists.intro _ (And.intro (fun _ => fit_spec (l.getD i noCand) hfi _) ?_))
            | (refine Exists.intro _ (And.intro (fit_spec (l.getD i noCand) hfi _) ?_))
            | (refine Exists.intro _ (Exists.intro _ (And.intro (fit_spec (l.getD i noCand) hfi _) ?_)))
            | (refine PCall_use (decCompare_spec (l.getD i noCand) (l.getD b.toNat noCand) hfi hfb _) ?_; rintro _ _ ⟨rfl, hq⟩; obtain rfl := hq.symm; clear hq)
            | (refine Exists.intro _ (And.intro (fun _ => decCompare_spec (l.getD i noCand) (l.getD b.toNat noCand) hfi hfb _) ?_))
            | (refine Exists.intro _ (And.intro (decCompare_spec (l.getD i noCand) (l.getD b.toNat noCand) hfi hfb _) ?_))
            | (refine Exists.intro _ (Exists.intro _ (And.intro (decCompare_spec (l.getD i noCand) (l.getD b.toNat noCand) hfi hfb _) ?_)))
          exact ⟨(i + 1, i), by simp only; omega, ⟨by simp only; omega, by simp only; omega, by simp only; omega, by rw [hor, ho]; rfl⟩, Env.Sub_of_has (by simp [Env.Has, Env.get, wrap_succ (show i < 4611686018427387904 by omega)]), Sub_put (Store.Sub.refl _) ho1 _⟩
        · have hq' : decide ((decCmp (l.getD i noCand) (l.getD b.toNat noCand)).1 < 0) = false := decF hq
          rw [if_neg hq] at ho
          repeat' first
            | refine W_seq ?_
            | refine W_block ?_
            | ((first | refine W_region (mu := []) ?_ | (refine W_region_any (id := 8) [] ⟨[0], [], [], [], [], [], 0⟩ mixedOrders_ok (by kernel_rfl) ?_; intro nu hn1 hn2) | (refine W_region_any [] ⟨[], [], [], [], [], [], 0⟩ mixedOrders_ok (by kernel_rfl) ?_; intro nu hn1 hn2) | refine fn_ret ?_ | refine fn_normal ?_ | refine Hold_P ?_ | refine prun_go ?_ | refine drun_go ?_); simp -dsimp only [go_sem, Nat.reduceLT, Nat.reduceLeDiff, Nat.reduceEqDiff, Nat.reduceAdd, Nat.reduceMul, Int.reduceNeg, Nat.reduceBEq, reduceCtorEq, ↓reduceIte, length_cands, hx, hxb, hbz, hbl, hd, Cand.cells, hc, hb', hq'])
            | (refine W_cond rfl (fun h => ?_) (fun h => ?_) <;> (try (cases h; done)))
            | refine W_ret ?_
            | refine W_skip ?_
            | refine W_exit ?_
            | refine then_normal ?_
            | refine then_ret ?_
            | refine then_exit ?_
            | refine inBlock_normal ?_
            | refine inBlock_ret ?_
            | refine inBlock_exit ?_
            | refine inBlock_ne (by decide) ?_
            | refine Hold_E ?_
            | (refine And.intro ?_ ?_; omega)
            | ((first | (refine ite_goB (fun h => ?_) (fun h => ?_) <;> (try exact absurd ((h : _ = false).symm.trans (by assumption : _ = true)) (by decide)) <;> (try exact absurd ((by assumption : _ = false).symm.trans (h : _ = true)) (by decide))) | (refine ite_go (fun h => ?_) (fun h => ?_) <;> (try exact absurd h (by assumption)) <;> (try exact absurd (by assumption) h))) <;> (try refine Hold_P ?_) <;> (try simp -dsimp only [h, go_sem, Nat.reduceLT, Nat.reduceLeDiff, Nat.reduceEqDiff, Nat.reduceAdd, Nat.reduceMul, Int.reduceNeg, Nat.reduceBEq, reduceCtorEq, ↓reduceIte, length_cands, hx, hxb, hbz, hbl, hd, Cand.cells, hc, hb', hq']))
            | refine Exists.intro _ (Exists.intro _ (And.intro (And.intro rfl rfl) ?_))
            | (refine PCall_use (fit_spec (l.getD i noCand) hfi _) ?_; rintro _ _ ⟨rfl, hq⟩; obtain rfl := hq.symm; clear hq)
            | (refine Exists.intro _ (And.intro (fun _ => fit_spec (l.getD i noCand) hfi _) ?_))
            | (refine Exists.intro _ (And.intro (fit_spec (l.getD i noCand) hfi _) ?_))
            | (refine Exists.intro _ (Exists.intro _ (And.intro (fit_spec (l.getD i noCand) hfi _) ?_)))
            | (refine PCall_use (decCompare_spec (l.getD i noCand) (l.getD b.toNat noCand) hfi hfb _) ?_; rintro _ _ ⟨rfl, hq⟩; obtain rfl := hq.symm; clear hq)
            | (refine Exists.intro _ (And.intro (fun _ => decCompare_spec (l.getD i noCand) (l.getD b.toNat noCand) hfi hfb _) ?_))
            | (refine Exists.intro _ (And.intro (decCompare_spec (l.getD i noCand) (l.getD b.toNat noCand) hfi hfb _) ?_))
            | (refine Exists.intro _ (Exists.intro _ (And.intro (decCompare_spec (l.getD i noCand) (l.getD b.toNat noCand) hfi hfb _) ?_)))
          exact ⟨(i + 1, b), by simp only; omega, ⟨by simp only; omega, by simp only; omega, by simp only; omega, by rw [hor, ho]; rfl⟩, Env.Sub_of_has (by simp [Env.Has, Env.get, wrap_succ (show i < 4611686018427387904 by omega)]), Sub_put (Store.Sub.refl _) ho1 _⟩
    · rw [if_neg (by rw [hc]; simp)] at ho
      repeat' first
        | refine W_seq ?_
        | refine W_block ?_
        | ((first | refine W_region (mu := []) ?_ | (refine W_region_any (id := 8) [] ⟨[0], [], [], [], [], [], 0⟩ mixedOrders_ok (by kernel_rfl) ?_; intro nu hn1 hn2) | (refine W_region_any [] ⟨[], [], [], [], [], [], 0⟩ mixedOrders_ok (by kernel_rfl) ?_; intro nu hn1 hn2) | refine fn_ret ?_ | refine fn_normal ?_ | refine Hold_P ?_ | refine prun_go ?_ | refine drun_go ?_); simp -dsimp only [go_sem, Nat.reduceLT, Nat.reduceLeDiff, Nat.reduceEqDiff, Nat.reduceAdd, Nat.reduceMul, Int.reduceNeg, Nat.reduceBEq, reduceCtorEq, ↓reduceIte, length_cands, hx, hd, Cand.cells])
        | (refine W_cond rfl (fun h => ?_) (fun h => ?_) <;> (try (cases h; done)))
        | refine W_ret ?_
        | refine W_skip ?_
        | refine W_exit ?_
        | refine then_normal ?_
        | refine then_ret ?_
        | refine then_exit ?_
        | refine inBlock_normal ?_
        | refine inBlock_ret ?_
        | refine inBlock_exit ?_
        | refine inBlock_ne (by decide) ?_
        | refine Hold_E ?_
        | (refine And.intro ?_ ?_; omega)
        | ((first | (refine ite_goB (fun h => ?_) (fun h => ?_) <;> (try exact absurd ((h : _ = false).symm.trans (by assumption : _ = true)) (by decide)) <;> (try exact absurd ((by assumption : _ = false).symm.trans (h : _ = true)) (by decide))) | (refine ite_go (fun h => ?_) (fun h => ?_) <;> (try exact absurd h (by assumption)) <;> (try exact absurd (by assumption) h))) <;> (try refine Hold_P ?_) <;> (try simp -dsimp only [h, go_sem, Nat.reduceLT, Nat.reduceLeDiff, Nat.reduceEqDiff, Nat.reduceAdd, Nat.reduceMul, Int.reduceNeg, Nat.reduceBEq, reduceCtorEq, ↓reduceIte, length_cands, hx, hd, Cand.cells]))
        | refine Exists.intro _ (Exists.intro _ (And.intro (And.intro rfl rfl) ?_))
      intro o1 ho1
      repeat' first
        | refine W_seq ?_
        | refine W_block ?_
        | ((first | refine W_region (mu := []) ?_ | (refine W_region_any (id := 8) [] ⟨[0], [], [], [], [], [], 0⟩ mixedOrders_ok (by kernel_rfl) ?_; intro nu hn1 hn2) | (refine W_region_any [] ⟨[], [], [], [], [], [], 0⟩ mixedOrders_ok (by kernel_rfl) ?_; intro nu hn1 hn2) | refine fn_ret ?_ | refine fn_normal ?_ | refine Hold_P ?_ | refine prun_go ?_ | refine drun_go ?_); simp -dsimp only [go_sem, Nat.reduceLT, Nat.reduceLeDiff, Nat.reduceEqDiff, Nat.reduceAdd, Nat.reduceMul, Int.reduceNeg, Nat.reduceBEq, reduceCtorEq, ↓reduceIte, length_cands, hx, hd, Cand.cells, hc])
        | (refine W_cond rfl (fun h => ?_) (fun h => ?_) <;> (try (cases h; done)))
        | refine W_ret ?_
        | refine W_skip ?_
        | refine W_exit ?_
        | refine then_normal ?_
        | refine then_ret ?_
        | refine then_exit ?_
        | refine inBlock_normal ?_
        | refine inBlock_ret ?_
        | refine inBlock_exit ?_
        | refine inBlock_ne (by decide) ?_
        | refine Hold_E ?_
        | (refine And.intro ?_ ?_; omega)
        | ((first | (refine ite_goB (fun h => ?_) (fun h => ?_) <;> (try exact absurd ((h : _ = false).symm.trans (by assumption : _ = true)) (by decide)) <;> (try exact absurd ((by assumption : _ = false).symm.trans (h : _ = true)) (by decide))) | (refine ite_go (fun h => ?_) (fun h => ?_) <;> (try exact absurd h (by assumption)) <;> (try exact absurd (by assumption) h))) <;> (try refine Hold_P ?_) <;> (try simp -dsimp only [h, go_sem, Nat.reduceLT, Nat.reduceLeDiff, Nat.reduceEqDiff, Nat.reduceAdd, Nat.reduceMul, Int.reduceNeg, Nat.reduceBEq, reduceCtorEq, ↓reduceIte, length_cands, hx, hd, Cand.cells, hc]))
        | refine Exists.intro _ (Exists.intro _ (And.intro (And.intro rfl rfl) ?_))
        | (refine PCall_use (fit_spec (l.getD i noCand) hfi _) ?_; rintro _ _ ⟨rfl, hq⟩; obtain rfl := hq.symm; clear hq)
        | (refine Exists.intro _ (And.intro (fun _ => fit_spec (l.getD i noCand) hfi _) ?_))
        | (refine Exists.intro _ (And.intro (fit_spec (l.getD i noCand) hfi _) ?_))
        | (refine Exists.intro _ (Exists.intro _ (And.intro (fit_spec (l.getD i noCand) hfi _) ?_)))
      exact ⟨(i + 1, b), by simp only; omega, ⟨by simp only; omega, by simp only; omega, by simp only; omega, by rw [hor, ho]; rfl⟩, Env.Sub_of_has (by simp [Env.Has, Env.get, wrap_succ (show i < 4611686018427387904 by omega)]), Sub_put (Store.Sub.refl _) ho1 _⟩
  · have hd : decide ((i : Int) < (l.length : Int)) = false := decF (by omega)
    have hi' : i = l.length := by omega
    subst hi'
    repeat' first
      | refine W_seq ?_
      | refine W_block ?_
      | ((first | refine W_region (mu := []) ?_ | (refine W_region_any [] ⟨[], [], [], [], [], [], 0⟩ mixedOrders_ok (by kernel_rfl) ?_; intro nu hn1 hn2) | refine fn_ret ?_ | refine fn_normal ?_ | refine Hold_P ?_ | refine prun_go ?_ | refine drun_go ?_); simp -dsimp only [go_sem, Nat.reduceLT, Nat.reduceLeDiff, Nat.reduceEqDiff, Nat.reduceAdd, Nat.reduceMul, Int.reduceNeg, Nat.reduceBEq, reduceCtorEq, ↓reduceIte, hd])
      | (refine W_cond rfl (fun h => ?_) (fun h => ?_) <;> (try (cases h; done)))
      | refine W_ret ?_
      | refine W_skip ?_
      | refine W_exit ?_
      | refine then_normal ?_
      | refine then_ret ?_
      | refine then_exit ?_
      | refine inBlock_normal ?_
      | refine inBlock_ret ?_
      | refine inBlock_exit ?_
      | refine inBlock_ne (by decide) ?_
      | refine Hold_E ?_
      | (refine And.intro ?_ ?_; omega)
      | ((first | (refine ite_goB (fun h => ?_) (fun h => ?_) <;> (try exact absurd ((h : _ = false).symm.trans (by assumption : _ = true)) (by decide)) <;> (try exact absurd ((by assumption : _ = false).symm.trans (h : _ = true)) (by decide))) | (refine ite_go (fun h => ?_) (fun h => ?_) <;> (try exact absurd h (by assumption)) <;> (try exact absurd (by assumption) h))) <;> (try refine Hold_P ?_) <;> (try simp -dsimp only [h, go_sem, Nat.reduceLT, Nat.reduceLeDiff, Nat.reduceEqDiff, Nat.reduceAdd, Nat.reduceMul, Int.reduceNeg, Nat.reduceBEq, reduceCtorEq, ↓reduceIte, hd]))
      | refine Exists.intro _ (Exists.intro _ (And.intro (And.intro rfl rfl) ?_))
    rw [hor, List.drop_length]; rfl

end Go.Proofs.Ytlbhhoojbokblaa
