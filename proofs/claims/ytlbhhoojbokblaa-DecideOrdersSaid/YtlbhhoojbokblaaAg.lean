/- The law DecideThree, as a contract of the abstract layer. Conditions: none. -/
import Derived.Test.YtlbhhoojbokblaaAf
set_option linter.unusedVariables false
set_option linter.unusedSimpArgs false
namespace Go.Proofs.Ytlbhhoojbokblaa
open Go.Kern
set_option maxRecDepth 100000
set_option maxHeartbeats 4000000
attribute [local go_sem] drun_nil drun_cons prun_nil prun_cons wrOk tqOk lateOp lateB dstOk ev ofConst leafOf Env.putO Env.get envOf readRs_nil oneRes nilSide SK.isNil isMu fillA partsFit boundA SK.cut SK.cutFull SK.fresh rowOk rowsOk_nil rowsOk_cons rowsOk_append rowsOk_ints splice oneOf keyKind cellsKind cellKind cellsB cellB zeroFits TK.agg AV.cells AV.known AV.one List.set_cons_zero List.set_cons_succ put_same put_put forall_const implies_true exists_eq_left exists_eq_left' exists_eq_right exists_eq Store.Sub.refl and_self Int.toNat_natCast length_ints List.length_map true_and and_true decide_true decide_false if_true if_false Bool.false_eq_true Bool.true_eq_false List.getElem?_cons_zero List.getElem?_cons_succ List.length_cons List.length_nil List.drop_zero List.drop_succ_cons List.take_succ_cons List.take_zero List.drop_nil List.take_nil List.append_nil List.map_cons List.map_nil List.cons_append List.nil_append beq_self_eq_true Bool.false_beq Bool.true_beq Bool.not_true Bool.not_false Option.map_some Option.map_none Option.bind_some ne_eq not_false_eq_true List.contains_cons List.contains_nil Bool.or_false Bool.or_true Bool.and_true Bool.and_false Bool.true_and Bool.false_and List.all_cons List.all_nil Nat.one_ne_zero Nat.zero_ne_one Option.isSome_some Option.isSome_none List.getElem?_toArray beq_true beq_false decide_eq_true_eq Int.toNat_zero forall_ints take_ints drop_ints Int.le_refl Int.natCast_nonneg Nat.zero_add Nat.add_zero or_true true_or false_or or_false
attribute [local go_sem ↓] allocN guardP OpSem callA readRs_cons readR binA intOpA strOpA nilOpA unA convA boxA allocA behind loadA buildA buildSliceA fieldAddrA fieldA indexAddrA indexA lenA sliceA extractA nilCheckA storeA lookupA mapSetA mapDelA makeSliceA appendA appendN apN
attribute [local irreducible] PCall W

theorem few_fits {l : List Cand} (h : candsFew l = true) : ∀ c, c ∈ l → c.A.Fits := by
  intro c hc
  simp only [candsFew, Bool.and_eq_true, List.all_eq_true] at h
  exact attrFew_fits (h.2 c hc)

theorem threeA (a b c : Cand) (hf : candsFew [a, b, c] = true) (fa : a.A.Fits) (fb : b.A.Fits) (fc : c.A.Fits) (h1 : 0 < (decCmp a b).1) (σ : Store) : PCall Try.prog 4 [.agg a.cells, .agg b.cells, .agg c.cells] σ (fun r s => r = .bool true ∧ s = σ) := by
  have e1 : (0 < (decCmp a b).1) = True := by simp; omega
  refine PCall_q [.tmp 6] 69 Try.func4 (by rfl) rfl rfl rfl rfl ?_
  repeat' first
    | refine W_seq ?_
    | refine W_block ?_
    | ((first | refine W_region (mu := []) ?_ | (refine W_region_any [] ⟨[], [], [], [], [], [], 0⟩ mixedOrders_ok (by kernel_rfl) ?_; intro nu hn1 hn2) | refine fn_ret ?_ | refine fn_normal ?_ | refine Hold_P ?_ | refine prun_go ?_ | refine drun_go ?_); simp -dsimp only [go_sem, Nat.reduceLT, Nat.reduceLeDiff, Nat.reduceEqDiff, Nat.reduceAdd, Nat.reduceMul, Int.reduceNeg, Nat.reduceBEq, reduceCtorEq, ↓reduceIte, Cand.cells, hf, e1])
    | (refine W_cond rfl (fun h => ?_) (fun h => ?_) <;> (try (cases h; done)))
    | refine W_ret ?_
    | refine W_skip ?_
    | refine W_exit ?_
    | refine then_normal ?_
    | refine then_ret ?_
    | refine then_exit ?_
    | refine inBlock_normal ?_
    | refine inBlock_ret ?_
    | refine inBlock_exit ?_
    | refine inBlock_ne (by decide) ?_
    | refine Hold_E ?_
    | (refine And.intro ?_ ?_; omega)
    | ((first | (refine ite_goB (fun h => ?_) (fun h => ?_) <;> (try exact absurd ((h : _ = false).symm.trans (by assumption : _ = true)) (by decide)) <;> (try exact absurd ((by assumption : _ = false).symm.trans (h : _ = true)) (by decide))) | (refine ite_go (fun h => ?_) (fun h => ?_) <;> (try exact absurd h (by assumption)) <;> (try exact absurd (by assumption) h))) <;> (try refine Hold_P ?_) <;> (try simp -dsimp only [h, go_sem, Nat.reduceLT, Nat.reduceLeDiff, Nat.reduceEqDiff, Nat.reduceAdd, Nat.reduceMul, Int.reduceNeg, Nat.reduceBEq, reduceCtorEq, ↓reduceIte, Cand.cells, hf, e1]))
    | refine Exists.intro _ (Exists.intro _ (And.intro (And.intro rfl rfl) ?_))
    | (refine PCall_use (few_spec .full [a, b, c] (by simp) _) ?_; rintro _ _ ⟨rfl, hq⟩; obtain rfl := hq.symm; clear hq)
    | (refine Exists.intro _ (And.intro (fun _ => few_spec .full [a, b, c] (by simp) _) ?_))
    | (refine Exists.intro _ (And.intro (few_spec .full [a, b, c] (by simp) _) ?_))
    | (refine Exists.intro _ (Exists.intro _ (And.intro (few_spec .full [a, b, c] (by simp) _) ?_)))
    | (refine PCall_use (mine_spec a _) ?_; rintro _ _ ⟨rfl, hq⟩; obtain rfl := hq.symm; clear hq)
    | (refine Exists.intro _ (And.intro (fun _ => mine_spec a _) ?_))
    | (refine Exists.intro _ (And.intro (mine_spec a _) ?_))
    | (refine Exists.intro _ (Exists.intro _ (And.intro (mine_spec a _) ?_)))
    | (refine PCall_use (mine_spec b _) ?_; rintro _ _ ⟨rfl, hq⟩; obtain rfl := hq.symm; clear hq)
    | (refine Exists.intro _ (And.intro (fun _ => mine_spec b _) ?_))
    | (refine Exists.intro _ (And.intro (mine_spec b _) ?_))
    | (refine Exists.intro _ (Exists.intro _ (And.intro (mine_spec b _) ?_)))
    | (refine PCall_use (mine_spec c _) ?_; rintro _ _ ⟨rfl, hq⟩; obtain rfl := hq.symm; clear hq)
    | (refine Exists.intro _ (And.intro (fun _ => mine_spec c _) ?_))
    | (refine Exists.intro _ (And.intro (mine_spec c _) ?_))
    | (refine Exists.intro _ (Exists.intro _ (And.intro (mine_spec c _) ?_)))
    | (refine PCall_use (decCompare_spec a b fa fb _) ?_; rintro _ _ ⟨rfl, hq⟩; obtain rfl := hq.symm; clear hq)
    | (refine Exists.intro _ (And.intro (fun _ => decCompare_spec a b fa fb _) ?_))
    | (refine Exists.intro _ (And.intro (decCompare_spec a b fa fb _) ?_))
    | (refine Exists.intro _ (Exists.intro _ (And.intro (decCompare_spec a b fa fb _) ?_)))
    | (refine PCall_use (decCompare_spec b c fb fc _) ?_; rintro _ _ ⟨rfl, hq⟩; obtain rfl := hq.symm; clear hq)
    | (refine Exists.intro _ (And.intro (fun _ => decCompare_spec b c fb fc _) ?_))
    | (refine Exists.intro _ (And.intro (decCompare_spec b c fb fc _) ?_))
    | (refine Exists.intro _ (Exists.intro _ (And.intro (decCompare_spec b c fb fc _) ?_)))
    | (refine PCall_use (decCompare_spec a c fa fc _) ?_; rintro _ _ ⟨rfl, hq⟩; obtain rfl := hq.symm; clear hq)
    | (refine Exists.intro _ (And.intro (fun _ => decCompare_spec a c fa fc _) ?_))
    | (refine Exists.intro _ (And.intro (decCompare_spec a c fa fc _) ?_))
    | (refine Exists.intro _ (Exists.intro _ (And.intro (decCompare_spec a c fa fc _) ?_)))
    | (refine PCall_use (lives_spec _) ?_; rintro _ _ ⟨rfl, hq⟩; obtain rfl := hq.symm; clear hq)
    | (refine Exists.intro _ (And.intro (fun _ => lives_spec _) ?_))
    | (refine Exists.intro _ (And.intro (lives_spec _) ?_))
    | (refine Exists.intro _ (Exists.intro _ (And.intro (lives_spec _) ?_)))

theorem threeB (a b c : Cand) (hf : candsFew [a, b, c] = true) (fa : a.A.Fits) (fb : b.A.Fits) (fc : c.A.Fits) (h1 : ¬ 0 < (decCmp a b).1) (h2 : 0 < (decCmp b c).1) (σ : Store) : PCall Try.prog 4 [.agg a.cells, .agg b.cells, .agg c.cells] σ (fun r s => r = .bool true ∧ s = σ) := by
  have e1 : (0 < (decCmp a b).1) = False := by simp; omega
  have e2 : (0 < (decCmp b c).1) = True := by simp; omega
  refine PCall_q [.tmp 6] 69 Try.func4 (by rfl) rfl rfl rfl rfl ?_
  repeat' first
    | refine W_seq ?_
    | refine W_block ?_
    | ((first | refine W_region (mu := []) ?_ | (refine W_region_any [] ⟨[], [], [], [], [], [], 0⟩ mixedOrders_ok (by kernel_rfl) ?_; intro nu hn1 hn2) | refine fn_ret ?_ | refine fn_normal ?_ | refine Hold_P ?_ | refine prun_go ?_ | refine drun_go ?_); simp -dsimp only [go_sem, Nat.reduceLT, Nat.reduceLeDiff, Nat.reduceEqDiff, Nat.reduceAdd, Nat.reduceMul, Int.reduceNeg, Nat.reduceBEq, reduceCtorEq, ↓reduceIte, Cand.cells, hf, e1, e2])
    | (refine W_cond rfl (fun h => ?_) (fun h => ?_) <;> (try (cases h; done)))
    | refine W_ret ?_
    | refine W_skip ?_
    | refine W_exit ?_
    | refine then_normal ?_
    | refine then_ret ?_
    | refine then_exit ?_
    | refine inBlock_normal ?_
    | refine inBlock_ret ?_
    | refine inBlock_exit ?_
    | refine inBlock_ne (by decide) ?_
    | refine Hold_E ?_
    | (refine And.intro ?_ ?_; omega)
    | ((first | (refine ite_goB (fun h => ?_) (fun h => ?_) <;> (try exact absurd ((h : _ = false).symm.trans (by assumption : _ = true)) (by decide)) <;> (try exact absurd ((by assumption : _ = false).symm.trans (h : _ = true)) (by decide))) | (refine ite_go (fun h => ?_) (fun h => ?_) <;> (try exact absurd h (by assumption)) <;> (try exact absurd (by assumption) h))) <;> (try refine Hold_P ?_) <;> (try simp -dsimp only [h, go_sem, Nat.reduceLT, Nat.reduceLeDiff, Nat.reduceEqDiff, Nat.reduceAdd, Nat.reduceMul, Int.reduceNeg, Nat.reduceBEq, reduceCtorEq, ↓reduceIte, Cand.cells, hf, e1, e2]))
    | refine Exists.intro _ (Exists.intro _ (And.intro (And.intro rfl rfl) ?_))
    | (refine PCall_use (few_spec .full [a, b, c] (by simp) _) ?_; rintro _ _ ⟨rfl, hq⟩; obtain rfl := hq.symm; clear hq)
    | (refine Exists.intro _ (And.intro (fun _ => few_spec .full [a, b, c] (by simp) _) ?_))
    | (refine Exists.intro _ (And.intro (few_spec .full [a, b, c] (by simp) _) ?_))
    | (refine Exists.intro _ (Exists.intro _ (And.intro (few_spec .full [a, b, c] (by simp) _) ?_)))
    | (refine PCall_use (mine_spec a _) ?_; rintro _ _ ⟨rfl, hq⟩; obtain rfl := hq.symm; clear hq)
    | (refine Exists.intro _ (And.intro (fun _ => mine_spec a _) ?_))
    | (refine Exists.intro _ (And.intro (mine_spec a _) ?_))
    | (refine Exists.intro _ (Exists.intro _ (And.intro (mine_spec a _) ?_)))
    | (refine PCall_use (mine_spec b _) ?_; rintro _ _ ⟨rfl, hq⟩; obtain rfl := hq.symm; clear hq)
    | (refine Exists.intro _ (And.intro (fun _ => mine_spec b _) ?_))
    | (refine Exists.intro _ (And.intro (mine_spec b _) ?_))
    | (refine Exists.intro _ (Exists.intro _ (And.intro (mine_spec b _) ?_)))
    | (refine PCall_use (mine_spec c _) ?_; rintro _ _ ⟨rfl, hq⟩; obtain rfl := hq.symm; clear hq)
    | (refine Exists.intro _ (And.intro (fun _ => mine_spec c _) ?_))
    | (refine Exists.intro _ (And.intro (mine_spec c _) ?_))
    | (refine Exists.intro _ (Exists.intro _ (And.intro (mine_spec c _) ?_)))
    | (refine PCall_use (decCompare_spec a b fa fb _) ?_; rintro _ _ ⟨rfl, hq⟩; obtain rfl := hq.symm; clear hq)
    | (refine Exists.intro _ (And.intro (fun _ => decCompare_spec a b fa fb _) ?_))
    | (refine Exists.intro _ (And.intro (decCompare_spec a b fa fb _) ?_))
    | (refine Exists.intro _ (Exists.intro _ (And.intro (decCompare_spec a b fa fb _) ?_)))
    | (refine PCall_use (decCompare_spec b c fb fc _) ?_; rintro _ _ ⟨rfl, hq⟩; obtain rfl := hq.symm; clear hq)
    | (refine Exists.intro _ (And.intro (fun _ => decCompare_spec b c fb fc _) ?_))
    | (refine Exists.intro _ (And.intro (decCompare_spec b c fb fc _) ?_))
    | (refine Exists.intro _ (Exists.intro _ (And.intro (decCompare_spec b c fb fc _) ?_)))
    | (refine PCall_use (decCompare_spec a c fa fc _) ?_; rintro _ _ ⟨rfl, hq⟩; obtain rfl := hq.symm; clear hq)
    | (refine Exists.intro _ (And.intro (fun _ => decCompare_spec a c fa fc _) ?_))
    | (refine Exists.intro _ (And.intro (decCompare_spec a c fa fc _) ?_))
    | (refine Exists.intro _ (Exists.intro _ (And.intro (decCompare_spec a c fa fc _) ?_)))
    | (refine PCall_use (lives_spec _) ?_; rintro _ _ ⟨rfl, hq⟩; obtain rfl := hq.symm; clear hq)
    | (refine Exists.intro _ (And.intro (fun _ => lives_spec _) ?_))
    | (refine Exists.intro _ (And.intro (lives_spec _) ?_))
    | (refine Exists.intro _ (Exists.intro _ (And.intro (lives_spec _) ?_)))

theorem threeC (a b c : Cand) (hf : candsFew [a, b, c] = true) (fa : a.A.Fits) (fb : b.A.Fits) (fc : c.A.Fits) (h1 : (decCmp a b).1 = 0) (h2 : (decCmp b c).1 = 0) (h3 : (decCmp a c).1 ≤ 0) (σ : Store) : PCall Try.prog 4 [.agg a.cells, .agg b.cells, .agg c.cells] σ (fun r s => r = .bool true ∧ s = σ) := by
  have e1 : (0 < (decCmp a b).1) = False := by simp; omega
  have e2 : (0 < (decCmp b c).1) = False := by simp; omega
  have e3 : ((decCmp a c).1 ≤ 0) = True := by simp; omega
  have e4 : ((decCmp a b).1 = 0) = True := by simp; omega
  have e5 : ((decCmp b c).1 = 0) = True := by simp; omega
  refine PCall_q [.tmp 6] 69 Try.func4 (by rfl) rfl rfl rfl rfl ?_
  repeat' first
    | refine W_seq ?_
    | refine W_block ?_
    | ((first | refine W_region (mu := []) ?_ | (refine W_region_any [] ⟨[], [], [], [], [], [], 0⟩ mixedOrders_ok (by kernel_rfl) ?_; intro nu hn1 hn2) | refine fn_ret ?_ | refine fn_normal ?_ | refine Hold_P ?_ | refine prun_go ?_ | refine drun_go ?_); simp -dsimp only [go_sem, Nat.reduceLT, Nat.reduceLeDiff, Nat.reduceEqDiff, Nat.reduceAdd, Nat.reduceMul, Int.reduceNeg, Nat.reduceBEq, reduceCtorEq, ↓reduceIte, Cand.cells, hf, e1, e2, e3, e4, e5])
    | (refine W_cond rfl (fun h => ?_) (fun h => ?_) <;> (try (cases h; done)))
    | refine W_ret ?_
    | refine W_skip ?_
    | refine W_exit ?_
    | refine then_normal ?_
    | refine then_ret ?_
    | refine then_exit ?_
    | refine inBlock_normal ?_
    | refine inBlock_ret ?_
    | refine inBlock_exit ?_
    | refine inBlock_ne (by decide) ?_
    | refine Hold_E ?_
    | (refine And.intro ?_ ?_; omega)
    | ((first | (refine ite_goB (fun h => ?_) (fun h => ?_) <;> (try exact absurd ((h : _ = false).symm.trans (by assumption : _ = true)) (by decide)) <;> (try exact absurd ((by assumption : _ = false).symm.trans (h : _ = true)) (by decide))) | (refine ite_go (fun h => ?_) (fun h => ?_) <;> (try exact absurd h (by assumption)) <;> (try exact absurd (by assumption) h))) <;> (try refine Hold_P ?_) <;> (try simp -dsimp only [h, go_sem, Nat.reduceLT, Nat.reduceLeDiff, Nat.reduceEqDiff, Nat.reduceAdd, Nat.reduceMul, Int.reduceNeg, Nat.reduceBEq, reduceCtorEq, ↓reduceIte, Cand.cells, hf, e1, e2, e3, e4, e5]))
    | refine Exists.intro _ (Exists.intro _ (And.intro (And.intro rfl rfl) ?_))
    | (refine PCall_use (few_spec .full [a, b, c] (by simp) _) ?_; rintro _ _ ⟨rfl, hq⟩; obtain rfl := hq.symm; clear hq)
    | (refine Exists.intro _ (And.intro (fun _ => few_spec .full [a, b, c] (by simp) _) ?_))
    | (refine Exists.intro _ (And.intro (few_spec .full [a, b, c] (by simp) _) ?_))
    | (refine Exists.intro _ (Exists.intro _ (And.intro (few_spec .full [a, b, c] (by simp) _) ?_)))
    | (refine PCall_use (mine_spec a _) ?_; rintro _ _ ⟨rfl, hq⟩; obtain rfl := hq.symm; clear hq)
    | (refine Exists.intro _ (And.intro (fun _ => mine_spec a _) ?_))
    | (refine Exists.intro _ (And.intro (mine_spec a _) ?_))
    | (refine Exists.intro _ (Exists.intro _ (And.intro (mine_spec a _) ?_)))
    | (refine PCall_use (mine_spec b _) ?_; rintro _ _ ⟨rfl, hq⟩; obtain rfl := hq.symm; clear hq)
    | (refine Exists.intro _ (And.intro (fun _ => mine_spec b _) ?_))
    | (refine Exists.intro _ (And.intro (mine_spec b _) ?_))
    | (refine Exists.intro _ (Exists.intro _ (And.intro (mine_spec b _) ?_)))
    | (refine PCall_use (mine_spec c _) ?_; rintro _ _ ⟨rfl, hq⟩; obtain rfl := hq.symm; clear hq)
    | (refine Exists.intro _ (And.intro (fun _ => mine_spec c _) ?_))
    | (refine Exists.intro _ (And.intro (mine_spec c _) ?_))
    | (refine Exists.intro _ (Exists.intro _ (And.intro (mine_spec c _) ?_)))
    | (refine PCall_use (decCompare_spec a b fa fb _) ?_; rintro _ _ ⟨rfl, hq⟩; obtain rfl := hq.symm; clear hq)
    | (refine Exists.intro _ (And.intro (fun _ => decCompare_spec a b fa fb _) ?_))
    | (refine Exists.intro _ (And.intro (decCompare_spec a b fa fb _) ?_))
    | (refine Exists.intro _ (Exists.intro _ (And.intro (decCompare_spec a b fa fb _) ?_)))
    | (refine PCall_use (decCompare_spec b c fb fc _) ?_; rintro _ _ ⟨rfl, hq⟩; obtain rfl := hq.symm; clear hq)
    | (refine Exists.intro _ (And.intro (fun _ => decCompare_spec b c fb fc _) ?_))
    | (refine Exists.intro _ (And.intro (decCompare_spec b c fb fc _) ?_))
    | (refine Exists.intro _ (Exists.intro _ (And.intro (decCompare_spec b c fb fc _) ?_)))
    | (refine PCall_use (decCompare_spec a c fa fc _) ?_; rintro _ _ ⟨rfl, hq⟩; obtain rfl := hq.symm; clear hq)
    | (refine Exists.intro _ (And.intro (fun _ => decCompare_spec a c fa fc _) ?_))
    | (refine Exists.intro _ (And.intro (decCompare_spec a c fa fc _) ?_))
    | (refine Exists.intro _ (Exists.intro _ (And.intro (decCompare_spec a c fa fc _) ?_)))
    | (refine PCall_use (lives_spec _) ?_; rintro _ _ ⟨rfl, hq⟩; obtain rfl := hq.symm; clear hq)
    | (refine Exists.intro _ (And.intro (fun _ => lives_spec _) ?_))
    | (refine Exists.intro _ (And.intro (lives_spec _) ?_))
    | (refine Exists.intro _ (Exists.intro _ (And.intro (lives_spec _) ?_)))

theorem threeD (a b c : Cand) (hf : candsFew [a, b, c] = true) (fa : a.A.Fits) (fb : b.A.Fits) (fc : c.A.Fits) (h1 : (decCmp a b).1 = 0) (h2 : (decCmp b c).1 < 0) (h3 : (decCmp a c).1 < 0) (σ : Store) : PCall Try.prog 4 [.agg a.cells, .agg b.cells, .agg c.cells] σ (fun r s => r = .bool true ∧ s = σ) := by
  have e1 : (0 < (decCmp a b).1) = False := by simp; omega
  have e2 : (0 < (decCmp b c).1) = False := by simp; omega
  have e3 : ((decCmp a c).1 ≤ 0) = True := by simp; omega
  have e4 : ((decCmp a b).1 = 0) = True := by simp; omega
  have e5 : ((decCmp b c).1 = 0) = False := by simp; omega
  have e6 : ((decCmp a c).1 < 0) = True := by simp; omega
  refine PCall_q [.tmp 6] 69 Try.func4 (by rfl) rfl rfl rfl rfl ?_
  repeat' first
    | refine W_seq ?_
    | refine W_block ?_
    | ((first | refine W_region (mu := []) ?_ | (refine W_region_any [] ⟨[], [], [], [], [], [], 0⟩ mixedOrders_ok (by kernel_rfl) ?_; intro nu hn1 hn2) | refine fn_ret ?_ | refine fn_normal ?_ | refine Hold_P ?_ | refine prun_go ?_ | refine drun_go ?_); simp -dsimp only [go_sem, Nat.reduceLT, Nat.reduceLeDiff, Nat.reduceEqDiff, Nat.reduceAdd, Nat.reduceMul, Int.reduceNeg, Nat.reduceBEq, reduceCtorEq, ↓reduceIte, Cand.cells, hf, e1, e2, e3, e4, e5, e6])
    | (refine W_cond rfl (fun h => ?_) (fun h => ?_) <;> (try (cases h; done)))
    | refine W_ret ?_
    | refine W_skip ?_
    | refine W_exit ?_
    | refine then_normal ?_
    | refine then_ret ?_
    | refine then_exit ?_
    | refine inBlock_normal ?_
    | refine inBlock_ret ?_
    | refine inBlock_exit ?_
    | refine inBlock_ne (by decide) ?_
    | refine Hold_E ?_
    | (refine And.intro ?_ ?_; omega)
    | ((first | (refine ite_goB (fun h => ?_) (fun h => ?_) <;> (try exact absurd ((h : _ = false).symm.trans (by assumption : _ = true)) (by decide)) <;> (try exact absurd ((by assumption : _ = false).symm.trans (h : _ = true)) (by decide))) | (refine ite_go (fun h => ?_) (fun h => ?_) <;> (try exact absurd h (by assumption)) <;> (try exact absurd (by assumption) h))) <;> (try refine Hold_P ?_) <;> (try simp -dsimp only [h, go_sem, Nat.reduceLT, Nat.reduceLeDiff, Nat.reduceEqDiff, Nat.reduceAdd, Nat.reduceMul, Int.reduceNeg, Nat.reduceBEq, reduceCtorEq, ↓reduceIte, Cand.cells, hf, e1, e2, e3, e4, e5, e6]))
    | refine Exists.intro _ (Exists.intro _ (And.intro (And.intro rfl rfl) ?_))
    | (refine PCall_use (few_spec .full [a, b, c] (by simp) _) ?_; rintro _ _ ⟨rfl, hq⟩; obtain rfl := hq.symm; clear hq)
    | (refine Exists.intro _ (And.intro (fun _ => few_spec .full [a, b, c] (by simp) _) ?_))
    | (refine Exists.intro _ (And.intro (few_spec .full [a, b, c] (by simp) _) ?_))
    | (refine Exists.intro _ (Exists.intro _ (And.intro (few_spec .full [a, b, c] (by simp) _) ?_)))
    | (refine PCall_use (mine_spec a _) ?_; rintro _ _ ⟨rfl, hq⟩; obtain rfl := hq.symm; clear hq)
    | (refine Exists.intro _ (And.intro (fun _ => mine_spec a _) ?_))
    | (refine Exists.intro _ (And.intro (mine_spec a _) ?_))
    | (refine Exists.intro _ (Exists.intro _ (And.intro (mine_spec a _) ?_)))
    | (refine PCall_use (mine_spec b _) ?_; rintro _ _ ⟨rfl, hq⟩; obtain rfl := hq.symm; clear hq)
    | (refine Exists.intro _ (And.intro (fun _ => mine_spec b _) ?_))
    | (refine Exists.intro _ (And.intro (mine_spec b _) ?_))
    | (refine Exists.intro _ (Exists.intro _ (And.intro (mine_spec b _) ?_)))
    | (refine PCall_use (mine_spec c _) ?_; rintro _ _ ⟨rfl, hq⟩; obtain rfl := hq.symm; clear hq)
    | (refine Exists.intro _ (And.intro (fun _ => mine_spec c _) ?_))
    | (refine Exists.intro _ (And.intro (mine_spec c _) ?_))
    | (refine Exists.intro _ (Exists.intro _ (And.intro (mine_spec c _) ?_)))
    | (refine PCall_use (decCompare_spec a b fa fb _) ?_; rintro _ _ ⟨rfl, hq⟩; obtain rfl := hq.symm; clear hq)
    | (refine Exists.intro _ (And.intro (fun _ => decCompare_spec a b fa fb _) ?_))
    | (refine Exists.intro _ (And.intro (decCompare_spec a b fa fb _) ?_))
    | (refine Exists.intro _ (Exists.intro _ (And.intro (decCompare_spec a b fa fb _) ?_)))
    | (refine PCall_use (decCompare_spec b c fb fc _) ?_; rintro _ _ ⟨rfl, hq⟩; obtain rfl := hq.symm; clear hq)
    | (refine Exists.intro _ (And.intro (fun _ => decCompare_spec b c fb fc _) ?_))
    | (refine Exists.intro _ (And.intro (decCompare_spec b c fb fc _) ?_))
    | (refine Exists.intro _ (Exists.intro _ (And.intro (decCompare_spec b c fb fc _) ?_)))
    | (refine PCall_use (decCompare_spec a c fa fc _) ?_; rintro _ _ ⟨rfl, hq⟩; obtain rfl := hq.symm; clear hq)
    | (refine Exists.intro _ (And.intro (fun _ => decCompare_spec a c fa fc _) ?_))
    | (refine Exists.intro _ (And.intro (decCompare_spec a c fa fc _) ?_))
    | (refine Exists.intro _ (Exists.intro _ (And.intro (decCompare_spec a c fa fc _) ?_)))
    | (refine PCall_use (lives_spec _) ?_; rintro _ _ ⟨rfl, hq⟩; obtain rfl := hq.symm; clear hq)
    | (refine Exists.intro _ (And.intro (fun _ => lives_spec _) ?_))
    | (refine Exists.intro _ (And.intro (lives_spec _) ?_))
    | (refine Exists.intro _ (Exists.intro _ (And.intro (lives_spec _) ?_)))

theorem threeF (a b c : Cand) (hf : candsFew [a, b, c] = true) (fa : a.A.Fits) (fb : b.A.Fits) (fc : c.A.Fits) (h1 : (decCmp a b).1 < 0) (h2 : (decCmp b c).1 ≤ 0) (h3 : (decCmp a c).1 < 0) (σ : Store) : PCall Try.prog 4 [.agg a.cells, .agg b.cells, .agg c.cells] σ (fun r s => r = .bool true ∧ s = σ) := by
  have e1 : (0 < (decCmp a b).1) = False := by simp; omega
  have e2 : (0 < (decCmp b c).1) = False := by simp; omega
  have e3 : ((decCmp a c).1 ≤ 0) = True := by simp; omega
  have e4 : ((decCmp a b).1 = 0) = False := by simp; omega
  have e6 : ((decCmp a c).1 < 0) = True := by simp; omega
  refine PCall_q [.tmp 6] 69 Try.func4 (by rfl) rfl rfl rfl rfl ?_
  repeat' first
    | refine W_seq ?_
    | refine W_block ?_
    | ((first | refine W_region (mu := []) ?_ | (refine W_region_any [] ⟨[], [], [], [], [], [], 0⟩ mixedOrders_ok (by kernel_rfl) ?_; intro nu hn1 hn2) | refine fn_ret ?_ | refine fn_normal ?_ | refine Hold_P ?_ | refine prun_go ?_ | refine drun_go ?_); simp -dsimp only [go_sem, Nat.reduceLT, Nat.reduceLeDiff, Nat.reduceEqDiff, Nat.reduceAdd, Nat.reduceMul, Int.reduceNeg, Nat.reduceBEq, reduceCtorEq, ↓reduceIte, Cand.cells, hf, e1, e2, e3, e4, e6])
    | (refine W_cond rfl (fun h => ?_) (fun h => ?_) <;> (try (cases h; done)))
    | refine W_ret ?_
    | refine W_skip ?_
    | refine W_exit ?_
    | refine then_normal ?_
    | refine then_ret ?_
    | refine then_exit ?_
    | refine inBlock_normal ?_
    | refine inBlock_ret ?_
    | refine inBlock_exit ?_
    | refine inBlock_ne (by decide) ?_
    | refine Hold_E ?_
    | (refine And.intro ?_ ?_; omega)
    | ((first | (refine ite_goB (fun h => ?_) (fun h => ?_) <;> (try exact absurd ((h : _ = false).symm.trans (by assumption : _ = true)) (by decide)) <;> (try exact absurd ((by assumption : _ = false).symm.trans (h : _ = true)) (by decide))) | (refine ite_go (fun h => ?_) (fun h => ?_) <;> (try exact absurd h (by assumption)) <;> (try exact absurd (by assumption) h))) <;> (try refine Hold_P ?_) <;> (try simp -dsimp only [h, go_sem, Nat.reduceLT, Nat.reduceLeDiff, Nat.reduceEqDiff, Nat.reduceAdd, Nat.reduceMul, Int.reduceNeg, Nat.reduceBEq, reduceCtorEq, ↓reduceIte, Cand.cells, hf, e1, e2, e3, e4, e6]))
    | refine Exists.intro _ (Exists.intro _ (And.intro (And.intro rfl rfl) ?_))
    | (refine PCall_use (few_spec .full [a, b, c] (by simp) _) ?_; rintro _ _ ⟨rfl, hq⟩; obtain rfl := hq.symm; clear hq)
    | (refine Exists.intro _ (And.intro (fun _ => few_spec .full [a, b, c] (by simp) _) ?_))
    | (refine Exists.intro _ (And.intro (few_spec .full [a, b, c] (by simp) _) ?_))
    | (refine Exists.intro _ (Exists.intro _ (And.intro (few_spec .full [a, b, c] (by simp) _) ?_)))
    | (refine PCall_use (mine_spec a _) ?_; rintro _ _ ⟨rfl, hq⟩; obtain rfl := hq.symm; clear hq)
    | (refine Exists.intro _ (And.intro (fun _ => mine_spec a _) ?_))
    | (refine Exists.intro _ (And.intro (mine_spec a _) ?_))
    | (refine Exists.intro _ (Exists.intro _ (And.intro (mine_spec a _) ?_)))
    | (refine PCall_use (mine_spec b _) ?_; rintro _ _ ⟨rfl, hq⟩; obtain rfl := hq.symm; clear hq)
    | (refine Exists.intro _ (And.intro (fun _ => mine_spec b _) ?_))
    | (refine Exists.intro _ (And.intro (mine_spec b _) ?_))
    | (refine Exists.intro _ (Exists.intro _ (And.intro (mine_spec b _) ?_)))
    | (refine PCall_use (mine_spec c _) ?_; rintro _ _ ⟨rfl, hq⟩; obtain rfl := hq.symm; clear hq)
    | (refine Exists.intro _ (And.intro (fun _ => mine_spec c _) ?_))
    | (refine Exists.intro _ (And.intro (mine_spec c _) ?_))
    | (refine Exists.intro _ (Exists.intro _ (And.intro (mine_spec c _) ?_)))
    | (refine PCall_use (decCompare_spec a b fa fb _) ?_; rintro _ _ ⟨rfl, hq⟩; obtain rfl := hq.symm; clear hq)
    | (refine Exists.intro _ (And.intro (fun _ => decCompare_spec a b fa fb _) ?_))
    | (refine Exists.intro _ (And.intro (decCompare_spec a b fa fb _) ?_))
    | (refine Exists.intro _ (Exists.intro _ (And.intro (decCompare_spec a b fa fb _) ?_)))
    | (refine PCall_use (decCompare_spec b c fb fc _) ?_; rintro _ _ ⟨rfl, hq⟩; obtain rfl := hq.symm; clear hq)
    | (refine Exists.intro _ (And.intro (fun _ => decCompare_spec b c fb fc _) ?_))
    | (refine Exists.intro _ (And.intro (decCompare_spec b c fb fc _) ?_))
    | (refine Exists.intro _ (Exists.intro _ (And.intro (decCompare_spec b c fb fc _) ?_)))
    | (refine PCall_use (decCompare_spec a c fa fc _) ?_; rintro _ _ ⟨rfl, hq⟩; obtain rfl := hq.symm; clear hq)
    | (refine Exists.intro _ (And.intro (fun _ => decCompare_spec a c fa fc _) ?_))
    | (refine Exists.intro _ (And.intro (decCompare_spec a c fa fc _) ?_))
    | (refine Exists.intro _ (Exists.intro _ (And.intro (decCompare_spec a c fa fc _) ?_)))
    | (refine PCall_use (lives_spec _) ?_; rintro _ _ ⟨rfl, hq⟩; obtain rfl := hq.symm; clear hq)
    | (refine Exists.intro _ (And.intro (fun _ => lives_spec _) ?_))
    | (refine Exists.intro _ (And.intro (lives_spec _) ?_))
    | (refine Exists.intro _ (Exists.intro _ (And.intro (lives_spec _) ?_)))

theorem threeN (a b c : Cand) (hf : candsFew [a, b, c] = false) (σ : Store) : PCall Try.prog 4 [.agg a.cells, .agg b.cells, .agg c.cells] σ (fun r s => r = .bool true ∧ s = σ) := by
  refine PCall_q [.tmp 6] 69 Try.func4 (by rfl) rfl rfl rfl rfl ?_
  repeat' first
    | refine W_seq ?_
    | refine W_block ?_
    | ((first | refine W_region (mu := []) ?_ | (refine W_region_any [] ⟨[], [], [], [], [], [], 0⟩ mixedOrders_ok (by kernel_rfl) ?_; intro nu hn1 hn2) | refine fn_ret ?_ | refine fn_normal ?_ | refine Hold_P ?_ | refine prun_go ?_ | refine drun_go ?_); simp -dsimp only [go_sem, Nat.reduceLT, Nat.reduceLeDiff, Nat.reduceEqDiff, Nat.reduceAdd, Nat.reduceMul, Int.reduceNeg, Nat.reduceBEq, reduceCtorEq, ↓reduceIte, Cand.cells, hf])
    | (refine W_cond rfl (fun h => ?_) (fun h => ?_) <;> (try (cases h; done)))
    | refine W_ret ?_
    | refine W_skip ?_
    | refine W_exit ?_
    | refine then_normal ?_
    | refine then_ret ?_
    | refine then_exit ?_
    | refine inBlock_normal ?_
    | refine inBlock_ret ?_
    | refine inBlock_exit ?_
    | refine inBlock_ne (by decide) ?_
    | refine Hold_E ?_
    | (refine And.intro ?_ ?_; omega)
    | ((first | (refine ite_goB (fun h => ?_) (fun h => ?_) <;> (try exact absurd ((h : _ = false).symm.trans (by assumption : _ = true)) (by decide)) <;> (try exact absurd ((by assumption : _ = false).symm.trans (h : _ = true)) (by decide))) | (refine ite_go (fun h => ?_) (fun h => ?_) <;> (try exact absurd h (by assumption)) <;> (try exact absurd (by assumption) h))) <;> (try refine Hold_P ?_) <;> (try simp -dsimp only [h, go_sem, Nat.reduceLT, Nat.reduceLeDiff, Nat.reduceEqDiff, Nat.reduceAdd, Nat.reduceMul, Int.reduceNeg, Nat.reduceBEq, reduceCtorEq, ↓reduceIte, Cand.cells, hf]))
    | refine Exists.intro _ (Exists.intro _ (And.intro (And.intro rfl rfl) ?_))
    | (refine PCall_use (few_spec .full [a, b, c] (by simp) _) ?_; rintro _ _ ⟨rfl, hq⟩; obtain rfl := hq.symm; clear hq)
    | (refine Exists.intro _ (And.intro (fun _ => few_spec .full [a, b, c] (by simp) _) ?_))
    | (refine Exists.intro _ (And.intro (few_spec .full [a, b, c] (by simp) _) ?_))
    | (refine Exists.intro _ (Exists.intro _ (And.intro (few_spec .full [a, b, c] (by simp) _) ?_)))
    | (refine PCall_use (lives_spec _) ?_; rintro _ _ ⟨rfl, hq⟩; obtain rfl := hq.symm; clear hq)
    | (refine Exists.intro _ (And.intro (fun _ => lives_spec _) ?_))
    | (refine Exists.intro _ (And.intro (lives_spec _) ?_))
    | (refine Exists.intro _ (Exists.intro _ (And.intro (lives_spec _) ?_)))

theorem three_spec (a b c : Cand) (σ : Store) : PCall Try.prog 4 [.agg a.cells, .agg b.cells, .agg c.cells] σ (fun r s => r = .bool true ∧ s = σ) := by
  rcases Bool.eq_false_or_eq_true (candsFew [a, b, c]) with hf | hf
  · have fa := few_fits hf a (by simp)
    have fb := few_fits hf b (by simp)
    have fc := few_fits hf c (by simp)
    have t := decCmp_ord.tr a b c
    by_cases h1 : 0 < (decCmp a b).1
    · exact threeA a b c hf fa fb fc h1 σ
    · by_cases h2 : 0 < (decCmp b c).1
      · exact threeB a b c hf fa fb fc h1 h2 σ
      · have t' := t (by omega) (by omega)
        by_cases h3 : (decCmp a b).1 = 0
        · by_cases h4 : (decCmp b c).1 = 0
          · exact threeC a b c hf fa fb fc h3 h4 t'.1 σ
          · exact threeD a b c hf fa fb fc h3 (by omega) (t'.2 (by omega)) σ
        · exact threeF a b c hf fa fb fc (by omega) (by omega) (t'.2 (by omega)) σ
  · exact threeN a b c hf σ

end Go.Proofs.Ytlbhhoojbokblaa
