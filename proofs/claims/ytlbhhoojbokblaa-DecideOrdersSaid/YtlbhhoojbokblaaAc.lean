/- Contracts of what may be: attr.May, decide.Fit, Best, Rule. Conditions: none. -/
import Derived.Test.YtlbhhoojbokblaaAb
set_option linter.unusedVariables false
set_option linter.unusedSimpArgs false
namespace Go.Proofs.Ytlbhhoojbokblaa
open Go.Kern
set_option maxRecDepth 100000
set_option maxHeartbeats 4000000
attribute [local go_sem] drun_nil drun_cons prun_nil prun_cons wrOk tqOk lateOp lateB dstOk ev ofConst leafOf Env.putO Env.get envOf readRs_nil oneRes nilSide SK.isNil isMu fillA partsFit boundA SK.cut SK.cutFull SK.fresh rowOk rowsOk_nil rowsOk_cons rowsOk_append rowsOk_ints splice oneOf keyKind cellsKind cellKind cellsB cellB zeroFits TK.agg AV.cells AV.known AV.one List.set_cons_zero List.set_cons_succ put_same put_put forall_const implies_true exists_eq_left exists_eq_left' exists_eq_right exists_eq Store.Sub.refl and_self Int.toNat_natCast length_ints List.length_map true_and and_true decide_true decide_false if_true if_false Bool.false_eq_true Bool.true_eq_false List.getElem?_cons_zero List.getElem?_cons_succ List.length_cons List.length_nil List.drop_zero List.drop_succ_cons List.take_succ_cons List.take_zero List.drop_nil List.take_nil List.append_nil List.map_cons List.map_nil List.cons_append List.nil_append beq_self_eq_true Bool.false_beq Bool.true_beq Bool.not_true Bool.not_false Option.map_some Option.map_none Option.bind_some ne_eq not_false_eq_true List.contains_cons List.contains_nil Bool.or_false Bool.or_true Bool.and_true Bool.and_false Bool.true_and Bool.false_and List.all_cons List.all_nil Nat.one_ne_zero Nat.zero_ne_one Option.isSome_some Option.isSome_none List.getElem?_toArray beq_true beq_false decide_eq_true_eq Int.toNat_zero forall_ints take_ints drop_ints Int.le_refl Int.natCast_nonneg Nat.zero_add Nat.add_zero or_true true_or false_or or_false
attribute [local go_sem ↓] allocN guardP OpSem callA readRs_cons readR binA intOpA strOpA nilOpA unA convA boxA allocA behind loadA buildA buildSliceA fieldAddrA fieldA indexAddrA indexA lenA sliceA extractA nilCheckA storeA lookupA mapSetA mapDelA makeSliceA appendA appendN apN
attribute [local irreducible] PCall W

def withinZ (n a b : Int) : Bool := decide (a ≤ n) && decide (n ≤ b)

theorem within_spec (n a b : Int) (σ : Store) : PCall Try.prog 36 [.int .i64 n, .int .i64 a, .int .i64 b] σ (fun r s => r = .bool (withinZ n a b) ∧ s = σ) := by
  refine PCall_q [.tmp 6] 15 Try.func36 (by rfl) rfl rfl rfl rfl ?_
  repeat' first
    | refine W_seq ?_
    | refine W_block ?_
    | ((first | refine W_region (mu := []) ?_ | (refine W_region_any [] ⟨[], [], [], [], [], [], 0⟩ mixedOrders_ok (by kernel_rfl) ?_; intro nu hn1 hn2) | refine fn_ret ?_ | refine fn_normal ?_ | refine Hold_P ?_ | refine prun_go ?_ | refine drun_go ?_); simp -dsimp only [go_sem, Nat.reduceLT, Nat.reduceLeDiff, Nat.reduceEqDiff, Nat.reduceAdd, Nat.reduceMul, Int.reduceNeg, Nat.reduceBEq, reduceCtorEq, ↓reduceIte])
    | (refine W_cond rfl (fun h => ?_) (fun h => ?_) <;> (try (cases h; done)))
    | refine W_ret ?_
    | refine W_skip ?_
    | refine W_exit ?_
    | refine then_normal ?_
    | refine then_ret ?_
    | refine then_exit ?_
    | refine inBlock_normal ?_
    | refine inBlock_ret ?_
    | refine inBlock_exit ?_
    | refine inBlock_ne (by decide) ?_
    | refine Hold_E ?_
    | (refine And.intro ?_ ?_; omega)
    | ((first | (refine ite_goB (fun h => ?_) (fun h => ?_) <;> (try exact absurd ((h : _ = false).symm.trans (by assumption : _ = true)) (by decide)) <;> (try exact absurd ((by assumption : _ = false).symm.trans (h : _ = true)) (by decide))) | (refine ite_go (fun h => ?_) (fun h => ?_) <;> (try exact absurd h (by assumption)) <;> (try exact absurd (by assumption) h))) <;> (try refine Hold_P ?_) <;> (try simp -dsimp only [h, go_sem, Nat.reduceLT, Nat.reduceLeDiff, Nat.reduceEqDiff, Nat.reduceAdd, Nat.reduceMul, Int.reduceNeg, Nat.reduceBEq, reduceCtorEq, ↓reduceIte]))
    | refine Exists.intro _ (Exists.intro _ (And.intro (And.intro rfl rfl) ?_))
  all_goals simp [withinZ, *]

theorem known_spec (n : Int) (σ : Store) : PCall Try.prog 51 [.int .i64 n] σ (fun r s => r = .bool (withinZ n 1 65535) ∧ s = σ) := by
  refine PCall_q [.tmp 2] 9 Try.func51 (by rfl) rfl rfl rfl rfl ?_
  repeat' first
    | refine W_seq ?_
    | refine W_block ?_
    | ((first | refine W_region (mu := []) ?_ | (refine W_region_any [] ⟨[], [], [], [], [], [], 0⟩ mixedOrders_ok (by kernel_rfl) ?_; intro nu hn1 hn2) | refine fn_ret ?_ | refine fn_normal ?_ | refine Hold_P ?_ | refine prun_go ?_ | refine drun_go ?_); simp -dsimp only [go_sem, Nat.reduceLT, Nat.reduceLeDiff, Nat.reduceEqDiff, Nat.reduceAdd, Nat.reduceMul, Int.reduceNeg, Nat.reduceBEq, reduceCtorEq, ↓reduceIte])
    | (refine W_cond rfl (fun h => ?_) (fun h => ?_) <;> (try (cases h; done)))
    | refine W_ret ?_
    | refine W_skip ?_
    | refine W_exit ?_
    | refine then_normal ?_
    | refine then_ret ?_
    | refine then_exit ?_
    | refine inBlock_normal ?_
    | refine inBlock_ret ?_
    | refine inBlock_exit ?_
    | refine inBlock_ne (by decide) ?_
    | refine Hold_E ?_
    | (refine And.intro ?_ ?_; omega)
    | ((first | (refine ite_goB (fun h => ?_) (fun h => ?_) <;> (try exact absurd ((h : _ = false).symm.trans (by assumption : _ = true)) (by decide)) <;> (try exact absurd ((by assumption : _ = false).symm.trans (h : _ = true)) (by decide))) | (refine ite_go (fun h => ?_) (fun h => ?_) <;> (try exact absurd h (by assumption)) <;> (try exact absurd (by assumption) h))) <;> (try refine Hold_P ?_) <;> (try simp -dsimp only [h, go_sem, Nat.reduceLT, Nat.reduceLeDiff, Nat.reduceEqDiff, Nat.reduceAdd, Nat.reduceMul, Int.reduceNeg, Nat.reduceBEq, reduceCtorEq, ↓reduceIte]))
    | refine Exists.intro _ (Exists.intro _ (And.intro (And.intro rfl rfl) ?_))
  all_goals simp [withinZ, *]

theorem mayP1_spec (n : Int) (σ : Store) : PCall Try.prog 50 [.int .i64 n] σ (fun r s => r = .bool (!withinZ n 1 65535) ∧ s = σ) := by
  refine PCall_q [.tmp 2] 6 Try.func50 (by rfl) rfl rfl rfl rfl ?_
  repeat' first
    | refine W_seq ?_
    | refine W_block ?_
    | ((first | refine W_region (mu := []) ?_ | (refine W_region_any [] ⟨[], [], [], [], [], [], 0⟩ mixedOrders_ok (by kernel_rfl) ?_; intro nu hn1 hn2) | refine fn_ret ?_ | refine fn_normal ?_ | refine Hold_P ?_ | refine prun_go ?_ | refine drun_go ?_); simp -dsimp only [go_sem, Nat.reduceLT, Nat.reduceLeDiff, Nat.reduceEqDiff, Nat.reduceAdd, Nat.reduceMul, Int.reduceNeg, Nat.reduceBEq, reduceCtorEq, ↓reduceIte])
    | (refine W_cond rfl (fun h => ?_) (fun h => ?_) <;> (try (cases h; done)))
    | refine W_ret ?_
    | refine W_skip ?_
    | refine W_exit ?_
    | refine then_normal ?_
    | refine then_ret ?_
    | refine then_exit ?_
    | refine inBlock_normal ?_
    | refine inBlock_ret ?_
    | refine inBlock_exit ?_
    | refine inBlock_ne (by decide) ?_
    | refine Hold_E ?_
    | (refine And.intro ?_ ?_; omega)
    | ((first | (refine ite_goB (fun h => ?_) (fun h => ?_) <;> (try exact absurd ((h : _ = false).symm.trans (by assumption : _ = true)) (by decide)) <;> (try exact absurd ((by assumption : _ = false).symm.trans (h : _ = true)) (by decide))) | (refine ite_go (fun h => ?_) (fun h => ?_) <;> (try exact absurd h (by assumption)) <;> (try exact absurd (by assumption) h))) <;> (try refine Hold_P ?_) <;> (try simp -dsimp only [h, go_sem, Nat.reduceLT, Nat.reduceLeDiff, Nat.reduceEqDiff, Nat.reduceAdd, Nat.reduceMul, Int.reduceNeg, Nat.reduceBEq, reduceCtorEq, ↓reduceIte]))
    | refine Exists.intro _ (Exists.intro _ (And.intro (And.intro rfl rfl) ?_))
    | (refine PCall_use (known_spec _ _) ?_; rintro _ _ ⟨rfl, hq⟩; obtain rfl := hq.symm; clear hq)
    | (refine Exists.intro _ (And.intro (fun _ => known_spec _ _) ?_))
    | (refine Exists.intro _ (And.intro (known_spec _ _) ?_))
    | (refine Exists.intro _ (Exists.intro _ (And.intro (known_spec _ _) ?_)))

/-- The first place that fits, from i on; -1: none. -/
def idxZ (p : Int → Bool) : Int → List Int → Int
  | _, [] => -1
  | i, a :: l => if p a = true then i else idxZ p (i + 1) l

theorem idxZ_drop (p : Int → Bool) (l : List Int) (i : Nat) (h : i < l.length) (k : Int) : idxZ p k (l.drop i) = if p (l.getD i 0) = true then k else idxZ p (k + 1) (l.drop (i + 1)) := by
  rw [List.drop_eq_getElem_cons h]
  simp [idxZ, List.getD_eq_getElem?_getD, h]

theorem idxZ_any (p : Int → Bool) : ∀ (l : List Int) (k : Int), 0 ≤ k → decide (0 ≤ idxZ p k l) = l.any p
  | [], k, hk => by simp [idxZ]
  | a :: l, k, hk => by
    have := idxZ_any p l (k + 1) (by omega)
    by_cases h : p a = true <;> simp_all [idxZ]

theorem indexFunc_spec (f : Nat) (q : Int → Bool) (hf : ∀ (n : Int) (s : Store), PCall Try.prog f [.int .i64 n] s (fun r t => r = .bool (q n) ∧ t = s)) (k : SK) (l : List Int) (hl : l.length < 4611686018427387904) (σ : Store) :
    PCall Try.prog 59 [.sl k (ints l), .fn f []] σ (fun r s => r = .int .i64 (idxZ q 0 l) ∧ s = σ) := by
  refine PCall_q [.tmp 4] 19 Try.func59 (by rfl) rfl rfl rfl rfl ?_
  repeat' first
    | refine W_seq ?_
    | refine W_block ?_
    | ((first | refine W_region (mu := []) ?_ | (refine W_region_any [] ⟨[], [], [], [], [], [], 0⟩ mixedOrders_ok (by kernel_rfl) ?_; intro nu hn1 hn2) | refine fn_ret ?_ | refine fn_normal ?_ | refine Hold_P ?_ | refine prun_go ?_ | refine drun_go ?_); simp -dsimp only [go_sem, Nat.reduceLT, Nat.reduceLeDiff, Nat.reduceEqDiff, Nat.reduceAdd, Nat.reduceMul, Int.reduceNeg, Nat.reduceBEq, reduceCtorEq, ↓reduceIte])
    | (refine W_cond rfl (fun h => ?_) (fun h => ?_) <;> (try (cases h; done)))
    | refine W_ret ?_
    | refine W_skip ?_
    | refine W_exit ?_
    | refine then_normal ?_
    | refine then_ret ?_
    | refine then_exit ?_
    | refine inBlock_normal ?_
    | refine inBlock_ret ?_
    | refine inBlock_exit ?_
    | refine inBlock_ne (by decide) ?_
    | refine Hold_E ?_
    | (refine And.intro ?_ ?_; omega)
    | ((first | (refine ite_goB (fun h => ?_) (fun h => ?_) <;> (try exact absurd ((h : _ = false).symm.trans (by assumption : _ = true)) (by decide)) <;> (try exact absurd ((by assumption : _ = false).symm.trans (h : _ = true)) (by decide))) | (refine ite_go (fun h => ?_) (fun h => ?_) <;> (try exact absurd h (by assumption)) <;> (try exact absurd (by assumption) h))) <;> (try refine Hold_P ?_) <;> (try simp -dsimp only [h, go_sem, Nat.reduceLT, Nat.reduceLeDiff, Nat.reduceEqDiff, Nat.reduceAdd, Nat.reduceMul, Int.reduceNeg, Nat.reduceBEq, reduceCtorEq, ↓reduceIte]))
    | refine Exists.intro _ (Exists.intro _ (And.intro (And.intro rfl rfl) ?_))
  refine W_loop_st (fun i : Nat => [(0, .sl k (ints l)), (1, .fn f []), (6, .sl k (ints l)), (7, .int .i64 l.length), (8, .int .i64 i)]) (fun _ => σ) (fun i => i ≤ l.length ∧ idxZ q 0 l = idxZ q i (l.drop i)) (fun i => l.length - i) 0 ⟨Nat.zero_le _, rfl⟩ (Env.Sub_of_has (by simp [Env.Has, Env.get])) (Store.Sub.refl _) ?_
  rintro i ⟨hi, hor⟩
  by_cases hlt : i < l.length
  · have hx := getD_ints hlt
    have hd : decide ((i : Int) < (l.length : Int)) = true := decT (by omega)
    have ho := idxZ_drop q l i hlt i
    repeat' first
      | refine W_seq ?_
      | refine W_block ?_
      | ((first | refine W_region (mu := []) ?_ | (refine W_region_any [] ⟨[], [], [], [], [], [], 0⟩ mixedOrders_ok (by kernel_rfl) ?_; intro nu hn1 hn2) | refine fn_ret ?_ | refine fn_normal ?_ | refine Hold_P ?_ | refine prun_go ?_ | refine drun_go ?_); simp -dsimp only [go_sem, Nat.reduceLT, Nat.reduceLeDiff, Nat.reduceEqDiff, Nat.reduceAdd, Nat.reduceMul, Int.reduceNeg, Nat.reduceBEq, reduceCtorEq, ↓reduceIte, hx, hd])
      | (refine W_cond rfl (fun h => ?_) (fun h => ?_) <;> (try (cases h; done)))
      | refine W_ret ?_
      | refine W_skip ?_
      | refine W_exit ?_
      | refine then_normal ?_
      | refine then_ret ?_
      | refine then_exit ?_
      | refine inBlock_normal ?_
      | refine inBlock_ret ?_
      | refine inBlock_exit ?_
      | refine inBlock_ne (by decide) ?_
      | refine Hold_E ?_
      | (refine And.intro ?_ ?_; omega)
      | ((first | (refine ite_goB (fun h => ?_) (fun h => ?_) <;> (try exact absurd ((h : _ = false).symm.trans (by assumption : _ = true)) (by decide)) <;> (try exact absurd ((by assumption : _ = false).symm.trans (h : _ = true)) (by decide))) | (refine ite_go (fun h => ?_) (fun h => ?_) <;> (try exact absurd h (by assumption)) <;> (try exact absurd (by assumption) h))) <;> (try refine Hold_P ?_) <;> (try simp -dsimp only [h, go_sem, Nat.reduceLT, Nat.reduceLeDiff, Nat.reduceEqDiff, Nat.reduceAdd, Nat.reduceMul, Int.reduceNeg, Nat.reduceBEq, reduceCtorEq, ↓reduceIte, hx, hd]))
      | refine Exists.intro _ (Exists.intro _ (And.intro (And.intro rfl rfl) ?_))
      | (refine PCall_use (hf _ _) ?_; rintro _ _ ⟨rfl, hq⟩; obtain rfl := hq.symm; clear hq)
      | (refine Exists.intro _ (And.intro (fun _ => hf _ _) ?_))
      | (refine Exists.intro _ (And.intro (hf _ _) ?_))
      | (refine Exists.intro _ (Exists.intro _ (And.intro (hf _ _) ?_)))
    · rw [hor, ho, if_pos h]
    · rw [if_neg (by rw [h]; simp)] at ho
      exact ⟨i + 1, by omega, ⟨by omega, by rw [hor, ho]; rfl⟩, Env.Sub_of_has (by simp [Env.Has, Env.get, wrap_succ (show i < 4611686018427387904 by omega)]), Store.Sub.refl _⟩
  · have hd : decide ((i : Int) < (l.length : Int)) = false := decF (by omega)
    have hi' : i = l.length := by omega
    subst hi'
    repeat' first
      | refine W_seq ?_
      | refine W_block ?_
      | ((first | refine W_region (mu := []) ?_ | (refine W_region_any [] ⟨[], [], [], [], [], [], 0⟩ mixedOrders_ok (by kernel_rfl) ?_; intro nu hn1 hn2) | refine fn_ret ?_ | refine fn_normal ?_ | refine Hold_P ?_ | refine prun_go ?_ | refine drun_go ?_); simp -dsimp only [go_sem, Nat.reduceLT, Nat.reduceLeDiff, Nat.reduceEqDiff, Nat.reduceAdd, Nat.reduceMul, Int.reduceNeg, Nat.reduceBEq, reduceCtorEq, ↓reduceIte, hd])
      | (refine W_cond rfl (fun h => ?_) (fun h => ?_) <;> (try (cases h; done)))
      | refine W_ret ?_
      | refine W_skip ?_
      | refine W_exit ?_
      | refine then_normal ?_
      | refine then_ret ?_
      | refine then_exit ?_
      | refine inBlock_normal ?_
      | refine inBlock_ret ?_
      | refine inBlock_exit ?_
      | refine inBlock_ne (by decide) ?_
      | refine Hold_E ?_
      | (refine And.intro ?_ ?_; omega)
      | ((first | (refine ite_goB (fun h => ?_) (fun h => ?_) <;> (try exact absurd ((h : _ = false).symm.trans (by assumption : _ = true)) (by decide)) <;> (try exact absurd ((by assumption : _ = false).symm.trans (h : _ = true)) (by decide))) | (refine ite_go (fun h => ?_) (fun h => ?_) <;> (try exact absurd h (by assumption)) <;> (try exact absurd (by assumption) h))) <;> (try refine Hold_P ?_) <;> (try simp -dsimp only [h, go_sem, Nat.reduceLT, Nat.reduceLeDiff, Nat.reduceEqDiff, Nat.reduceAdd, Nat.reduceMul, Int.reduceNeg, Nat.reduceBEq, reduceCtorEq, ↓reduceIte, hd]))
      | refine Exists.intro _ (Exists.intro _ (And.intro (And.intro rfl rfl) ?_))
    simp [hor, idxZ]

theorem containsFunc_spec (f : Nat) (q : Int → Bool) (hf : ∀ (n : Int) (s : Store), PCall Try.prog f [.int .i64 n] s (fun r t => r = .bool (q n) ∧ t = s)) (k : SK) (l : List Int) (hl : l.length < 4611686018427387904) (σ : Store) :
    PCall Try.prog 49 [.sl k (ints l), .fn f []] σ (fun r s => r = .bool (l.any q) ∧ s = σ) := by
  refine PCall_q [.tmp 4] 9 Try.func49 (by rfl) rfl rfl rfl rfl ?_
  repeat' first
    | refine W_seq ?_
    | refine W_block ?_
    | ((first | refine W_region (mu := []) ?_ | (refine W_region_any [] ⟨[], [], [], [], [], [], 0⟩ mixedOrders_ok (by kernel_rfl) ?_; intro nu hn1 hn2) | refine fn_ret ?_ | refine fn_normal ?_ | refine Hold_P ?_ | refine prun_go ?_ | refine drun_go ?_); simp -dsimp only [go_sem, Nat.reduceLT, Nat.reduceLeDiff, Nat.reduceEqDiff, Nat.reduceAdd, Nat.reduceMul, Int.reduceNeg, Nat.reduceBEq, reduceCtorEq, ↓reduceIte])
    | (refine W_cond rfl (fun h => ?_) (fun h => ?_) <;> (try (cases h; done)))
    | refine W_ret ?_
    | refine W_skip ?_
    | refine W_exit ?_
    | refine then_normal ?_
    | refine then_ret ?_
    | refine then_exit ?_
    | refine inBlock_normal ?_
    | refine inBlock_ret ?_
    | refine inBlock_exit ?_
    | refine inBlock_ne (by decide) ?_
    | refine Hold_E ?_
    | (refine And.intro ?_ ?_; omega)
    | ((first | (refine ite_goB (fun h => ?_) (fun h => ?_) <;> (try exact absurd ((h : _ = false).symm.trans (by assumption : _ = true)) (by decide)) <;> (try exact absurd ((by assumption : _ = false).symm.trans (h : _ = true)) (by decide))) | (refine ite_go (fun h => ?_) (fun h => ?_) <;> (try exact absurd h (by assumption)) <;> (try exact absurd (by assumption) h))) <;> (try refine Hold_P ?_) <;> (try simp -dsimp only [h, go_sem, Nat.reduceLT, Nat.reduceLeDiff, Nat.reduceEqDiff, Nat.reduceAdd, Nat.reduceMul, Int.reduceNeg, Nat.reduceBEq, reduceCtorEq, ↓reduceIte]))
    | refine Exists.intro _ (Exists.intro _ (And.intro (And.intro rfl rfl) ?_))
    | (refine PCall_use (indexFunc_spec f q hf _ _ hl _) ?_; rintro _ _ ⟨rfl, hq⟩; obtain rfl := hq.symm; clear hq)
    | (refine Exists.intro _ (And.intro (fun _ => indexFunc_spec f q hf _ _ hl _) ?_))
    | (refine Exists.intro _ (And.intro (indexFunc_spec f q hf _ _ hl _) ?_))
    | (refine Exists.intro _ (Exists.intro _ (And.intro (indexFunc_spec f q hf _ _ hl _) ?_)))
  rw [idxZ_any q l 0 (by omega)]

def pathMay (l : List Int) : Bool := decide (l.length ≤ 16) && !l.any (fun n => !withinZ n 1 65535)

theorem pathMay_spec (k : SK) (l : List Int) (hl : l.length < 4611686018427387904) (σ : Store) :
    PCall Try.prog 37 [.sl k (ints l)] σ (fun r s => r = .bool (pathMay l) ∧ s = σ) := by
  refine PCall_q [.tmp 2] 11 Try.func37 (by rfl) rfl rfl rfl rfl ?_
  repeat' first
    | refine W_seq ?_
    | refine W_block ?_
    | ((first | refine W_region (mu := []) ?_ | (refine W_region_any [] ⟨[], [], [], [], [], [], 0⟩ mixedOrders_ok (by kernel_rfl) ?_; intro nu hn1 hn2) | refine fn_ret ?_ | refine fn_normal ?_ | refine Hold_P ?_ | refine prun_go ?_ | refine drun_go ?_); simp -dsimp only [go_sem, Nat.reduceLT, Nat.reduceLeDiff, Nat.reduceEqDiff, Nat.reduceAdd, Nat.reduceMul, Int.reduceNeg, Nat.reduceBEq, reduceCtorEq, ↓reduceIte])
    | (refine W_cond rfl (fun h => ?_) (fun h => ?_) <;> (try (cases h; done)))
    | refine W_ret ?_
    | refine W_skip ?_
    | refine W_exit ?_
    | refine then_normal ?_
    | refine then_ret ?_
    | refine then_exit ?_
    | refine inBlock_normal ?_
    | refine inBlock_ret ?_
    | refine inBlock_exit ?_
    | refine inBlock_ne (by decide) ?_
    | refine Hold_E ?_
    | (refine And.intro ?_ ?_; omega)
    | ((first | (refine ite_goB (fun h => ?_) (fun h => ?_) <;> (try exact absurd ((h : _ = false).symm.trans (by assumption : _ = true)) (by decide)) <;> (try exact absurd ((by assumption : _ = false).symm.trans (h : _ = true)) (by decide))) | (refine ite_go (fun h => ?_) (fun h => ?_) <;> (try exact absurd h (by assumption)) <;> (try exact absurd (by assumption) h))) <;> (try refine Hold_P ?_) <;> (try simp -dsimp only [h, go_sem, Nat.reduceLT, Nat.reduceLeDiff, Nat.reduceEqDiff, Nat.reduceAdd, Nat.reduceMul, Int.reduceNeg, Nat.reduceBEq, reduceCtorEq, ↓reduceIte]))
    | refine Exists.intro _ (Exists.intro _ (And.intro (And.intro rfl rfl) ?_))
    | (refine PCall_use (containsFunc_spec _ _ mayP1_spec _ _ hl _) ?_; rintro _ _ ⟨rfl, hq⟩; obtain rfl := hq.symm; clear hq)
    | (refine Exists.intro _ (And.intro (fun _ => containsFunc_spec _ _ mayP1_spec _ _ hl _) ?_))
    | (refine Exists.intro _ (And.intro (containsFunc_spec _ _ mayP1_spec _ _ hl _) ?_))
    | (refine Exists.intro _ (Exists.intro _ (And.intro (containsFunc_spec _ _ mayP1_spec _ _ hl _) ?_)))
  · have h' : l.length ≤ 16 := by omega
    simp only [pathMay, decT h', Bool.true_and]
  · have h' : ¬ l.length ≤ 16 := by omega
    simp only [pathMay, decF h', Bool.false_and]

def commMay (c : Int × Int) : Bool := withinZ c.1 1 65535 && withinZ c.2 0 65535

theorem commMay_spec (c : Int × Int) (σ : Store) : PCall Try.prog 52 [.agg [.int .i64 c.1, .int .i64 c.2]] σ (fun r s => r = .bool (commMay c) ∧ s = σ) := by
  refine PCall_q [.tmp 2] 21 Try.func52 (by rfl) rfl rfl rfl rfl ?_
  repeat' first
    | refine W_seq ?_
    | refine W_block ?_
    | ((first | refine W_region (mu := []) ?_ | (refine W_region_any [] ⟨[], [], [], [], [], [], 0⟩ mixedOrders_ok (by kernel_rfl) ?_; intro nu hn1 hn2) | refine fn_ret ?_ | refine fn_normal ?_ | refine Hold_P ?_ | refine prun_go ?_ | refine drun_go ?_); simp -dsimp only [go_sem, Nat.reduceLT, Nat.reduceLeDiff, Nat.reduceEqDiff, Nat.reduceAdd, Nat.reduceMul, Int.reduceNeg, Nat.reduceBEq, reduceCtorEq, ↓reduceIte])
    | (refine W_cond rfl (fun h => ?_) (fun h => ?_) <;> (try (cases h; done)))
    | refine W_ret ?_
    | refine W_skip ?_
    | refine W_exit ?_
    | refine then_normal ?_
    | refine then_ret ?_
    | refine then_exit ?_
    | refine inBlock_normal ?_
    | refine inBlock_ret ?_
    | refine inBlock_exit ?_
    | refine inBlock_ne (by decide) ?_
    | refine Hold_E ?_
    | (refine And.intro ?_ ?_; omega)
    | ((first | (refine ite_goB (fun h => ?_) (fun h => ?_) <;> (try exact absurd ((h : _ = false).symm.trans (by assumption : _ = true)) (by decide)) <;> (try exact absurd ((by assumption : _ = false).symm.trans (h : _ = true)) (by decide))) | (refine ite_go (fun h => ?_) (fun h => ?_) <;> (try exact absurd h (by assumption)) <;> (try exact absurd (by assumption) h))) <;> (try refine Hold_P ?_) <;> (try simp -dsimp only [h, go_sem, Nat.reduceLT, Nat.reduceLeDiff, Nat.reduceEqDiff, Nat.reduceAdd, Nat.reduceMul, Int.reduceNeg, Nat.reduceBEq, reduceCtorEq, ↓reduceIte]))
    | refine Exists.intro _ (Exists.intro _ (And.intro (And.intro rfl rfl) ?_))
  all_goals simp [commMay, withinZ, *]

theorem index_spec (k : SK) (l : List Int) (hl : l.length < 4611686018427387904) (v : Int) (σ : Store) :
    PCall Try.prog 60 [.sl k (ints l), .int .i64 v] σ (fun r s => r = .int .i64 (idxZ (fun n => decide (v = n)) 0 l) ∧ s = σ) := by
  refine PCall_q [.tmp 4] 19 Try.func60 (by rfl) rfl rfl rfl rfl ?_
  repeat' first
    | refine W_seq ?_
    | refine W_block ?_
    | ((first | refine W_region (mu := []) ?_ | (refine W_region_any [] ⟨[], [], [], [], [], [], 0⟩ mixedOrders_ok (by kernel_rfl) ?_; intro nu hn1 hn2) | refine fn_ret ?_ | refine fn_normal ?_ | refine Hold_P ?_ | refine prun_go ?_ | refine drun_go ?_); simp -dsimp only [go_sem, Nat.reduceLT, Nat.reduceLeDiff, Nat.reduceEqDiff, Nat.reduceAdd, Nat.reduceMul, Int.reduceNeg, Nat.reduceBEq, reduceCtorEq, ↓reduceIte])
    | (refine W_cond rfl (fun h => ?_) (fun h => ?_) <;> (try (cases h; done)))
    | refine W_ret ?_
    | refine W_skip ?_
    | refine W_exit ?_
    | refine then_normal ?_
    | refine then_ret ?_
    | refine then_exit ?_
    | refine inBlock_normal ?_
    | refine inBlock_ret ?_
    | refine inBlock_exit ?_
    | refine inBlock_ne (by decide) ?_
    | refine Hold_E ?_
    | (refine And.intro ?_ ?_; omega)
    | ((first | (refine ite_goB (fun h => ?_) (fun h => ?_) <;> (try exact absurd ((h : _ = false).symm.trans (by assumption : _ = true)) (by decide)) <;> (try exact absurd ((by assumption : _ = false).symm.trans (h : _ = true)) (by decide))) | (refine ite_go (fun h => ?_) (fun h => ?_) <;> (try exact absurd h (by assumption)) <;> (try exact absurd (by assumption) h))) <;> (try refine Hold_P ?_) <;> (try simp -dsimp only [h, go_sem, Nat.reduceLT, Nat.reduceLeDiff, Nat.reduceEqDiff, Nat.reduceAdd, Nat.reduceMul, Int.reduceNeg, Nat.reduceBEq, reduceCtorEq, ↓reduceIte]))
    | refine Exists.intro _ (Exists.intro _ (And.intro (And.intro rfl rfl) ?_))
  refine W_loop_st (fun i : Nat => [(0, .sl k (ints l)), (1, .int .i64 v), (6, .sl k (ints l)), (7, .int .i64 l.length), (8, .int .i64 i)]) (fun _ => σ) (fun i => i ≤ l.length ∧ idxZ (fun n => decide (v = n)) 0 l = idxZ (fun n => decide (v = n)) i (l.drop i)) (fun i => l.length - i) 0 ⟨Nat.zero_le _, rfl⟩ (Env.Sub_of_has (by simp [Env.Has, Env.get])) (Store.Sub.refl _) ?_
  rintro i ⟨hi, hor⟩
  by_cases hlt : i < l.length
  · have hx := getD_ints hlt
    have hd : decide ((i : Int) < (l.length : Int)) = true := decT (by omega)
    have ho := idxZ_drop (fun n => decide (v = n)) l i hlt i
    repeat' first
      | refine W_seq ?_
      | refine W_block ?_
      | ((first | refine W_region (mu := []) ?_ | (refine W_region_any [] ⟨[], [], [], [], [], [], 0⟩ mixedOrders_ok (by kernel_rfl) ?_; intro nu hn1 hn2) | refine fn_ret ?_ | refine fn_normal ?_ | refine Hold_P ?_ | refine prun_go ?_ | refine drun_go ?_); simp -dsimp only [go_sem, Nat.reduceLT, Nat.reduceLeDiff, Nat.reduceEqDiff, Nat.reduceAdd, Nat.reduceMul, Int.reduceNeg, Nat.reduceBEq, reduceCtorEq, ↓reduceIte, hx, hd])
      | (refine W_cond rfl (fun h => ?_) (fun h => ?_) <;> (try (cases h; done)))
      | refine W_ret ?_
      | refine W_skip ?_
      | refine W_exit ?_
      | refine then_normal ?_
      | refine then_ret ?_
      | refine then_exit ?_
      | refine inBlock_normal ?_
      | refine inBlock_ret ?_
      | refine inBlock_exit ?_
      | refine inBlock_ne (by decide) ?_
      | refine Hold_E ?_
      | (refine And.intro ?_ ?_; omega)
      | ((first | (refine ite_goB (fun h => ?_) (fun h => ?_) <;> (try exact absurd ((h : _ = false).symm.trans (by assumption : _ = true)) (by decide)) <;> (try exact absurd ((by assumption : _ = false).symm.trans (h : _ = true)) (by decide))) | (refine ite_go (fun h => ?_) (fun h => ?_) <;> (try exact absurd h (by assumption)) <;> (try exact absurd (by assumption) h))) <;> (try refine Hold_P ?_) <;> (try simp -dsimp only [h, go_sem, Nat.reduceLT, Nat.reduceLeDiff, Nat.reduceEqDiff, Nat.reduceAdd, Nat.reduceMul, Int.reduceNeg, Nat.reduceBEq, reduceCtorEq, ↓reduceIte, hx, hd]))
      | refine Exists.intro _ (Exists.intro _ (And.intro (And.intro rfl rfl) ?_))
    · rw [hor, ho, if_pos h]
    · rw [if_neg (by rw [h]; simp)] at ho
      exact ⟨i + 1, by omega, ⟨by omega, by rw [hor, ho]; rfl⟩, Env.Sub_of_has (by simp [Env.Has, Env.get, wrap_succ (show i < 4611686018427387904 by omega)]), Store.Sub.refl _⟩
  · have hd : decide ((i : Int) < (l.length : Int)) = false := decF (by omega)
    have hi' : i = l.length := by omega
    subst hi'
    repeat' first
      | refine W_seq ?_
      | refine W_block ?_
      | ((first | refine W_region (mu := []) ?_ | (refine W_region_any [] ⟨[], [], [], [], [], [], 0⟩ mixedOrders_ok (by kernel_rfl) ?_; intro nu hn1 hn2) | refine fn_ret ?_ | refine fn_normal ?_ | refine Hold_P ?_ | refine prun_go ?_ | refine drun_go ?_); simp -dsimp only [go_sem, Nat.reduceLT, Nat.reduceLeDiff, Nat.reduceEqDiff, Nat.reduceAdd, Nat.reduceMul, Int.reduceNeg, Nat.reduceBEq, reduceCtorEq, ↓reduceIte, hd])
      | (refine W_cond rfl (fun h => ?_) (fun h => ?_) <;> (try (cases h; done)))
      | refine W_ret ?_
      | refine W_skip ?_
      | refine W_exit ?_
      | refine then_normal ?_
      | refine then_ret ?_
      | refine then_exit ?_
      | refine inBlock_normal ?_
      | refine inBlock_ret ?_
      | refine inBlock_exit ?_
      | refine inBlock_ne (by decide) ?_
      | refine Hold_E ?_
      | (refine And.intro ?_ ?_; omega)
      | ((first | (refine ite_goB (fun h => ?_) (fun h => ?_) <;> (try exact absurd ((h : _ = false).symm.trans (by assumption : _ = true)) (by decide)) <;> (try exact absurd ((by assumption : _ = false).symm.trans (h : _ = true)) (by decide))) | (refine ite_go (fun h => ?_) (fun h => ?_) <;> (try exact absurd h (by assumption)) <;> (try exact absurd (by assumption) h))) <;> (try refine Hold_P ?_) <;> (try simp -dsimp only [h, go_sem, Nat.reduceLT, Nat.reduceLeDiff, Nat.reduceEqDiff, Nat.reduceAdd, Nat.reduceMul, Int.reduceNeg, Nat.reduceBEq, reduceCtorEq, ↓reduceIte, hd]))
      | refine Exists.intro _ (Exists.intro _ (And.intro (And.intro rfl rfl) ?_))
    simp [hor, idxZ]

theorem contains_spec (k : SK) (l : List Int) (hl : l.length < 4611686018427387904) (v : Int) (σ : Store) :
    PCall Try.prog 53 [.sl k (ints l), .int .i64 v] σ (fun r s => r = .bool (l.any fun n => decide (v = n)) ∧ s = σ) := by
  refine PCall_q [.tmp 4] 9 Try.func53 (by rfl) rfl rfl rfl rfl ?_
  repeat' first
    | refine W_seq ?_
    | refine W_block ?_
    | ((first | refine W_region (mu := []) ?_ | (refine W_region_any [] ⟨[], [], [], [], [], [], 0⟩ mixedOrders_ok (by kernel_rfl) ?_; intro nu hn1 hn2) | refine fn_ret ?_ | refine fn_normal ?_ | refine Hold_P ?_ | refine prun_go ?_ | refine drun_go ?_); simp -dsimp only [go_sem, Nat.reduceLT, Nat.reduceLeDiff, Nat.reduceEqDiff, Nat.reduceAdd, Nat.reduceMul, Int.reduceNeg, Nat.reduceBEq, reduceCtorEq, ↓reduceIte])
    | (refine W_cond rfl (fun h => ?_) (fun h => ?_) <;> (try (cases h; done)))
    | refine W_ret ?_
    | refine W_skip ?_
    | refine W_exit ?_
    | refine then_normal ?_
    | refine then_ret ?_
    | refine then_exit ?_
    | refine inBlock_normal ?_
    | refine inBlock_ret ?_
    | refine inBlock_exit ?_
    | refine inBlock_ne (by decide) ?_
    | refine Hold_E ?_
    | (refine And.intro ?_ ?_; omega)
    | ((first | (refine ite_goB (fun h => ?_) (fun h => ?_) <;> (try exact absurd ((h : _ = false).symm.trans (by assumption : _ = true)) (by decide)) <;> (try exact absurd ((by assumption : _ = false).symm.trans (h : _ = true)) (by decide))) | (refine ite_go (fun h => ?_) (fun h => ?_) <;> (try exact absurd h (by assumption)) <;> (try exact absurd (by assumption) h))) <;> (try refine Hold_P ?_) <;> (try simp -dsimp only [h, go_sem, Nat.reduceLT, Nat.reduceLeDiff, Nat.reduceEqDiff, Nat.reduceAdd, Nat.reduceMul, Int.reduceNeg, Nat.reduceBEq, reduceCtorEq, ↓reduceIte]))
    | refine Exists.intro _ (Exists.intro _ (And.intro (And.intro rfl rfl) ?_))
    | (refine PCall_use (index_spec _ _ hl _ _) ?_; rintro _ _ ⟨rfl, hq⟩; obtain rfl := hq.symm; clear hq)
    | (refine Exists.intro _ (And.intro (fun _ => index_spec _ _ hl _ _) ?_))
    | (refine Exists.intro _ (And.intro (index_spec _ _ hl _ _) ?_))
    | (refine Exists.intro _ (Exists.intro _ (And.intro (index_spec _ _ hl _ _) ?_)))
  rw [idxZ_any _ l 0 (by omega)]

/-- From place i on, with those ahead. -/
def clustersZ : List Int → List Int → Bool
  | _, [] => true
  | p, c :: l => !decide (p.length = 8) && withinZ c 1 65535 && !(p.any fun n => decide (c = n)) && clustersZ (p ++ [c]) l

theorem clustersZ_drop (l : List Int) (i : Nat) (h : i < l.length) : clustersZ (l.take i) (l.drop i) = (!decide (i = 8) && withinZ (l.getD i 0) 1 65535 && !((l.take i).any fun n => decide (l.getD i 0 = n)) && clustersZ (l.take (i + 1)) (l.drop (i + 1))) := by
  have hg : l.getD i 0 = l[i] := by simp [List.getD_eq_getElem?_getD, h]
  rw [List.drop_eq_getElem_cons h, clustersZ, hg, List.take_succ_eq_append_getElem h]
  simp [Nat.min_eq_left (Nat.le_of_lt h)]

theorem clusters_spec (k : SK) (l : List Int) (hl : l.length < 4611686018427387904) (σ : Store) :
    PCall Try.prog 39 [.sl k (ints l)] σ (fun r s => r = .bool (clustersZ [] l) ∧ s = σ) := by
  refine PCall_q [.tmp 2] 27 Try.func39 (by rfl) rfl rfl rfl rfl ?_
  repeat' first
    | refine W_seq ?_
    | refine W_block ?_
    | ((first | refine W_region (mu := []) ?_ | (refine W_region_any [] ⟨[], [], [], [], [], [], 0⟩ mixedOrders_ok (by kernel_rfl) ?_; intro nu hn1 hn2) | refine fn_ret ?_ | refine fn_normal ?_ | refine Hold_P ?_ | refine prun_go ?_ | refine drun_go ?_); simp -dsimp only [go_sem, Nat.reduceLT, Nat.reduceLeDiff, Nat.reduceEqDiff, Nat.reduceAdd, Nat.reduceMul, Int.reduceNeg, Nat.reduceBEq, reduceCtorEq, ↓reduceIte])
    | (refine W_cond rfl (fun h => ?_) (fun h => ?_) <;> (try (cases h; done)))
    | refine W_ret ?_
    | refine W_skip ?_
    | refine W_exit ?_
    | refine then_normal ?_
    | refine then_ret ?_
    | refine then_exit ?_
    | refine inBlock_normal ?_
    | refine inBlock_ret ?_
    | refine inBlock_exit ?_
    | refine inBlock_ne (by decide) ?_
    | refine Hold_E ?_
    | (refine And.intro ?_ ?_; omega)
    | ((first | (refine ite_goB (fun h => ?_) (fun h => ?_) <;> (try exact absurd ((h : _ = false).symm.trans (by assumption : _ = true)) (by decide)) <;> (try exact absurd ((by assumption : _ = false).symm.trans (h : _ = true)) (by decide))) | (refine ite_go (fun h => ?_) (fun h => ?_) <;> (try exact absurd h (by assumption)) <;> (try exact absurd (by assumption) h))) <;> (try refine Hold_P ?_) <;> (try simp -dsimp only [h, go_sem, Nat.reduceLT, Nat.reduceLeDiff, Nat.reduceEqDiff, Nat.reduceAdd, Nat.reduceMul, Int.reduceNeg, Nat.reduceBEq, reduceCtorEq, ↓reduceIte]))
    | refine Exists.intro _ (Exists.intro _ (And.intro (And.intro rfl rfl) ?_))
  have hE : clustersZ [] l = clustersZ (l.take 0) (l.drop 0) := by simp
  refine W_loop_st (fun i : Nat => [(0, .sl k (ints l)), (5, .sl k (ints l)), (6, .int .i64 l.length), (7, .int .i64 i)]) (fun _ => σ) (fun i => i ≤ l.length ∧ clustersZ [] l = clustersZ (l.take i) (l.drop i)) (fun i => l.length - i) 0 ⟨Nat.zero_le _, hE⟩ (Env.Sub_of_has (by simp [Env.Has, Env.get])) (Store.Sub.refl _) ?_
  rintro i ⟨hi, hor⟩
  by_cases hlt : i < l.length
  · have hx := getD_ints hlt
    have hd : decide ((i : Int) < (l.length : Int)) = true := decT (by omega)
    have ho := clustersZ_drop l i hlt
    have htl : (l.take i).length < 4611686018427387904 := by rw [List.length_take]; omega
    have hle : (i : Int) ≤ (l.length : Int) := by omega
    by_cases h8 : i = 8
    · have h8' : ((i : Int) = 8) = True := by simp; omega
      rw [decT h8] at ho
      repeat' first
        | refine W_seq ?_
        | refine W_block ?_
        | ((first | refine W_region (mu := []) ?_ | (refine W_region_any [] ⟨[], [], [], [], [], [], 0⟩ mixedOrders_ok (by kernel_rfl) ?_; intro nu hn1 hn2) | refine fn_ret ?_ | refine fn_normal ?_ | refine Hold_P ?_ | refine prun_go ?_ | refine drun_go ?_); simp -dsimp only [go_sem, Nat.reduceLT, Nat.reduceLeDiff, Nat.reduceEqDiff, Nat.reduceAdd, Nat.reduceMul, Int.reduceNeg, Nat.reduceBEq, reduceCtorEq, ↓reduceIte, hx, hd, hle, h8'])
        | (refine W_cond rfl (fun h => ?_) (fun h => ?_) <;> (try (cases h; done)))
        | refine W_ret ?_
        | refine W_skip ?_
        | refine W_exit ?_
        | refine then_normal ?_
        | refine then_ret ?_
        | refine then_exit ?_
        | refine inBlock_normal ?_
        | refine inBlock_ret ?_
        | refine inBlock_exit ?_
        | refine inBlock_ne (by decide) ?_
        | refine Hold_E ?_
        | (refine And.intro ?_ ?_; omega)
        | ((first | (refine ite_goB (fun h => ?_) (fun h => ?_) <;> (try exact absurd ((h : _ = false).symm.trans (by assumption : _ = true)) (by decide)) <;> (try exact absurd ((by assumption : _ = false).symm.trans (h : _ = true)) (by decide))) | (refine ite_go (fun h => ?_) (fun h => ?_) <;> (try exact absurd h (by assumption)) <;> (try exact absurd (by assumption) h))) <;> (try refine Hold_P ?_) <;> (try simp -dsimp only [h, go_sem, Nat.reduceLT, Nat.reduceLeDiff, Nat.reduceEqDiff, Nat.reduceAdd, Nat.reduceMul, Int.reduceNeg, Nat.reduceBEq, reduceCtorEq, ↓reduceIte, hx, hd, hle, h8']))
        | refine Exists.intro _ (Exists.intro _ (And.intro (And.intro rfl rfl) ?_))
        | (refine PCall_use (within_spec _ _ _ _) ?_; rintro _ _ ⟨rfl, hq⟩; obtain rfl := hq.symm; clear hq)
        | (refine Exists.intro _ (And.intro (fun _ => within_spec _ _ _ _) ?_))
        | (refine Exists.intro _ (And.intro (within_spec _ _ _ _) ?_))
        | (refine Exists.intro _ (Exists.intro _ (And.intro (within_spec _ _ _ _) ?_)))
        | (refine PCall_use (contains_spec _ _ htl _ _) ?_; rintro _ _ ⟨rfl, hq⟩; obtain rfl := hq.symm; clear hq)
        | (refine Exists.intro _ (And.intro (fun _ => contains_spec _ _ htl _ _) ?_))
        | (refine Exists.intro _ (And.intro (contains_spec _ _ htl _ _) ?_))
        | (refine Exists.intro _ (Exists.intro _ (And.intro (contains_spec _ _ htl _ _) ?_)))
      rw [hor, ho]; rfl
    · have h8' : ((i : Int) = 8) = False := by simp; omega
      rw [decF h8] at ho
      rcases Bool.eq_false_or_eq_true (withinZ (l.getD i 0) 1 65535) with hw | hw
      · rcases Bool.eq_false_or_eq_true ((l.take i).any fun n => decide (l.getD i 0 = n)) with hc | hc
        · rw [hw, hc] at ho
          repeat' first
            | refine W_seq ?_
            | refine W_block ?_
            | ((first | refine W_region (mu := []) ?_ | (refine W_region_any [] ⟨[], [], [], [], [], [], 0⟩ mixedOrders_ok (by kernel_rfl) ?_; intro nu hn1 hn2) | refine fn_ret ?_ | refine fn_normal ?_ | refine Hold_P ?_ | refine prun_go ?_ | refine drun_go ?_); simp -dsimp only [go_sem, Nat.reduceLT, Nat.reduceLeDiff, Nat.reduceEqDiff, Nat.reduceAdd, Nat.reduceMul, Int.reduceNeg, Nat.reduceBEq, reduceCtorEq, ↓reduceIte, hx, hd, hle, h8', hw, hc])
            | (refine W_cond rfl (fun h => ?_) (fun h => ?_) <;> (try (cases h; done)))
            | refine W_ret ?_
            | refine W_skip ?_
            | refine W_exit ?_
            | refine then_normal ?_
            | refine then_ret ?_
            | refine then_exit ?_
            | refine inBlock_normal ?_
            | refine inBlock_ret ?_
            | refine inBlock_exit ?_
            | refine inBlock_ne (by decide) ?_
            | refine Hold_E ?_
            | (refine And.intro ?_ ?_; omega)
            | ((first | (refine ite_goB (fun h => ?_) (fun h => ?_) <;> (try exact absurd ((h : _ = false).symm.trans (by assumption : _ = true)) (by decide)) <;> (try exact absurd ((by assumption : _ = false).symm.trans (h : _ = true)) (by decide))) | (refine ite_go (fun h => ?_) (fun h => ?_) <;> (try exact absurd h (by assumption)) <;> (try exact absurd (by assumption) h))) <;> (try refine Hold_P ?_) <;> (try simp -dsimp only [h, go_sem, Nat.reduceLT, Nat.reduceLeDiff, Nat.reduceEqDiff, Nat.reduceAdd, Nat.reduceMul, Int.reduceNeg, Nat.reduceBEq, reduceCtorEq, ↓reduceIte, hx, hd, hle, h8', hw, hc]))
            | refine Exists.intro _ (Exists.intro _ (And.intro (And.intro rfl rfl) ?_))
            | (refine PCall_use (within_spec _ _ _ _) ?_; rintro _ _ ⟨rfl, hq⟩; obtain rfl := hq.symm; clear hq)
            | (refine Exists.intro _ (And.intro (fun _ => within_spec _ _ _ _) ?_))
            | (refine Exists.intro _ (And.intro (within_spec _ _ _ _) ?_))
            | (refine Exists.intro _ (Exists.intro _ (And.intro (within_spec _ _ _ _) ?_)))
            | (refine PCall_use (contains_spec _ _ htl _ _) ?_; rintro _ _ ⟨rfl, hq⟩; obtain rfl := hq.symm; clear hq)
            | (refine Exists.intro _ (And.intro (fun _ => contains_spec _ _ htl _ _) ?_))
            | (refine Exists.intro _ (And.intro (contains_spec _ _ htl _ _) ?_))
            | (refine Exists.intro _ (Exists.intro _ (And.intro (contains_spec _ _ htl _ _) ?_)))
          rw [hor, ho]; rfl
        · rw [hw, hc] at ho
          repeat' first
            | refine W_seq ?_
            | refine W_block ?_
            | ((first | refine W_region (mu := []) ?_ | (refine W_region_any [] ⟨[], [], [], [], [], [], 0⟩ mixedOrders_ok (by kernel_rfl) ?_; intro nu hn1 hn2) | refine fn_ret ?_ | refine fn_normal ?_ | refine Hold_P ?_ | refine prun_go ?_ | refine drun_go ?_); simp -dsimp only [go_sem, Nat.reduceLT, Nat.reduceLeDiff, Nat.reduceEqDiff, Nat.reduceAdd, Nat.reduceMul, Int.reduceNeg, Nat.reduceBEq, reduceCtorEq, ↓reduceIte, hx, hd, hle, h8', hw, hc])
            | (refine W_cond rfl (fun h => ?_) (fun h => ?_) <;> (try (cases h; done)))
            | refine W_ret ?_
            | refine W_skip ?_
            | refine W_exit ?_
            | refine then_normal ?_
            | refine then_ret ?_
            | refine then_exit ?_
            | refine inBlock_normal ?_
            | refine inBlock_ret ?_
            | refine inBlock_exit ?_
            | refine inBlock_ne (by decide) ?_
            | refine Hold_E ?_
            | (refine And.intro ?_ ?_; omega)
            | ((first | (refine ite_goB (fun h => ?_) (fun h => ?_) <;> (try exact absurd ((h : _ = false).symm.trans (by assumption : _ = true)) (by decide)) <;> (try exact absurd ((by assumption : _ = false).symm.trans (h : _ = true)) (by decide))) | (refine ite_go (fun h => ?_) (fun h => ?_) <;> (try exact absurd h (by assumption)) <;> (try exact absurd (by assumption) h))) <;> (try refine Hold_P ?_) <;> (try simp -dsimp only [h, go_sem, Nat.reduceLT, Nat.reduceLeDiff, Nat.reduceEqDiff, Nat.reduceAdd, Nat.reduceMul, Int.reduceNeg, Nat.reduceBEq, reduceCtorEq, ↓reduceIte, hx, hd, hle, h8', hw, hc]))
            | refine Exists.intro _ (Exists.intro _ (And.intro (And.intro rfl rfl) ?_))
            | (refine PCall_use (within_spec _ _ _ _) ?_; rintro _ _ ⟨rfl, hq⟩; obtain rfl := hq.symm; clear hq)
            | (refine Exists.intro _ (And.intro (fun _ => within_spec _ _ _ _) ?_))
            | (refine Exists.intro _ (And.intro (within_spec _ _ _ _) ?_))
            | (refine Exists.intro _ (Exists.intro _ (And.intro (within_spec _ _ _ _) ?_)))
            | (refine PCall_use (contains_spec _ _ htl _ _) ?_; rintro _ _ ⟨rfl, hq⟩; obtain rfl := hq.symm; clear hq)
            | (refine Exists.intro _ (And.intro (fun _ => contains_spec _ _ htl _ _) ?_))
            | (refine Exists.intro _ (And.intro (contains_spec _ _ htl _ _) ?_))
            | (refine Exists.intro _ (Exists.intro _ (And.intro (contains_spec _ _ htl _ _) ?_)))
          exact ⟨i + 1, by omega, ⟨by omega, by rw [hor, ho]; rfl⟩, Env.Sub_of_has (by simp [Env.Has, Env.get, wrap_succ (show i < 4611686018427387904 by omega)]), Store.Sub.refl _⟩
      · rw [hw] at ho
        repeat' first
          | refine W_seq ?_
          | refine W_block ?_
          | ((first | refine W_region (mu := []) ?_ | (refine W_region_any [] ⟨[], [], [], [], [], [], 0⟩ mixedOrders_ok (by kernel_rfl) ?_; intro nu hn1 hn2) | refine fn_ret ?_ | refine fn_normal ?_ | refine Hold_P ?_ | refine prun_go ?_ | refine drun_go ?_); simp -dsimp only [go_sem, Nat.reduceLT, Nat.reduceLeDiff, Nat.reduceEqDiff, Nat.reduceAdd, Nat.reduceMul, Int.reduceNeg, Nat.reduceBEq, reduceCtorEq, ↓reduceIte, hx, hd, hle, h8', hw])
          | (refine W_cond rfl (fun h => ?_) (fun h => ?_) <;> (try (cases h; done)))
          | refine W_ret ?_
          | refine W_skip ?_
          | refine W_exit ?_
          | refine then_normal ?_
          | refine then_ret ?_
          | refine then_exit ?_
          | refine inBlock_normal ?_
          | refine inBlock_ret ?_
          | refine inBlock_exit ?_
          | refine inBlock_ne (by decide) ?_
          | refine Hold_E ?_
          | (refine And.intro ?_ ?_; omega)
          | ((first | (refine ite_goB (fun h => ?_) (fun h => ?_) <;> (try exact absurd ((h : _ = false).symm.trans (by assumption : _ = true)) (by decide)) <;> (try exact absurd ((by assumption : _ = false).symm.trans (h : _ = true)) (by decide))) | (refine ite_go (fun h => ?_) (fun h => ?_) <;> (try exact absurd h (by assumption)) <;> (try exact absurd (by assumption) h))) <;> (try refine Hold_P ?_) <;> (try simp -dsimp only [h, go_sem, Nat.reduceLT, Nat.reduceLeDiff, Nat.reduceEqDiff, Nat.reduceAdd, Nat.reduceMul, Int.reduceNeg, Nat.reduceBEq, reduceCtorEq, ↓reduceIte, hx, hd, hle, h8', hw]))
          | refine Exists.intro _ (Exists.intro _ (And.intro (And.intro rfl rfl) ?_))
          | (refine PCall_use (within_spec _ _ _ _) ?_; rintro _ _ ⟨rfl, hq⟩; obtain rfl := hq.symm; clear hq)
          | (refine Exists.intro _ (And.intro (fun _ => within_spec _ _ _ _) ?_))
          | (refine Exists.intro _ (And.intro (within_spec _ _ _ _) ?_))
          | (refine Exists.intro _ (Exists.intro _ (And.intro (within_spec _ _ _ _) ?_)))
          | (refine PCall_use (contains_spec _ _ htl _ _) ?_; rintro _ _ ⟨rfl, hq⟩; obtain rfl := hq.symm; clear hq)
          | (refine Exists.intro _ (And.intro (fun _ => contains_spec _ _ htl _ _) ?_))
          | (refine Exists.intro _ (And.intro (contains_spec _ _ htl _ _) ?_))
          | (refine Exists.intro _ (Exists.intro _ (And.intro (contains_spec _ _ htl _ _) ?_)))
        rw [hor, ho]; rfl
  · have hd : decide ((i : Int) < (l.length : Int)) = false := decF (by omega)
    have hi' : i = l.length := by omega
    subst hi'
    repeat' first
      | refine W_seq ?_
      | refine W_block ?_
      | ((first | refine W_region (mu := []) ?_ | (refine W_region_any [] ⟨[], [], [], [], [], [], 0⟩ mixedOrders_ok (by kernel_rfl) ?_; intro nu hn1 hn2) | refine fn_ret ?_ | refine fn_normal ?_ | refine Hold_P ?_ | refine prun_go ?_ | refine drun_go ?_); simp -dsimp only [go_sem, Nat.reduceLT, Nat.reduceLeDiff, Nat.reduceEqDiff, Nat.reduceAdd, Nat.reduceMul, Int.reduceNeg, Nat.reduceBEq, reduceCtorEq, ↓reduceIte, hd])
      | (refine W_cond rfl (fun h => ?_) (fun h => ?_) <;> (try (cases h; done)))
      | refine W_ret ?_
      | refine W_skip ?_
      | refine W_exit ?_
      | refine then_normal ?_
      | refine then_ret ?_
      | refine then_exit ?_
      | refine inBlock_normal ?_
      | refine inBlock_ret ?_
      | refine inBlock_exit ?_
      | refine inBlock_ne (by decide) ?_
      | refine Hold_E ?_
      | (refine And.intro ?_ ?_; omega)
      | ((first | (refine ite_goB (fun h => ?_) (fun h => ?_) <;> (try exact absurd ((h : _ = false).symm.trans (by assumption : _ = true)) (by decide)) <;> (try exact absurd ((by assumption : _ = false).symm.trans (h : _ = true)) (by decide))) | (refine ite_go (fun h => ?_) (fun h => ?_) <;> (try exact absurd h (by assumption)) <;> (try exact absurd (by assumption) h))) <;> (try refine Hold_P ?_) <;> (try simp -dsimp only [h, go_sem, Nat.reduceLT, Nat.reduceLeDiff, Nat.reduceEqDiff, Nat.reduceAdd, Nat.reduceMul, Int.reduceNeg, Nat.reduceBEq, reduceCtorEq, ↓reduceIte, hd]))
      | refine Exists.intro _ (Exists.intro _ (And.intro (And.intro rfl rfl) ?_))
    simp [hor, clustersZ]

/-- From place i on, with what stands ahead. -/
def setZ : Option (Int × Int) → List (Int × Int) → Bool
  | _, [] => true
  | none, c :: l => commMay c && setZ (some c) l
  | some b, c :: l => commMay c && decide (ordC b c < 0) && setZ (some c) l
def commSet (l : List (Int × Int)) : Bool := decide (l.length ≤ 8) && setZ none l

def lastOf (l : List (Int × Int)) (i : Nat) : Option (Int × Int) := if i = 0 then none else some (l.getD (i - 1) (0, 0))

theorem setZ_zero (l : List (Int × Int)) (h : 0 < l.length) : setZ (lastOf l 0) (l.drop 0) = (commMay (l.getD 0 (0, 0)) && setZ (lastOf l 1) (l.drop 1)) := by
  cases l with
  | nil => cases h
  | cons a l => simp [setZ, lastOf]
theorem setZ_drop (l : List (Int × Int)) (i : Nat) (h0 : i ≠ 0) (h : i < l.length) : setZ (lastOf l i) (l.drop i) = (commMay (l.getD i (0, 0)) && decide (ordC (l.getD (i - 1) (0, 0)) (l.getD i (0, 0)) < 0) && setZ (lastOf l (i + 1)) (l.drop (i + 1))) := by
  rw [List.drop_eq_getElem_cons h, lastOf, if_neg h0, setZ]
  simp [lastOf, List.getD_eq_getElem?_getD, h]

theorem commSet_spec (k : SK) (l : List (Int × Int)) (hl : l.length < 4611686018427387904) (σ : Store) :
    PCall Try.prog 38 [.sl k (comms l)] σ (fun r s => r = .bool (commSet l) ∧ s = σ) := by
  refine PCall_q [.tmp 2] 33 Try.func38 (by rfl) rfl rfl rfl rfl ?_
  repeat' first
    | refine W_seq ?_
    | refine W_block ?_
    | ((first | refine W_region (mu := []) ?_ | (refine W_region_any [] ⟨[], [], [], [], [], [], 0⟩ mixedOrders_ok (by kernel_rfl) ?_; intro nu hn1 hn2) | refine fn_ret ?_ | refine fn_normal ?_ | refine Hold_P ?_ | refine prun_go ?_ | refine drun_go ?_); simp -dsimp only [go_sem, Nat.reduceLT, Nat.reduceLeDiff, Nat.reduceEqDiff, Nat.reduceAdd, Nat.reduceMul, Int.reduceNeg, Nat.reduceBEq, reduceCtorEq, ↓reduceIte, length_comms])
    | (refine W_cond rfl (fun h => ?_) (fun h => ?_) <;> (try (cases h; done)))
    | refine W_ret ?_
    | refine W_skip ?_
    | refine W_exit ?_
    | refine then_normal ?_
    | refine then_ret ?_
    | refine then_exit ?_
    | refine inBlock_normal ?_
    | refine inBlock_ret ?_
    | refine inBlock_exit ?_
    | refine inBlock_ne (by decide) ?_
    | refine Hold_E ?_
    | (refine And.intro ?_ ?_; omega)
    | ((first | (refine ite_goB (fun h => ?_) (fun h => ?_) <;> (try exact absurd ((h : _ = false).symm.trans (by assumption : _ = true)) (by decide)) <;> (try exact absurd ((by assumption : _ = false).symm.trans (h : _ = true)) (by decide))) | (refine ite_go (fun h => ?_) (fun h => ?_) <;> (try exact absurd h (by assumption)) <;> (try exact absurd (by assumption) h))) <;> (try refine Hold_P ?_) <;> (try simp -dsimp only [h, go_sem, Nat.reduceLT, Nat.reduceLeDiff, Nat.reduceEqDiff, Nat.reduceAdd, Nat.reduceMul, Int.reduceNeg, Nat.reduceBEq, reduceCtorEq, ↓reduceIte, length_comms]))
    | refine Exists.intro _ (Exists.intro _ (And.intro (And.intro rfl rfl) ?_))
  · have h8 : ¬ l.length ≤ 8 := by simp at h; omega
    rw [commSet, decF h8]; rfl
  have h8 : l.length ≤ 8 := by simp at h; omega
  have hE : commSet l = setZ (lastOf l 0) (l.drop 0) := by rw [commSet, decT h8]; rfl
  refine W_loop_st (fun i : Nat => [(0, .sl k (comms l)), (8, .sl k (comms l)), (9, .int .i64 l.length), (10, .int .i64 i)]) (fun _ => σ) (fun i => i ≤ l.length ∧ commSet l = setZ (lastOf l i) (l.drop i)) (fun i => l.length - i) 0 ⟨Nat.zero_le _, hE⟩ (Env.Sub_of_has (by simp [Env.Has, Env.get])) (Store.Sub.refl _) ?_
  rintro i ⟨hi, hor⟩
  by_cases hlt : i < l.length
  · have hx := getD_comms hlt
    have hd : decide ((i : Int) < (l.length : Int)) = true := decT (by omega)
    rcases Bool.eq_false_or_eq_true (commMay (l.getD i (0, 0))) with hc | hc
    · by_cases h0 : i = 0
      · have h0' : decide (0 < (i : Int)) = false := decF (by omega)
        have ho := setZ_zero l (by omega)
        subst h0
        rw [hc] at ho
        repeat' first
          | refine W_seq ?_
          | refine W_block ?_
          | ((first | refine W_region (mu := []) ?_ | (refine W_region_any (id := 6) [] ⟨[0,12], [], [], [], [], [], 0⟩ mixedOrders_ok (by kernel_rfl) ?_; intro nu hn1 hn2) | (refine W_region_any [] ⟨[], [], [], [], [], [], 0⟩ mixedOrders_ok (by kernel_rfl) ?_; intro nu hn1 hn2) | refine fn_ret ?_ | refine fn_normal ?_ | refine Hold_P ?_ | refine prun_go ?_ | refine drun_go ?_); simp -dsimp only [go_sem, Nat.reduceLT, Nat.reduceLeDiff, Nat.reduceEqDiff, Nat.reduceAdd, Nat.reduceMul, Int.reduceNeg, Nat.reduceBEq, reduceCtorEq, ↓reduceIte, length_comms, hx, hd, hc, h0'])
          | (refine W_cond rfl (fun h => ?_) (fun h => ?_) <;> (try (cases h; done)))
          | refine W_ret ?_
          | refine W_skip ?_
          | refine W_exit ?_
          | refine then_normal ?_
          | refine then_ret ?_
          | refine then_exit ?_
          | refine inBlock_normal ?_
          | refine inBlock_ret ?_
          | refine inBlock_exit ?_
          | refine inBlock_ne (by decide) ?_
          | refine Hold_E ?_
          | (refine And.intro ?_ ?_; omega)
          | ((first | (refine ite_goB (fun h => ?_) (fun h => ?_) <;> (try exact absurd ((h : _ = false).symm.trans (by assumption : _ = true)) (by decide)) <;> (try exact absurd ((by assumption : _ = false).symm.trans (h : _ = true)) (by decide))) | (refine ite_go (fun h => ?_) (fun h => ?_) <;> (try exact absurd h (by assumption)) <;> (try exact absurd (by assumption) h))) <;> (try refine Hold_P ?_) <;> (try simp -dsimp only [h, go_sem, Nat.reduceLT, Nat.reduceLeDiff, Nat.reduceEqDiff, Nat.reduceAdd, Nat.reduceMul, Int.reduceNeg, Nat.reduceBEq, reduceCtorEq, ↓reduceIte, length_comms, hx, hd, hc, h0']))
          | refine Exists.intro _ (Exists.intro _ (And.intro (And.intro rfl rfl) ?_))
          | (refine PCall_use (commMay_spec _ _) ?_; rintro _ _ ⟨rfl, hq⟩; obtain rfl := hq.symm; clear hq)
          | (refine Exists.intro _ (And.intro (fun _ => commMay_spec _ _) ?_))
          | (refine Exists.intro _ (And.intro (commMay_spec _ _) ?_))
          | (refine Exists.intro _ (Exists.intro _ (And.intro (commMay_spec _ _) ?_)))
          | (refine PCall_use (order_spec _ _ _) ?_; rintro _ _ ⟨rfl, hq⟩; obtain rfl := hq.symm; clear hq)
          | (refine Exists.intro _ (And.intro (fun _ => order_spec _ _ _) ?_))
          | (refine Exists.intro _ (And.intro (order_spec _ _ _) ?_))
          | (refine Exists.intro _ (Exists.intro _ (And.intro (order_spec _ _ _) ?_)))
        intro o1 ho1
        repeat' first
          | refine W_seq ?_
          | refine W_block ?_
          | ((first | refine W_region (mu := []) ?_ | (refine W_region_any (id := 6) [] ⟨[0,12], [], [], [], [], [], 0⟩ mixedOrders_ok (by kernel_rfl) ?_; intro nu hn1 hn2) | (refine W_region_any [] ⟨[], [], [], [], [], [], 0⟩ mixedOrders_ok (by kernel_rfl) ?_; intro nu hn1 hn2) | refine fn_ret ?_ | refine fn_normal ?_ | refine Hold_P ?_ | refine prun_go ?_ | refine drun_go ?_); simp -dsimp only [go_sem, Nat.reduceLT, Nat.reduceLeDiff, Nat.reduceEqDiff, Nat.reduceAdd, Nat.reduceMul, Int.reduceNeg, Nat.reduceBEq, reduceCtorEq, ↓reduceIte, length_comms, hx, hd, hc, h0'])
          | (refine W_cond rfl (fun h => ?_) (fun h => ?_) <;> (try (cases h; done)))
          | refine W_ret ?_
          | refine W_skip ?_
          | refine W_exit ?_
          | refine then_normal ?_
          | refine then_ret ?_
          | refine then_exit ?_
          | refine inBlock_normal ?_
          | refine inBlock_ret ?_
          | refine inBlock_exit ?_
          | refine inBlock_ne (by decide) ?_
          | refine Hold_E ?_
          | (refine And.intro ?_ ?_; omega)
          | ((first | (refine ite_goB (fun h => ?_) (fun h => ?_) <;> (try exact absurd ((h : _ = false).symm.trans (by assumption : _ = true)) (by decide)) <;> (try exact absurd ((by assumption : _ = false).symm.trans (h : _ = true)) (by decide))) | (refine ite_go (fun h => ?_) (fun h => ?_) <;> (try exact absurd h (by assumption)) <;> (try exact absurd (by assumption) h))) <;> (try refine Hold_P ?_) <;> (try simp -dsimp only [h, go_sem, Nat.reduceLT, Nat.reduceLeDiff, Nat.reduceEqDiff, Nat.reduceAdd, Nat.reduceMul, Int.reduceNeg, Nat.reduceBEq, reduceCtorEq, ↓reduceIte, length_comms, hx, hd, hc, h0']))
          | refine Exists.intro _ (Exists.intro _ (And.intro (And.intro rfl rfl) ?_))
          | (refine PCall_use (commMay_spec _ _) ?_; rintro _ _ ⟨rfl, hq⟩; obtain rfl := hq.symm; clear hq)
          | (refine Exists.intro _ (And.intro (fun _ => commMay_spec _ _) ?_))
          | (refine Exists.intro _ (And.intro (commMay_spec _ _) ?_))
          | (refine Exists.intro _ (Exists.intro _ (And.intro (commMay_spec _ _) ?_)))
          | (refine PCall_use (order_spec _ _ _) ?_; rintro _ _ ⟨rfl, hq⟩; obtain rfl := hq.symm; clear hq)
          | (refine Exists.intro _ (And.intro (fun _ => order_spec _ _ _) ?_))
          | (refine Exists.intro _ (And.intro (order_spec _ _ _) ?_))
          | (refine Exists.intro _ (Exists.intro _ (And.intro (order_spec _ _ _) ?_)))
        exact ⟨1, by omega, ⟨by omega, by rw [hor, ho]; rfl⟩, Env.Sub_of_has (by simp [Env.Has, Env.get, (by decide : IntKind.i64.wrap 1 = 1)]), Sub_put (Store.Sub.refl _) ho1 _⟩
      · have h0' : decide (0 < (i : Int)) = true := decT (by omega)
        have ho := setZ_drop l i h0 hlt
        have hw : IntKind.i64.wrap ((i : Int) - 1) = ((i - 1 : Nat) : Int) := by rw [wrap64_id (by omega) (by omega)]; omega
        have hx2 := getD_comms (l := l) (i := i - 1) (by omega)
        have hlt2 : (((i - 1 : Nat) : Int) < (l.length : Int)) = True := by simp; omega
        rw [hc] at ho
        by_cases hq : ordC (l.getD (i - 1) (0, 0)) (l.getD i (0, 0)) < 0
        · have hq' : decide (0 ≤ ordC (l.getD (i - 1) (0, 0)) (l.getD i (0, 0))) = false := decF (by omega)
          rw [decT hq] at ho
          repeat' first
            | refine W_seq ?_
            | refine W_block ?_
            | ((first | refine W_region (mu := []) ?_ | (refine W_region_any (id := 6) [] ⟨[0,12], [], [], [], [], [], 0⟩ mixedOrders_ok (by kernel_rfl) ?_; intro nu hn1 hn2) | (refine W_region_any [] ⟨[], [], [], [], [], [], 0⟩ mixedOrders_ok (by kernel_rfl) ?_; intro nu hn1 hn2) | refine fn_ret ?_ | refine fn_normal ?_ | refine Hold_P ?_ | refine prun_go ?_ | refine drun_go ?_); simp -dsimp only [go_sem, Nat.reduceLT, Nat.reduceLeDiff, Nat.reduceEqDiff, Nat.reduceAdd, Nat.reduceMul, Int.reduceNeg, Nat.reduceBEq, reduceCtorEq, ↓reduceIte, length_comms, hx, hx2, hlt2, hd, hc, h0', hw, hq'])
            | (refine W_cond rfl (fun h => ?_) (fun h => ?_) <;> (try (cases h; done)))
            | refine W_ret ?_
            | refine W_skip ?_
            | refine W_exit ?_
            | refine then_normal ?_
            | refine then_ret ?_
            | refine then_exit ?_
            | refine inBlock_normal ?_
            | refine inBlock_ret ?_
            | refine inBlock_exit ?_
            | refine inBlock_ne (by decide) ?_
            | refine Hold_E ?_
            | (refine And.intro ?_ ?_; omega)
            | ((first | (refine ite_goB (fun h => ?_) (fun h => ?_) <;> (try exact absurd ((h : _ = false).symm.trans (by assumption : _ = true)) (by decide)) <;> (try exact absurd ((by assumption : _ = false).symm.trans (h : _ = true)) (by decide))) | (refine ite_go (fun h => ?_) (fun h => ?_) <;> (try exact absurd h (by assumption)) <;> (try exact absurd (by assumption) h))) <;> (try refine Hold_P ?_) <;> (try simp -dsimp only [h, go_sem, Nat.reduceLT, Nat.reduceLeDiff, Nat.reduceEqDiff, Nat.reduceAdd, Nat.reduceMul, Int.reduceNeg, Nat.reduceBEq, reduceCtorEq, ↓reduceIte, length_comms, hx, hx2, hlt2, hd, hc, h0', hw, hq']))
            | refine Exists.intro _ (Exists.intro _ (And.intro (And.intro rfl rfl) ?_))
            | (refine PCall_use (commMay_spec _ _) ?_; rintro _ _ ⟨rfl, hq⟩; obtain rfl := hq.symm; clear hq)
            | (refine Exists.intro _ (And.intro (fun _ => commMay_spec _ _) ?_))
            | (refine Exists.intro _ (And.intro (commMay_spec _ _) ?_))
            | (refine Exists.intro _ (Exists.intro _ (And.intro (commMay_spec _ _) ?_)))
            | (refine PCall_use (order_spec _ _ _) ?_; rintro _ _ ⟨rfl, hq⟩; obtain rfl := hq.symm; clear hq)
            | (refine Exists.intro _ (And.intro (fun _ => order_spec _ _ _) ?_))
            | (refine Exists.intro _ (And.intro (order_spec _ _ _) ?_))
            | (refine Exists.intro _ (Exists.intro _ (And.intro (order_spec _ _ _) ?_)))
          intro o1 ho1
          repeat' first
            | refine W_seq ?_
            | refine W_block ?_
            | ((first | refine W_region (mu := []) ?_ | (refine W_region_any (id := 6) [] ⟨[0,12], [], [], [], [], [], 0⟩ mixedOrders_ok (by kernel_rfl) ?_; intro nu hn1 hn2) | (refine W_region_any [] ⟨[], [], [], [], [], [], 0⟩ mixedOrders_ok (by kernel_rfl) ?_; intro nu hn1 hn2) | refine fn_ret ?_ | refine fn_normal ?_ | refine Hold_P ?_ | refine prun_go ?_ | refine drun_go ?_); simp -dsimp only [go_sem, Nat.reduceLT, Nat.reduceLeDiff, Nat.reduceEqDiff, Nat.reduceAdd, Nat.reduceMul, Int.reduceNeg, Nat.reduceBEq, reduceCtorEq, ↓reduceIte, length_comms, hx, hx2, hlt2, hd, hc, h0', hw, hq'])
            | (refine W_cond rfl (fun h => ?_) (fun h => ?_) <;> (try (cases h; done)))
            | refine W_ret ?_
            | refine W_skip ?_
            | refine W_exit ?_
            | refine then_normal ?_
            | refine then_ret ?_
            | refine then_exit ?_
            | refine inBlock_normal ?_
            | refine inBlock_ret ?_
            | refine inBlock_exit ?_
            | refine inBlock_ne (by decide) ?_
            | refine Hold_E ?_
            | (refine And.intro ?_ ?_; omega)
            | ((first | (refine ite_goB (fun h => ?_) (fun h => ?_) <;> (try exact absurd ((h : _ = false).symm.trans (by assumption : _ = true)) (by decide)) <;> (try exact absurd ((by assumption : _ = false).symm.trans (h : _ = true)) (by decide))) | (refine ite_go (fun h => ?_) (fun h => ?_) <;> (try exact absurd h (by assumption)) <;> (try exact absurd (by assumption) h))) <;> (try refine Hold_P ?_) <;> (try simp -dsimp only [h, go_sem, Nat.reduceLT, Nat.reduceLeDiff, Nat.reduceEqDiff, Nat.reduceAdd, Nat.reduceMul, Int.reduceNeg, Nat.reduceBEq, reduceCtorEq, ↓reduceIte, length_comms, hx, hx2, hlt2, hd, hc, h0', hw, hq']))
            | refine Exists.intro _ (Exists.intro _ (And.intro (And.intro rfl rfl) ?_))
            | (refine PCall_use (commMay_spec _ _) ?_; rintro _ _ ⟨rfl, hq⟩; obtain rfl := hq.symm; clear hq)
            | (refine Exists.intro _ (And.intro (fun _ => commMay_spec _ _) ?_))
            | (refine Exists.intro _ (And.intro (commMay_spec _ _) ?_))
            | (refine Exists.intro _ (Exists.intro _ (And.intro (commMay_spec _ _) ?_)))
            | (refine PCall_use (order_spec _ _ _) ?_; rintro _ _ ⟨rfl, hq⟩; obtain rfl := hq.symm; clear hq)
            | (refine Exists.intro _ (And.intro (fun _ => order_spec _ _ _) ?_))
            | (refine Exists.intro _ (And.intro (order_spec _ _ _) ?_))
            | (refine Exists.intro _ (Exists.intro _ (And.intro (order_spec _ _ _) ?_)))
          exact ⟨i + 1, by omega, ⟨by omega, by rw [hor, ho]; rfl⟩, Env.Sub_of_has (by simp [Env.Has, Env.get, wrap_succ (show i < 4611686018427387904 by omega)]), Sub_put (Store.Sub.refl _) ho1 _⟩
        · have hq' : decide (0 ≤ ordC (l.getD (i - 1) (0, 0)) (l.getD i (0, 0))) = true := decT (by omega)
          rw [decF hq] at ho
          repeat' first
            | refine W_seq ?_
            | refine W_block ?_
            | ((first | refine W_region (mu := []) ?_ | (refine W_region_any (id := 6) [] ⟨[0,12], [], [], [], [], [], 0⟩ mixedOrders_ok (by kernel_rfl) ?_; intro nu hn1 hn2) | (refine W_region_any [] ⟨[], [], [], [], [], [], 0⟩ mixedOrders_ok (by kernel_rfl) ?_; intro nu hn1 hn2) | refine fn_ret ?_ | refine fn_normal ?_ | refine Hold_P ?_ | refine prun_go ?_ | refine drun_go ?_); simp -dsimp only [go_sem, Nat.reduceLT, Nat.reduceLeDiff, Nat.reduceEqDiff, Nat.reduceAdd, Nat.reduceMul, Int.reduceNeg, Nat.reduceBEq, reduceCtorEq, ↓reduceIte, length_comms, hx, hx2, hlt2, hd, hc, h0', hw, hq'])
            | (refine W_cond rfl (fun h => ?_) (fun h => ?_) <;> (try (cases h; done)))
            | refine W_ret ?_
            | refine W_skip ?_
            | refine W_exit ?_
            | refine then_normal ?_
            | refine then_ret ?_
            | refine then_exit ?_
            | refine inBlock_normal ?_
            | refine inBlock_ret ?_
            | refine inBlock_exit ?_
            | refine inBlock_ne (by decide) ?_
            | refine Hold_E ?_
            | (refine And.intro ?_ ?_; omega)
            | ((first | (refine ite_goB (fun h => ?_) (fun h => ?_) <;> (try exact absurd ((h : _ = false).symm.trans (by assumption : _ = true)) (by decide)) <;> (try exact absurd ((by assumption : _ = false).symm.trans (h : _ = true)) (by decide))) | (refine ite_go (fun h => ?_) (fun h => ?_) <;> (try exact absurd h (by assumption)) <;> (try exact absurd (by assumption) h))) <;> (try refine Hold_P ?_) <;> (try simp -dsimp only [h, go_sem, Nat.reduceLT, Nat.reduceLeDiff, Nat.reduceEqDiff, Nat.reduceAdd, Nat.reduceMul, Int.reduceNeg, Nat.reduceBEq, reduceCtorEq, ↓reduceIte, length_comms, hx, hx2, hlt2, hd, hc, h0', hw, hq']))
            | refine Exists.intro _ (Exists.intro _ (And.intro (And.intro rfl rfl) ?_))
            | (refine PCall_use (commMay_spec _ _) ?_; rintro _ _ ⟨rfl, hq⟩; obtain rfl := hq.symm; clear hq)
            | (refine Exists.intro _ (And.intro (fun _ => commMay_spec _ _) ?_))
            | (refine Exists.intro _ (And.intro (commMay_spec _ _) ?_))
            | (refine Exists.intro _ (Exists.intro _ (And.intro (commMay_spec _ _) ?_)))
            | (refine PCall_use (order_spec _ _ _) ?_; rintro _ _ ⟨rfl, hq⟩; obtain rfl := hq.symm; clear hq)
            | (refine Exists.intro _ (And.intro (fun _ => order_spec _ _ _) ?_))
            | (refine Exists.intro _ (And.intro (order_spec _ _ _) ?_))
            | (refine Exists.intro _ (Exists.intro _ (And.intro (order_spec _ _ _) ?_)))
          intro o1 ho1
          repeat' first
            | refine W_seq ?_
            | refine W_block ?_
            | ((first | refine W_region (mu := []) ?_ | (refine W_region_any (id := 6) [] ⟨[0,12], [], [], [], [], [], 0⟩ mixedOrders_ok (by kernel_rfl) ?_; intro nu hn1 hn2) | (refine W_region_any [] ⟨[], [], [], [], [], [], 0⟩ mixedOrders_ok (by kernel_rfl) ?_; intro nu hn1 hn2) | refine fn_ret ?_ | refine fn_normal ?_ | refine Hold_P ?_ | refine prun_go ?_ | refine drun_go ?_); simp -dsimp only [go_sem, Nat.reduceLT, Nat.reduceLeDiff, Nat.reduceEqDiff, Nat.reduceAdd, Nat.reduceMul, Int.reduceNeg, Nat.reduceBEq, reduceCtorEq, ↓reduceIte, length_comms, hx, hx2, hlt2, hd, hc, h0', hw, hq'])
            | (refine W_cond rfl (fun h => ?_) (fun h => ?_) <;> (try (cases h; done)))
            | refine W_ret ?_
            | refine W_skip ?_
            | refine W_exit ?_
            | refine then_normal ?_
            | refine then_ret ?_
            | refine then_exit ?_
            | refine inBlock_normal ?_
            | refine inBlock_ret ?_
            | refine inBlock_exit ?_
            | refine inBlock_ne (by decide) ?_
            | refine Hold_E ?_
            | (refine And.intro ?_ ?_; omega)
            | ((first | (refine ite_goB (fun h => ?_) (fun h => ?_) <;> (try exact absurd ((h : _ = false).symm.trans (by assumption : _ = true)) (by decide)) <;> (try exact absurd ((by assumption : _ = false).symm.trans (h : _ = true)) (by decide))) | (refine ite_go (fun h => ?_) (fun h => ?_) <;> (try exact absurd h (by assumption)) <;> (try exact absurd (by assumption) h))) <;> (try refine Hold_P ?_) <;> (try simp -dsimp only [h, go_sem, Nat.reduceLT, Nat.reduceLeDiff, Nat.reduceEqDiff, Nat.reduceAdd, Nat.reduceMul, Int.reduceNeg, Nat.reduceBEq, reduceCtorEq, ↓reduceIte, length_comms, hx, hx2, hlt2, hd, hc, h0', hw, hq']))
            | refine Exists.intro _ (Exists.intro _ (And.intro (And.intro rfl rfl) ?_))
            | (refine PCall_use (commMay_spec _ _) ?_; rintro _ _ ⟨rfl, hq⟩; obtain rfl := hq.symm; clear hq)
            | (refine Exists.intro _ (And.intro (fun _ => commMay_spec _ _) ?_))
            | (refine Exists.intro _ (And.intro (commMay_spec _ _) ?_))
            | (refine Exists.intro _ (Exists.intro _ (And.intro (commMay_spec _ _) ?_)))
            | (refine PCall_use (order_spec _ _ _) ?_; rintro _ _ ⟨rfl, hq⟩; obtain rfl := hq.symm; clear hq)
            | (refine Exists.intro _ (And.intro (fun _ => order_spec _ _ _) ?_))
            | (refine Exists.intro _ (And.intro (order_spec _ _ _) ?_))
            | (refine Exists.intro _ (Exists.intro _ (And.intro (order_spec _ _ _) ?_)))
          exact ⟨by rw [hor, ho]; rfl, Sub_put (Store.Sub.refl _) ho1 _⟩
    · skip
      repeat' first
        | refine W_seq ?_
        | refine W_block ?_
        | ((first | refine W_region (mu := []) ?_ | (refine W_region_any (id := 6) [] ⟨[0,12], [], [], [], [], [], 0⟩ mixedOrders_ok (by kernel_rfl) ?_; intro nu hn1 hn2) | (refine W_region_any [] ⟨[], [], [], [], [], [], 0⟩ mixedOrders_ok (by kernel_rfl) ?_; intro nu hn1 hn2) | refine fn_ret ?_ | refine fn_normal ?_ | refine Hold_P ?_ | refine prun_go ?_ | refine drun_go ?_); simp -dsimp only [go_sem, Nat.reduceLT, Nat.reduceLeDiff, Nat.reduceEqDiff, Nat.reduceAdd, Nat.reduceMul, Int.reduceNeg, Nat.reduceBEq, reduceCtorEq, ↓reduceIte, length_comms, hx, hd, hc])
        | (refine W_cond rfl (fun h => ?_) (fun h => ?_) <;> (try (cases h; done)))
        | refine W_ret ?_
        | refine W_skip ?_
        | refine W_exit ?_
        | refine then_normal ?_
        | refine then_ret ?_
        | refine then_exit ?_
        | refine inBlock_normal ?_
        | refine inBlock_ret ?_
        | refine inBlock_exit ?_
        | refine inBlock_ne (by decide) ?_
        | refine Hold_E ?_
        | (refine And.intro ?_ ?_; omega)
        | ((first | (refine ite_goB (fun h => ?_) (fun h => ?_) <;> (try exact absurd ((h : _ = false).symm.trans (by assumption : _ = true)) (by decide)) <;> (try exact absurd ((by assumption : _ = false).symm.trans (h : _ = true)) (by decide))) | (refine ite_go (fun h => ?_) (fun h => ?_) <;> (try exact absurd h (by assumption)) <;> (try exact absurd (by assumption) h))) <;> (try refine Hold_P ?_) <;> (try simp -dsimp only [h, go_sem, Nat.reduceLT, Nat.reduceLeDiff, Nat.reduceEqDiff, Nat.reduceAdd, Nat.reduceMul, Int.reduceNeg, Nat.reduceBEq, reduceCtorEq, ↓reduceIte, length_comms, hx, hd, hc]))
        | refine Exists.intro _ (Exists.intro _ (And.intro (And.intro rfl rfl) ?_))
        | (refine PCall_use (commMay_spec _ _) ?_; rintro _ _ ⟨rfl, hq⟩; obtain rfl := hq.symm; clear hq)
        | (refine Exists.intro _ (And.intro (fun _ => commMay_spec _ _) ?_))
        | (refine Exists.intro _ (And.intro (commMay_spec _ _) ?_))
        | (refine Exists.intro _ (Exists.intro _ (And.intro (commMay_spec _ _) ?_)))
        | (refine PCall_use (order_spec _ _ _) ?_; rintro _ _ ⟨rfl, hq⟩; obtain rfl := hq.symm; clear hq)
        | (refine Exists.intro _ (And.intro (fun _ => order_spec _ _ _) ?_))
        | (refine Exists.intro _ (And.intro (order_spec _ _ _) ?_))
        | (refine Exists.intro _ (Exists.intro _ (And.intro (order_spec _ _ _) ?_)))
      intro o1 ho1
      repeat' first
        | refine W_seq ?_
        | refine W_block ?_
        | ((first | refine W_region (mu := []) ?_ | (refine W_region_any (id := 6) [] ⟨[0,12], [], [], [], [], [], 0⟩ mixedOrders_ok (by kernel_rfl) ?_; intro nu hn1 hn2) | (refine W_region_any [] ⟨[], [], [], [], [], [], 0⟩ mixedOrders_ok (by kernel_rfl) ?_; intro nu hn1 hn2) | refine fn_ret ?_ | refine fn_normal ?_ | refine Hold_P ?_ | refine prun_go ?_ | refine drun_go ?_); simp -dsimp only [go_sem, Nat.reduceLT, Nat.reduceLeDiff, Nat.reduceEqDiff, Nat.reduceAdd, Nat.reduceMul, Int.reduceNeg, Nat.reduceBEq, reduceCtorEq, ↓reduceIte, length_comms, hx, hd, hc])
        | (refine W_cond rfl (fun h => ?_) (fun h => ?_) <;> (try (cases h; done)))
        | refine W_ret ?_
        | refine W_skip ?_
        | refine W_exit ?_
        | refine then_normal ?_
        | refine then_ret ?_
        | refine then_exit ?_
        | refine inBlock_normal ?_
        | refine inBlock_ret ?_
        | refine inBlock_exit ?_
        | refine inBlock_ne (by decide) ?_
        | refine Hold_E ?_
        | (refine And.intro ?_ ?_; omega)
        | ((first | (refine ite_goB (fun h => ?_) (fun h => ?_) <;> (try exact absurd ((h : _ = false).symm.trans (by assumption : _ = true)) (by decide)) <;> (try exact absurd ((by assumption : _ = false).symm.trans (h : _ = true)) (by decide))) | (refine ite_go (fun h => ?_) (fun h => ?_) <;> (try exact absurd h (by assumption)) <;> (try exact absurd (by assumption) h))) <;> (try refine Hold_P ?_) <;> (try simp -dsimp only [h, go_sem, Nat.reduceLT, Nat.reduceLeDiff, Nat.reduceEqDiff, Nat.reduceAdd, Nat.reduceMul, Int.reduceNeg, Nat.reduceBEq, reduceCtorEq, ↓reduceIte, length_comms, hx, hd, hc]))
        | refine Exists.intro _ (Exists.intro _ (And.intro (And.intro rfl rfl) ?_))
        | (refine PCall_use (commMay_spec _ _) ?_; rintro _ _ ⟨rfl, hq⟩; obtain rfl := hq.symm; clear hq)
        | (refine Exists.intro _ (And.intro (fun _ => commMay_spec _ _) ?_))
        | (refine Exists.intro _ (And.intro (commMay_spec _ _) ?_))
        | (refine Exists.intro _ (Exists.intro _ (And.intro (commMay_spec _ _) ?_)))
        | (refine PCall_use (order_spec _ _ _) ?_; rintro _ _ ⟨rfl, hq⟩; obtain rfl := hq.symm; clear hq)
        | (refine Exists.intro _ (And.intro (fun _ => order_spec _ _ _) ?_))
        | (refine Exists.intro _ (And.intro (order_spec _ _ _) ?_))
        | (refine Exists.intro _ (Exists.intro _ (And.intro (order_spec _ _ _) ?_)))
      refine ⟨?_, Sub_put (Store.Sub.refl _) ho1 _⟩
      by_cases h0 : i = 0
      · subst h0
        rw [hor, setZ_zero l (by omega), hc]; rfl
      · rw [hor, setZ_drop l i h0 hlt, hc]; rfl
  · have hd : decide ((i : Int) < (l.length : Int)) = false := decF (by omega)
    have hi' : i = l.length := by omega
    subst hi'
    repeat' first
      | refine W_seq ?_
      | refine W_block ?_
      | ((first | refine W_region (mu := []) ?_ | (refine W_region_any [] ⟨[], [], [], [], [], [], 0⟩ mixedOrders_ok (by kernel_rfl) ?_; intro nu hn1 hn2) | refine fn_ret ?_ | refine fn_normal ?_ | refine Hold_P ?_ | refine prun_go ?_ | refine drun_go ?_); simp -dsimp only [go_sem, Nat.reduceLT, Nat.reduceLeDiff, Nat.reduceEqDiff, Nat.reduceAdd, Nat.reduceMul, Int.reduceNeg, Nat.reduceBEq, reduceCtorEq, ↓reduceIte, hd])
      | (refine W_cond rfl (fun h => ?_) (fun h => ?_) <;> (try (cases h; done)))
      | refine W_ret ?_
      | refine W_skip ?_
      | refine W_exit ?_
      | refine then_normal ?_
      | refine then_ret ?_
      | refine then_exit ?_
      | refine inBlock_normal ?_
      | refine inBlock_ret ?_
      | refine inBlock_exit ?_
      | refine inBlock_ne (by decide) ?_
      | refine Hold_E ?_
      | (refine And.intro ?_ ?_; omega)
      | ((first | (refine ite_goB (fun h => ?_) (fun h => ?_) <;> (try exact absurd ((h : _ = false).symm.trans (by assumption : _ = true)) (by decide)) <;> (try exact absurd ((by assumption : _ = false).symm.trans (h : _ = true)) (by decide))) | (refine ite_go (fun h => ?_) (fun h => ?_) <;> (try exact absurd h (by assumption)) <;> (try exact absurd (by assumption) h))) <;> (try refine Hold_P ?_) <;> (try simp -dsimp only [h, go_sem, Nat.reduceLT, Nat.reduceLeDiff, Nat.reduceEqDiff, Nat.reduceAdd, Nat.reduceMul, Int.reduceNeg, Nat.reduceBEq, reduceCtorEq, ↓reduceIte, hd]))
      | refine Exists.intro _ (Exists.intro _ (And.intro (And.intro rfl rfl) ?_))
    rw [hor, List.drop_length]
    cases lastOf l l.length <;> rfl

end Go.Proofs.Ytlbhhoojbokblaa
