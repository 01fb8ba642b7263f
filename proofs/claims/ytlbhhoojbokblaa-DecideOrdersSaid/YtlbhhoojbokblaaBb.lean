/- Contracts of swapRange and rotate. Conditions: none. -/
import Derived.Test.YtlbhhoojbokblaaTy
import Derived.Test.YtlbhhoojbokblaaBa
set_option linter.unusedVariables false
set_option linter.unusedSimpArgs false
namespace Go.Proofs.Ytlbhhoojbokblaa
open Go.Kern
set_option maxRecDepth 100000
set_option maxHeartbeats 4000000
attribute [local go_sem] drun_nil drun_cons prun_nil prun_cons wrOk tqOk lateOp lateB dstOk ev ofConst leafOf Env.putO Env.get envOf readRs_nil oneRes nilSide SK.isNil isMu fillA partsFit boundA SK.cut SK.cutFull SK.fresh rowOk rowsOk_nil rowsOk_cons rowsOk_append rowsOk_ints splice oneOf keyKind cellsKind cellKind cellsB cellB zeroFits TK.agg AV.cells AV.known AV.one List.set_cons_zero List.set_cons_succ put_same put_put forall_const implies_true exists_eq_left exists_eq_left' exists_eq_right exists_eq Store.Sub.refl and_self Int.toNat_natCast length_ints List.length_map true_and and_true decide_true decide_false if_true if_false Bool.false_eq_true Bool.true_eq_false List.getElem?_cons_zero List.getElem?_cons_succ List.length_cons List.length_nil List.drop_zero List.drop_succ_cons List.take_succ_cons List.take_zero List.drop_nil List.take_nil List.append_nil List.map_cons List.map_nil List.cons_append List.nil_append beq_self_eq_true Bool.false_beq Bool.true_beq Bool.not_true Bool.not_false Option.map_some Option.map_none Option.bind_some ne_eq not_false_eq_true List.contains_cons List.contains_nil Bool.or_false Bool.or_true Bool.and_true Bool.and_false Bool.true_and Bool.false_and List.all_cons List.all_nil Nat.one_ne_zero Nat.zero_ne_one Option.isSome_some Option.isSome_none List.getElem?_toArray beq_true beq_false decide_eq_true_eq Int.toNat_zero forall_ints take_ints drop_ints Int.le_refl Int.natCast_nonneg Nat.zero_add Nat.add_zero or_true true_or false_or or_false
attribute [local go_sem ↓] allocN guardP OpSem callA readRs_cons readR binA intOpA strOpA nilOpA unA convA boxA allocA behind loadA buildA buildSliceA fieldAddrA fieldA indexAddrA indexA lenA sliceA extractA nilCheckA storeA lookupA mapSetA mapDelA makeSliceA appendA appendN apN
attribute [local irreducible] PCall W

theorem get_ints {ls : List Int} {i : Nat} (h : i < ls.length) : (ints ls)[i]? = some (.int .i64 (gd ls i)) := by simp [ints, gd, List.getD_eq_getElem?_getD, h]
theorem set_ints (ls : List Int) (i : Nat) (v : Int) : (ints ls).set i (.int .i64 v) = ints (ls.set i v) := by unfold ints; rw [List.map_set]
theorem swp_eq (ls : List Int) (i j : Nat) : (ls.set i (gd ls j)).set j (gd ls i) = swp ls i j := rfl
theorem wadd {a b c : Nat} (h : c = a + b) (hc : c < 4611686018427387904) : IntKind.i64.wrap ((a : Int) + (b : Int)) = (c : Int) := by rw [wrap64_id (by omega) (by omega)]; omega
theorem wsub {a b c : Nat} (h : c + b = a) (hc : a < 4611686018427387904) : IntKind.i64.wrap ((a : Int) - (b : Int)) = (c : Int) := by rw [wrap64_id (by omega) (by omega)]; omega

theorem swapRange_spec (ls : List Int) (a b n : Nat) (h1 : a + n ≤ b) (h2 : b + n ≤ ls.length) (hbig : ls.length < 1000000) (f : AV) (o : Nat) (σ : Store) :
    PCall Try.prog 62 [.ms o 1 0 ls.length, .int .i64 a, .int .i64 b, .int .i64 n, f] (σ.put o (.arr (ints ls))) (fun r s => r = .tup [] ∧ s = σ.put o (.arr (ints (swapT ls a b n)))) := by
  refine PCall_w [] 38 Try.func62 (by rfl) rfl rfl rfl rfl ?_
  repeat' first
    | refine W_seq ?_
    | refine W_block ?_
    | ((first | refine W_region (mu := []) ?_ | (refine W_region_any [] ⟨[], [], [], [], [], [], 0⟩ mixedOrders_ok (by kernel_rfl) ?_; intro nu hn1 hn2) | refine fn_ret ?_ | refine fn_normal ?_ | refine Hold_P ?_ | refine prun_go ?_ | refine drun_go ?_); simp -dsimp only [go_sem, Nat.reduceLT, Nat.reduceLeDiff, Nat.reduceEqDiff, Nat.reduceAdd, Nat.reduceMul, Int.reduceNeg, Nat.reduceBEq, reduceCtorEq, ↓reduceIte])
    | (refine W_cond rfl (fun h => ?_) (fun h => ?_) <;> (try (cases h; done)))
    | refine W_ret ?_
    | refine W_skip ?_
    | refine W_exit ?_
    | refine then_normal ?_
    | refine then_ret ?_
    | refine then_exit ?_
    | refine inBlock_normal ?_
    | refine inBlock_ret ?_
    | refine inBlock_exit ?_
    | refine inBlock_ne (by decide) ?_
    | refine Hold_E ?_
    | (refine And.intro ?_ ?_; omega)
    | ((first | (refine ite_goB (fun h => ?_) (fun h => ?_) <;> (try exact absurd ((h : _ = false).symm.trans (by assumption : _ = true)) (by decide)) <;> (try exact absurd ((by assumption : _ = false).symm.trans (h : _ = true)) (by decide))) | (refine ite_go (fun h => ?_) (fun h => ?_) <;> (try exact absurd h (by assumption)) <;> (try exact absurd (by assumption) h))) <;> (try refine Hold_P ?_) <;> (try simp -dsimp only [h, go_sem, Nat.reduceLT, Nat.reduceLeDiff, Nat.reduceEqDiff, Nat.reduceAdd, Nat.reduceMul, Int.reduceNeg, Nat.reduceBEq, reduceCtorEq, ↓reduceIte]))
    | refine Exists.intro _ (Exists.intro _ (And.intro (And.intro rfl rfl) ?_))
  refine W_loop_st (fun i : Nat => [(0, .ms o 1 0 ls.length), (1, .int .i64 a), (2, .int .i64 b), (3, .int .i64 n), (10, .int .i64 i)]) (fun i => σ.put o (.arr (ints (swapT ls a b i)))) (fun i => i ≤ n) (fun i => n - i) 0 (Nat.zero_le _) (Env.Sub_of_has (by simp [Env.Has, Env.get])) (by simp only [swapT_zero]; exact Store.Sub.refl _) ?_
  intro i hi
  have hsl := swapT_length ls a b i
  by_cases hlt : i < n
  · have hd : decide ((i : Int) < (n : Int)) = true := decT (by omega)
    have w1 := wadd (a := a) (b := i) rfl (by omega)
    have w2 := wadd (a := b) (b := i) rfl (by omega)
    have g1 := get_ints (ls := swapT ls a b i) (i := a + i) (by omega)
    have g2 := get_ints (ls := swapT ls a b i) (i := b + i) (by omega)
    have q1 : (((a + i : Nat) : Int) < (ls.length : Int)) = True := eq_true (by omega)
    have q2 : (((b + i : Nat) : Int) < (ls.length : Int)) = True := eq_true (by omega)
    have hs := swapT_succ h1 h2 hlt
    have g3 := get_ints (ls := (swapT ls a b i).set (a + i) (gd (swapT ls a b i) (b + i))) (i := b + i) (by rw [List.length_set]; omega)
    repeat' first
      | refine W_seq ?_
      | refine W_block ?_
      | ((first | refine W_region (mu := []) ?_ | (refine W_region_any (id := 3) [] ⟨[13,19], [21,23], [], [], [], [], 0⟩ mixedOrders_ok (by kernel_rfl) ?_; intro nu hn1 hn2) | (refine W_region_any [] ⟨[], [], [], [], [], [], 0⟩ mixedOrders_ok (by kernel_rfl) ?_; intro nu hn1 hn2) | refine fn_ret ?_ | refine fn_normal ?_ | refine Hold_P ?_ | refine prun_go ?_ | refine drun_go ?_); simp -dsimp only [go_sem, Nat.reduceLT, Nat.reduceLeDiff, Nat.reduceEqDiff, Nat.reduceAdd, Nat.reduceMul, Int.reduceNeg, Nat.reduceBEq, reduceCtorEq, ↓reduceIte, hd, w1, w2, g1, g2, g3, q1, q2, splice, set_ints, List.length_set, swp_eq, hs])
      | (refine W_cond rfl (fun h => ?_) (fun h => ?_) <;> (try (cases h; done)))
      | refine W_ret ?_
      | refine W_skip ?_
      | refine W_exit ?_
      | refine then_normal ?_
      | refine then_ret ?_
      | refine then_exit ?_
      | refine inBlock_normal ?_
      | refine inBlock_ret ?_
      | refine inBlock_exit ?_
      | refine inBlock_ne (by decide) ?_
      | refine Hold_E ?_
      | (refine And.intro ?_ ?_; omega)
      | ((first | (refine ite_goB (fun h => ?_) (fun h => ?_) <;> (try exact absurd ((h : _ = false).symm.trans (by assumption : _ = true)) (by decide)) <;> (try exact absurd ((by assumption : _ = false).symm.trans (h : _ = true)) (by decide))) | (refine ite_go (fun h => ?_) (fun h => ?_) <;> (try exact absurd h (by assumption)) <;> (try exact absurd (by assumption) h))) <;> (try refine Hold_P ?_) <;> (try simp -dsimp only [h, go_sem, Nat.reduceLT, Nat.reduceLeDiff, Nat.reduceEqDiff, Nat.reduceAdd, Nat.reduceMul, Int.reduceNeg, Nat.reduceBEq, reduceCtorEq, ↓reduceIte, hd, w1, w2, g1, g2, g3, q1, q2, splice, set_ints, List.length_set, swp_eq, hs]))
      | refine Exists.intro _ (Exists.intro _ (And.intro (And.intro rfl rfl) ?_))
    exact ⟨i + 1, by omega, by omega, Env.Sub_of_has (by simp [Env.Has, Env.get, wrap_succ (show i < 4611686018427387904 by omega)]), Store.Sub.refl _⟩
  · have hd : decide ((i : Int) < (n : Int)) = false := decF (by omega)
    have hi' : i = n := by omega
    subst hi'
    repeat' first
      | refine W_seq ?_
      | refine W_block ?_
      | ((first | refine W_region (mu := []) ?_ | (refine W_region_any [] ⟨[], [], [], [], [], [], 0⟩ mixedOrders_ok (by kernel_rfl) ?_; intro nu hn1 hn2) | refine fn_ret ?_ | refine fn_normal ?_ | refine Hold_P ?_ | refine prun_go ?_ | refine drun_go ?_); simp -dsimp only [go_sem, Nat.reduceLT, Nat.reduceLeDiff, Nat.reduceEqDiff, Nat.reduceAdd, Nat.reduceMul, Int.reduceNeg, Nat.reduceBEq, reduceCtorEq, ↓reduceIte, hd])
      | (refine W_cond rfl (fun h => ?_) (fun h => ?_) <;> (try (cases h; done)))
      | refine W_ret ?_
      | refine W_skip ?_
      | refine W_exit ?_
      | refine then_normal ?_
      | refine then_ret ?_
      | refine then_exit ?_
      | refine inBlock_normal ?_
      | refine inBlock_ret ?_
      | refine inBlock_exit ?_
      | refine inBlock_ne (by decide) ?_
      | refine Hold_E ?_
      | (refine And.intro ?_ ?_; omega)
      | ((first | (refine ite_goB (fun h => ?_) (fun h => ?_) <;> (try exact absurd ((h : _ = false).symm.trans (by assumption : _ = true)) (by decide)) <;> (try exact absurd ((by assumption : _ = false).symm.trans (h : _ = true)) (by decide))) | (refine ite_go (fun h => ?_) (fun h => ?_) <;> (try exact absurd h (by assumption)) <;> (try exact absurd (by assumption) h))) <;> (try refine Hold_P ?_) <;> (try simp -dsimp only [h, go_sem, Nat.reduceLT, Nat.reduceLeDiff, Nat.reduceEqDiff, Nat.reduceAdd, Nat.reduceMul, Int.reduceNeg, Nat.reduceBEq, reduceCtorEq, ↓reduceIte, hd]))
      | refine Exists.intro _ (Exists.intro _ (And.intro (And.intro rfl rfl) ?_))

theorem rotate_spec (ls : List Int) (a m b : Nat) (h1 : a < m) (h2 : m < b) (h3 : b ≤ ls.length) (hbig : ls.length < 1000000) (f : AV) (o : Nat) (σ : Store) :
    PCall Try.prog 61 [.ms o 1 0 ls.length, .int .i64 a, .int .i64 m, .int .i64 b, f] (σ.put o (.arr (ints ls))) (fun r s => r = .tup [] ∧ s = σ.put o (.arr (ints (rotT ls a m b)))) := by
  have w1 := wsub (a := m) (b := a) (c := m - a) (by omega) (by omega)
  have w2 := wsub (a := b) (b := m) (c := b - m) (by omega) (by omega)
  refine PCall_w [] 58 Try.func61 (by rfl) rfl rfl rfl rfl ?_
  repeat' first
    | refine W_seq ?_
    | refine W_block ?_
    | ((first | refine W_region (mu := []) ?_ | (refine W_region_any [] ⟨[], [], [], [], [], [], 0⟩ mixedOrders_ok (by kernel_rfl) ?_; intro nu hn1 hn2) | refine fn_ret ?_ | refine fn_normal ?_ | refine Hold_P ?_ | refine prun_go ?_ | refine drun_go ?_); simp -dsimp only [go_sem, Nat.reduceLT, Nat.reduceLeDiff, Nat.reduceEqDiff, Nat.reduceAdd, Nat.reduceMul, Int.reduceNeg, Nat.reduceBEq, reduceCtorEq, ↓reduceIte, w1, w2])
    | (refine W_cond rfl (fun h => ?_) (fun h => ?_) <;> (try (cases h; done)))
    | refine W_ret ?_
    | refine W_skip ?_
    | refine W_exit ?_
    | refine then_normal ?_
    | refine then_ret ?_
    | refine then_exit ?_
    | refine inBlock_normal ?_
    | refine inBlock_ret ?_
    | refine inBlock_exit ?_
    | refine inBlock_ne (by decide) ?_
    | refine Hold_E ?_
    | (refine And.intro ?_ ?_; omega)
    | ((first | (refine ite_goB (fun h => ?_) (fun h => ?_) <;> (try exact absurd ((h : _ = false).symm.trans (by assumption : _ = true)) (by decide)) <;> (try exact absurd ((by assumption : _ = false).symm.trans (h : _ = true)) (by decide))) | (refine ite_go (fun h => ?_) (fun h => ?_) <;> (try exact absurd h (by assumption)) <;> (try exact absurd (by assumption) h))) <;> (try refine Hold_P ?_) <;> (try simp -dsimp only [h, go_sem, Nat.reduceLT, Nat.reduceLeDiff, Nat.reduceEqDiff, Nat.reduceAdd, Nat.reduceMul, Int.reduceNeg, Nat.reduceBEq, reduceCtorEq, ↓reduceIte, w1, w2]))
    | refine Exists.intro _ (Exists.intro _ (And.intro (And.intro rfl rfl) ?_))
  refine W_loop_st (fun x : List Int × Nat × Nat => [(0, .ms o 1 0 ls.length), (2, .int .i64 m), (4, f), (10, .int .i64 x.2.1), (11, .int .i64 x.2.2)]) (fun x => σ.put o (.arr (ints x.1)))
    (fun x => x.1.length = ls.length ∧ 0 < x.2.1 ∧ 0 < x.2.2 ∧ x.2.1 ≤ m ∧ m + x.2.2 ≤ ls.length ∧ rotT x.1 (m - x.2.1) m (m + x.2.2) = rotT ls a m b) (fun x => x.2.1 + x.2.2) (ls, m - a, b - m) ⟨rfl, by simp only; omega, by simp only; omega, by simp only; omega, by simp only; omega, by simp only; rw [show m - (m - a) = a by omega, show m + (b - m) = b by omega]⟩ (Env.Sub_of_has (by simp [Env.Has, Env.get])) (Store.Sub.refl _) ?_
  rintro ⟨l, i, j⟩ ⟨hl, hi, hj, him, hjm, hr⟩
  simp only at hl hi hj him hjm hr
  have v1 := wsub (a := m) (b := i) (c := m - i) (by omega) (by omega)
  by_cases hij : i = j
  · subst hij
    have hs := swapRange_spec l (m - i) m i (by omega) (by omega) (by omega) f o σ
    rw [hl, rot_eq him (by omega), hr] at hs
    repeat' first
      | refine W_seq ?_
      | refine W_block ?_
      | ((first | refine W_region (mu := []) ?_ | (refine W_region_any [] ⟨[], [], [], [], [], [], 0⟩ mixedOrders_ok (by kernel_rfl) ?_; intro nu hn1 hn2) | refine fn_ret ?_ | refine fn_normal ?_ | refine Hold_P ?_ | refine prun_go ?_ | refine drun_go ?_); simp -dsimp only [go_sem, Nat.reduceLT, Nat.reduceLeDiff, Nat.reduceEqDiff, Nat.reduceAdd, Nat.reduceMul, Int.reduceNeg, Nat.reduceBEq, reduceCtorEq, ↓reduceIte, v1])
      | (refine W_cond rfl (fun h => ?_) (fun h => ?_) <;> (try (cases h; done)))
      | refine W_ret ?_
      | refine W_skip ?_
      | refine W_exit ?_
      | refine then_normal ?_
      | refine then_ret ?_
      | refine then_exit ?_
      | refine inBlock_normal ?_
      | refine inBlock_ret ?_
      | refine inBlock_exit ?_
      | refine inBlock_ne (by decide) ?_
      | refine Hold_E ?_
      | (refine And.intro ?_ ?_; omega)
      | ((first | (refine ite_goB (fun h => ?_) (fun h => ?_) <;> (try exact absurd ((h : _ = false).symm.trans (by assumption : _ = true)) (by decide)) <;> (try exact absurd ((by assumption : _ = false).symm.trans (h : _ = true)) (by decide))) | (refine ite_go (fun h => ?_) (fun h => ?_) <;> (try exact absurd h (by assumption)) <;> (try exact absurd (by assumption) h))) <;> (try refine Hold_P ?_) <;> (try simp -dsimp only [h, go_sem, Nat.reduceLT, Nat.reduceLeDiff, Nat.reduceEqDiff, Nat.reduceAdd, Nat.reduceMul, Int.reduceNeg, Nat.reduceBEq, reduceCtorEq, ↓reduceIte, v1]))
      | refine Exists.intro _ (Exists.intro _ (And.intro (And.intro rfl rfl) ?_))
      | (refine PCall_use (hs) ?_; rintro _ _ ⟨rfl, hq⟩; obtain rfl := hq.symm; clear hq)
      | (refine Exists.intro _ (And.intro (fun _ => hs) ?_))
      | (refine Exists.intro _ (And.intro (hs) ?_))
      | (refine Exists.intro _ (Exists.intro _ (And.intro (hs) ?_)))
  · have d0 : (!decide ((i : Int) = (j : Int))) = true := by simp; omega
    by_cases hgt : j < i
    · have d1 : decide ((j : Int) < (i : Int)) = true := decT (by omega)
      have v2 := wsub (a := i) (b := j) (c := i - j) (by omega) (by omega)
      have hs := swapRange_spec l (m - i) m j (by omega) (by omega) (by omega) f o σ
      rw [hl] at hs
      have hr2 := rot_gt (ls := l) (i := i) (j := j) (m := m) (by omega) him (by omega)
      repeat' first
        | refine W_seq ?_
        | refine W_block ?_
        | ((first | refine W_region (mu := []) ?_ | (refine W_region_any [] ⟨[], [], [], [], [], [], 0⟩ mixedOrders_ok (by kernel_rfl) ?_; intro nu hn1 hn2) | refine fn_ret ?_ | refine fn_normal ?_ | refine Hold_P ?_ | refine prun_go ?_ | refine drun_go ?_); simp -dsimp only [go_sem, Nat.reduceLT, Nat.reduceLeDiff, Nat.reduceEqDiff, Nat.reduceAdd, Nat.reduceMul, Int.reduceNeg, Nat.reduceBEq, reduceCtorEq, ↓reduceIte, d0, d1, v1, v2])
        | (refine W_cond rfl (fun h => ?_) (fun h => ?_) <;> (try (cases h; done)))
        | refine W_ret ?_
        | refine W_skip ?_
        | refine W_exit ?_
        | refine then_normal ?_
        | refine then_ret ?_
        | refine then_exit ?_
        | refine inBlock_normal ?_
        | refine inBlock_ret ?_
        | refine inBlock_exit ?_
        | refine inBlock_ne (by decide) ?_
        | refine Hold_E ?_
        | (refine And.intro ?_ ?_; omega)
        | ((first | (refine ite_goB (fun h => ?_) (fun h => ?_) <;> (try exact absurd ((h : _ = false).symm.trans (by assumption : _ = true)) (by decide)) <;> (try exact absurd ((by assumption : _ = false).symm.trans (h : _ = true)) (by decide))) | (refine ite_go (fun h => ?_) (fun h => ?_) <;> (try exact absurd h (by assumption)) <;> (try exact absurd (by assumption) h))) <;> (try refine Hold_P ?_) <;> (try simp -dsimp only [h, go_sem, Nat.reduceLT, Nat.reduceLeDiff, Nat.reduceEqDiff, Nat.reduceAdd, Nat.reduceMul, Int.reduceNeg, Nat.reduceBEq, reduceCtorEq, ↓reduceIte, d0, d1, v1, v2]))
        | refine Exists.intro _ (Exists.intro _ (And.intro (And.intro rfl rfl) ?_))
        | (refine PCall_use (hs) ?_; rintro _ _ ⟨rfl, hq⟩; obtain rfl := hq.symm; clear hq)
        | (refine Exists.intro _ (And.intro (fun _ => hs) ?_))
        | (refine Exists.intro _ (And.intro (hs) ?_))
        | (refine Exists.intro _ (Exists.intro _ (And.intro (hs) ?_)))
      exact ⟨(swapT l (m - i) m j, i - j, j), by simp only; omega, ⟨by rw [swapT_length]; exact hl, by simp only; omega, hj, by simp only; omega, hjm, by simp only; rw [hr2, hr]⟩, Env.Sub_of_has (by simp [Env.Has, Env.get]), Store.Sub.refl _⟩
    · have d1 : decide ((j : Int) < (i : Int)) = false := decF (by omega)
      have v2 := wsub (a := j) (b := i) (c := j - i) (by omega) (by omega)
      have v3 := wadd (a := m) (b := j) rfl (by omega)
      have v4 := wsub (a := m + j) (b := i) (c := m + j - i) (by omega) (by omega)
      have hs := swapRange_spec l (m - i) (m + j - i) i (by omega) (by omega) (by omega) f o σ
      rw [hl] at hs
      have hr2 := rot_lt (ls := l) (i := i) (j := j) (m := m) (by omega) him (by omega)
      repeat' first
        | refine W_seq ?_
        | refine W_block ?_
        | ((first | refine W_region (mu := []) ?_ | (refine W_region_any [] ⟨[], [], [], [], [], [], 0⟩ mixedOrders_ok (by kernel_rfl) ?_; intro nu hn1 hn2) | refine fn_ret ?_ | refine fn_normal ?_ | refine Hold_P ?_ | refine prun_go ?_ | refine drun_go ?_); simp -dsimp only [go_sem, Nat.reduceLT, Nat.reduceLeDiff, Nat.reduceEqDiff, Nat.reduceAdd, Nat.reduceMul, Int.reduceNeg, Nat.reduceBEq, reduceCtorEq, ↓reduceIte, d0, d1, v1, v2, v3, v4])
        | (refine W_cond rfl (fun h => ?_) (fun h => ?_) <;> (try (cases h; done)))
        | refine W_ret ?_
        | refine W_skip ?_
        | refine W_exit ?_
        | refine then_normal ?_
        | refine then_ret ?_
        | refine then_exit ?_
        | refine inBlock_normal ?_
        | refine inBlock_ret ?_
        | refine inBlock_exit ?_
        | refine inBlock_ne (by decide) ?_
        | refine Hold_E ?_
        | (refine And.intro ?_ ?_; omega)
        | ((first | (refine ite_goB (fun h => ?_) (fun h => ?_) <;> (try exact absurd ((h : _ = false).symm.trans (by assumption : _ = true)) (by decide)) <;> (try exact absurd ((by assumption : _ = false).symm.trans (h : _ = true)) (by decide))) | (refine ite_go (fun h => ?_) (fun h => ?_) <;> (try exact absurd h (by assumption)) <;> (try exact absurd (by assumption) h))) <;> (try refine Hold_P ?_) <;> (try simp -dsimp only [h, go_sem, Nat.reduceLT, Nat.reduceLeDiff, Nat.reduceEqDiff, Nat.reduceAdd, Nat.reduceMul, Int.reduceNeg, Nat.reduceBEq, reduceCtorEq, ↓reduceIte, d0, d1, v1, v2, v3, v4]))
        | refine Exists.intro _ (Exists.intro _ (And.intro (And.intro rfl rfl) ?_))
        | (refine PCall_use (hs) ?_; rintro _ _ ⟨rfl, hq⟩; obtain rfl := hq.symm; clear hq)
        | (refine Exists.intro _ (And.intro (fun _ => hs) ?_))
        | (refine Exists.intro _ (And.intro (hs) ?_))
        | (refine Exists.intro _ (Exists.intro _ (And.intro (hs) ?_)))
      exact ⟨(swapT l (m - i) (m + j - i) i, i, j - i), by simp only; omega, ⟨by rw [swapT_length]; exact hl, hi, by simp only; omega, him, by simp only; omega, by simp only; rw [hr2, hr]⟩, Env.Sub_of_has (by simp [Env.Has, Env.get]), Store.Sub.refl _⟩
end Go.Proofs.Ytlbhhoojbokblaa
