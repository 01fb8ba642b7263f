/- Contract of insertionSort. Conditions: none. -/
import Derived.Test.YtlbhhoojbokblaaBc
set_option linter.unusedVariables false
set_option linter.unusedSimpArgs false
namespace Go.Proofs.Ytlbhhoojbokblaa
open Go.Kern
set_option maxRecDepth 100000
set_option maxHeartbeats 4000000
attribute [local go_sem] drun_nil drun_cons prun_nil prun_cons wrOk tqOk lateOp lateB dstOk ev ofConst leafOf Env.putO Env.get envOf readRs_nil oneRes nilSide SK.isNil isMu fillA partsFit boundA SK.cut SK.cutFull SK.fresh rowOk rowsOk_nil rowsOk_cons rowsOk_append rowsOk_ints splice oneOf keyKind cellsKind cellKind cellsB cellB zeroFits TK.agg AV.cells AV.known AV.one List.set_cons_zero List.set_cons_succ put_same put_put forall_const implies_true exists_eq_left exists_eq_left' exists_eq_right exists_eq Store.Sub.refl and_self Int.toNat_natCast length_ints List.length_map true_and and_true decide_true decide_false if_true if_false Bool.false_eq_true Bool.true_eq_false List.getElem?_cons_zero List.getElem?_cons_succ List.length_cons List.length_nil List.drop_zero List.drop_succ_cons List.take_succ_cons List.take_zero List.drop_nil List.take_nil List.append_nil List.map_cons List.map_nil List.cons_append List.nil_append beq_self_eq_true Bool.false_beq Bool.true_beq Bool.not_true Bool.not_false Option.map_some Option.map_none Option.bind_some ne_eq not_false_eq_true List.contains_cons List.contains_nil Bool.or_false Bool.or_true Bool.and_true Bool.and_false Bool.true_and Bool.false_and List.all_cons List.all_nil Nat.one_ne_zero Nat.zero_ne_one Option.isSome_some Option.isSome_none List.getElem?_toArray beq_true beq_false decide_eq_true_eq Int.toNat_zero forall_ints take_ints drop_ints Int.le_refl Int.natCast_nonneg Nat.zero_add Nat.add_zero or_true true_or false_or or_false
attribute [local go_sem ↓] allocN guardP OpSem callA readRs_cons readR binA intOpA strOpA nilOpA unA convA boxA allocA behind loadA buildA buildSliceA fieldAddrA fieldA indexAddrA indexA lenA sliceA extractA nilCheckA storeA lookupA mapSetA mapDelA makeSliceA appendA appendN apN
attribute [local irreducible] PCall W

section
variable {fi : Nat} {cp : AV} {V : Int → Prop} {tl : Int → Int → Prop} {c : Int → Int → Int}

theorem ins_spec (hc : Cmp fi cp V c) (ho : Ord V tl c) (ls : List Int) (a b : Nat) (hab : a ≤ b) (hb : b ≤ ls.length) (hbig : ls.length < 1000000) (hV : AllV V ls) (hinc : ∀ p q, a ≤ p → p < q → q < b → gd ls p < gd ls q) (o : Nat) (σ : Store) :
    PCall Try.prog 57 [.ms o 1 0 ls.length, .int .i64 a, .int .i64 b, .fn fi [cp]] (σ.put o (.arr (ints ls))) (fun r s => r = .tup [] ∧ ∃ l', s = σ.put o (.arr (ints l')) ∧ Res tl l' ls a b) := by
  have w0 := wrap_succ (show a < 4611686018427387904 by omega)
  refine PCall_w [] 53 Try.func57 (by rfl) rfl rfl rfl rfl ?_
  repeat' first
    | refine W_seq ?_
    | refine W_block ?_
    | ((first | refine W_region (mu := []) ?_ | (refine W_region_any [] ⟨[], [], [], [], [], [], 0⟩ mixedOrders_ok (by kernel_rfl) ?_; intro nu hn1 hn2) | refine fn_ret ?_ | refine fn_normal ?_ | refine Hold_P ?_ | refine prun_go ?_ | refine drun_go ?_); simp -dsimp only [go_sem, Nat.reduceLT, Nat.reduceLeDiff, Nat.reduceEqDiff, Nat.reduceAdd, Nat.reduceMul, Int.reduceNeg, Nat.reduceBEq, reduceCtorEq, ↓reduceIte, w0])
    | (refine W_cond rfl (fun h => ?_) (fun h => ?_) <;> (try (cases h; done)))
    | refine W_ret ?_
    | refine W_skip ?_
    | refine W_exit ?_
    | refine then_normal ?_
    | refine then_ret ?_
    | refine then_exit ?_
    | refine inBlock_normal ?_
    | refine inBlock_ret ?_
    | refine inBlock_exit ?_
    | refine inBlock_ne (by decide) ?_
    | refine Hold_E ?_
    | (refine And.intro ?_ ?_; omega)
    | ((first | (refine ite_goB (fun h => ?_) (fun h => ?_) <;> (try exact absurd ((h : _ = false).symm.trans (by assumption : _ = true)) (by decide)) <;> (try exact absurd ((by assumption : _ = false).symm.trans (h : _ = true)) (by decide))) | (refine ite_go (fun h => ?_) (fun h => ?_) <;> (try exact absurd h (by assumption)) <;> (try exact absurd (by assumption) h))) <;> (try refine Hold_P ?_) <;> (try simp -dsimp only [h, go_sem, Nat.reduceLT, Nat.reduceLeDiff, Nat.reduceEqDiff, Nat.reduceAdd, Nat.reduceMul, Int.reduceNeg, Nat.reduceBEq, reduceCtorEq, ↓reduceIte, w0]))
    | refine Exists.intro _ (Exists.intro _ (And.intro (And.intro rfl rfl) ?_))
  refine W_loop_st (fun x : List Int × Nat => [(0, .ms o 1 0 ls.length), (1, .int .i64 a), (2, .int .i64 b), (3, .fn fi [cp]), (8, .int .i64 x.2)]) (fun x => σ.put o (.arr (ints x.1)))
    (fun x => a + 1 ≤ x.2 ∧ (x.2 ≤ b ∨ (x.1 = ls ∧ x.2 = a + 1)) ∧ Res tl x.1 ls a x.2) (fun x => b - x.2) (ls, a + 1) ⟨Nat.le_refl _, .inr ⟨rfl, rfl⟩, Res.refl' (fun i j (h1 : a ≤ i) (h2 : i < j) (h3 : j < a + 1) => by omega)⟩ (Env.Sub_of_has (by simp [Env.Has, Env.get])) (Store.Sub.refl _) ?_
  rintro ⟨l, i⟩ ⟨hai, hib, hr⟩
  simp only at hai hib hr
  have hll := hr.len
  have hVl := hV.perm hr.perm
  by_cases hlt : i < b
  · have hd : decide ((i : Int) < (b : Int)) = true := decT (by omega)
    repeat' first
      | refine W_seq ?_
      | refine W_block ?_
      | ((first | refine W_region (mu := []) ?_ | (refine W_region_any [] ⟨[], [], [], [], [], [], 0⟩ mixedOrders_ok (by kernel_rfl) ?_; intro nu hn1 hn2) | refine fn_ret ?_ | refine fn_normal ?_ | refine Hold_P ?_ | refine prun_go ?_ | refine drun_go ?_); simp -dsimp only [go_sem, Nat.reduceLT, Nat.reduceLeDiff, Nat.reduceEqDiff, Nat.reduceAdd, Nat.reduceMul, Int.reduceNeg, Nat.reduceBEq, reduceCtorEq, ↓reduceIte, hd])
      | (refine W_cond rfl (fun h => ?_) (fun h => ?_) <;> (try (cases h; done)))
      | refine W_ret ?_
      | refine W_skip ?_
      | refine W_exit ?_
      | refine then_normal ?_
      | refine then_ret ?_
      | refine then_exit ?_
      | refine inBlock_normal ?_
      | refine inBlock_ret ?_
      | refine inBlock_exit ?_
      | refine inBlock_ne (by decide) ?_
      | refine Hold_E ?_
      | (refine And.intro ?_ ?_; omega)
      | ((first | (refine ite_goB (fun h => ?_) (fun h => ?_) <;> (try exact absurd ((h : _ = false).symm.trans (by assumption : _ = true)) (by decide)) <;> (try exact absurd ((by assumption : _ = false).symm.trans (h : _ = true)) (by decide))) | (refine ite_go (fun h => ?_) (fun h => ?_) <;> (try exact absurd h (by assumption)) <;> (try exact absurd (by assumption) h))) <;> (try refine Hold_P ?_) <;> (try simp -dsimp only [h, go_sem, Nat.reduceLT, Nat.reduceLeDiff, Nat.reduceEqDiff, Nat.reduceAdd, Nat.reduceMul, Int.reduceNeg, Nat.reduceBEq, reduceCtorEq, ↓reduceIte, hd]))
      | refine Exists.intro _ (Exists.intro _ (And.intro (And.intro rfl rfl) ?_))
    refine W_loop_st (fun j : Nat => [(0, .ms o 1 0 ls.length), (1, .int .i64 a), (2, .int .i64 b), (3, .fn fi [cp]), (8, .int .i64 i), (9, .int .i64 j)]) (fun j => σ.put o (.arr (ints (rotT l j i (i + 1)))))
      (fun j => a ≤ j ∧ j ≤ i ∧ ∀ k, j ≤ k → k < i → tl (gd l i) (gd l k)) (fun j => j) i ⟨by omega, Nat.le_refl _, fun k _ _ => by omega⟩ (Env.Sub_of_has (by simp [Env.Has, Env.get])) (by rw [rot_id i (.inl rfl) (by omega)]; exact Store.Sub.refl _) ?_
    rintro j ⟨haj, hji, hx⟩
    have hrl : (rotT l j i (i + 1)).length = ls.length := by rw [rotT_length]; exact hll
    have next : (j = a ∨ tl (gd l (j - 1)) (gd l i)) → Res tl (rotT l j i (i + 1)) ls a (i + 1) := fun hj => ins_step ho hVl hr (by omega) haj hji hx hj
    by_cases hja : j = a
    · have e1 : decide ((a : Int) < (j : Int)) = false := decF (by omega)
      have hres := next (.inl hja)
      repeat' first
        | refine W_seq ?_
        | refine W_block ?_
        | ((first | refine W_region (mu := []) ?_ | (refine W_region_any (id := 4) [] ⟨[8,13,14], [], [], [], [], [], 0⟩ mixedOrders_ok (by kernel_rfl) ?_; intro nu hn1 hn2) | (refine W_region_any [] ⟨[], [], [], [], [], [], 0⟩ mixedOrders_ok (by kernel_rfl) ?_; intro nu hn1 hn2) | refine fn_ret ?_ | refine fn_normal ?_ | refine Hold_P ?_ | refine prun_go ?_ | refine drun_go ?_); simp -dsimp only [go_sem, Nat.reduceLT, Nat.reduceLeDiff, Nat.reduceEqDiff, Nat.reduceAdd, Nat.reduceMul, Int.reduceNeg, Nat.reduceBEq, reduceCtorEq, ↓reduceIte, e1])
        | (refine W_cond rfl (fun h => ?_) (fun h => ?_) <;> (try (cases h; done)))
        | refine W_ret ?_
        | refine W_skip ?_
        | refine W_exit ?_
        | refine then_normal ?_
        | refine then_ret ?_
        | refine then_exit ?_
        | refine inBlock_normal ?_
        | refine inBlock_ret ?_
        | refine inBlock_exit ?_
        | refine inBlock_ne (by decide) ?_
        | refine Hold_E ?_
        | (refine And.intro ?_ ?_; omega)
        | ((first | (refine ite_goB (fun h => ?_) (fun h => ?_) <;> (try exact absurd ((h : _ = false).symm.trans (by assumption : _ = true)) (by decide)) <;> (try exact absurd ((by assumption : _ = false).symm.trans (h : _ = true)) (by decide))) | (refine ite_go (fun h => ?_) (fun h => ?_) <;> (try exact absurd h (by assumption)) <;> (try exact absurd (by assumption) h))) <;> (try refine Hold_P ?_) <;> (try simp -dsimp only [h, go_sem, Nat.reduceLT, Nat.reduceLeDiff, Nat.reduceEqDiff, Nat.reduceAdd, Nat.reduceMul, Int.reduceNeg, Nat.reduceBEq, reduceCtorEq, ↓reduceIte, e1]))
        | refine Exists.intro _ (Exists.intro _ (And.intro (And.intro rfl rfl) ?_))
      exact ⟨(rotT l j i (i + 1), i + 1), by simp only; omega, ⟨by simp only; omega, .inl (by simp only; omega), hres⟩, Env.Sub_of_has (by simp [Env.Has, Env.get, wrap_succ (show i < 4611686018427387904 by omega)]), Store.Sub.refl _⟩
    · have e1 : decide ((a : Int) < (j : Int)) = true := decT (by omega)
      have w1 : IntKind.i64.wrap ((j : Int) - 1) = ((j - 1 : Nat) : Int) := wsub (b := 1) (by omega) (by omega)
      have q1 : ((j : Int) < (ls.length : Int)) = True := eq_true (by omega)
      have q2 : (((j - 1 : Nat) : Int) < (ls.length : Int)) = True := eq_true (by omega)
      have g1 := get_ints (ls := rotT l j i (i + 1)) (i := j) (by omega)
      have g2 := get_ints (ls := rotT l j i (i + 1)) (i := j - 1) (by omega)
      have v1 : gd (rotT l j i (i + 1)) j = gd l i := by
        rw [gd_rotT (by omega), if_pos (by omega), if_pos (by omega)]
        congr 1; omega
      have v2 : gd (rotT l j i (i + 1)) (j - 1) = gd l (j - 1) := by rw [gd_rotT (by omega), if_neg (by omega)]
      rw [v1] at g1
      rw [v2] at g2
      have hVi := hVl i (by omega)
      have hVj := hVl (j - 1) (by omega)
      have hcs := hc (gd l i) (gd l (j - 1)) hVi hVj
      have hord : gd l (j - 1) < gd l i := by
        obtain ⟨q, q1, q2, e⟩ := hr.seg (j - 1) (by omega) (by omega)
        rw [e, hr.same i (.inr (Nat.le_refl _))]
        exact hinc q i q1 q2 hlt
      by_cases hlt2 : c (gd l i) (gd l (j - 1)) < 0
      · have e2 : decide (c (gd l i) (gd l (j - 1)) < 0) = true := decT hlt2
        have htl := (ho.ahead _ _ hVj hVi hord).1 hlt2
        have hs : ((rotT l j i (i + 1)).set j (gd l (j - 1))).set (j - 1) (gd l i) = rotT l (j - 1) i (i + 1) := by
          have := rot_down (ls := l) (k := j) (m := i) (by omega) hji (by omega)
          unfold swp at this
          rw [v1, v2] at this
          exact this
        have g3 := get_ints (ls := (rotT l j i (i + 1)).set j (gd l (j - 1))) (i := j - 1) (by rw [List.length_set]; omega)
        repeat' first
          | refine W_seq ?_
          | refine W_block ?_
          | ((first | refine W_region (mu := []) ?_ | (refine W_region_any (id := 4) [] ⟨[8,13,14], [], [], [], [], [], 0⟩ mixedOrders_ok (by kernel_rfl) ?_; intro nu hn1 hn2) | (refine W_region_any (id := 6) [] ⟨[9,13], [15,17], [], [], [], [], 0⟩ mixedOrders_ok (by kernel_rfl) ?_; intro nu hn1 hn2) | (refine W_region_any [] ⟨[], [], [], [], [], [], 0⟩ mixedOrders_ok (by kernel_rfl) ?_; intro nu hn1 hn2) | refine fn_ret ?_ | refine fn_normal ?_ | refine Hold_P ?_ | refine prun_go ?_ | refine drun_go ?_); simp -dsimp only [go_sem, Nat.reduceLT, Nat.reduceLeDiff, Nat.reduceEqDiff, Nat.reduceAdd, Nat.reduceMul, Int.reduceNeg, Nat.reduceBEq, reduceCtorEq, ↓reduceIte, e1, w1, q1, q2, g1, g2, g3, e2, splice, set_ints, hs])
          | (refine W_cond rfl (fun h => ?_) (fun h => ?_) <;> (try (cases h; done)))
          | refine W_ret ?_
          | refine W_skip ?_
          | refine W_exit ?_
          | refine then_normal ?_
          | refine then_ret ?_
          | refine then_exit ?_
          | refine inBlock_normal ?_
          | refine inBlock_ret ?_
          | refine inBlock_exit ?_
          | refine inBlock_ne (by decide) ?_
          | refine Hold_E ?_
          | (refine And.intro ?_ ?_; omega)
          | ((first | (refine ite_goB (fun h => ?_) (fun h => ?_) <;> (try exact absurd ((h : _ = false).symm.trans (by assumption : _ = true)) (by decide)) <;> (try exact absurd ((by assumption : _ = false).symm.trans (h : _ = true)) (by decide))) | (refine ite_go (fun h => ?_) (fun h => ?_) <;> (try exact absurd h (by assumption)) <;> (try exact absurd (by assumption) h))) <;> (try refine Hold_P ?_) <;> (try simp -dsimp only [h, go_sem, Nat.reduceLT, Nat.reduceLeDiff, Nat.reduceEqDiff, Nat.reduceAdd, Nat.reduceMul, Int.reduceNeg, Nat.reduceBEq, reduceCtorEq, ↓reduceIte, e1, w1, q1, q2, g1, g2, g3, e2, splice, set_ints, hs]))
          | refine Exists.intro _ (Exists.intro _ (And.intro (And.intro rfl rfl) ?_))
          | (refine PCall_use (hcs _) ?_; rintro _ _ ⟨rfl, hq⟩; obtain rfl := hq.symm; clear hq)
          | (refine Exists.intro _ (And.intro (fun _ => hcs _) ?_))
          | (refine Exists.intro _ (And.intro (hcs _) ?_))
          | (refine Exists.intro _ (Exists.intro _ (And.intro (hcs _) ?_)))
        refine ⟨j - 1, by omega, ⟨by omega, by omega, fun k hk1 hk2 => ?_⟩, Env.Sub_of_has (by simp [Env.Has, Env.get, w1]), Store.Sub.refl _⟩
        by_cases hk : k = j - 1
        · rw [hk]; exact htl
        · exact hx k (by omega) hk2
      · have e2 : decide (c (gd l i) (gd l (j - 1)) < 0) = false := decF hlt2
        have htl := ho.tot _ _ hVj hVi hord (fun h => hlt2 ((ho.ahead _ _ hVj hVi hord).2 h))
        have hres := next (.inr htl)
        repeat' first
          | refine W_seq ?_
          | refine W_block ?_
          | ((first | refine W_region (mu := []) ?_ | (refine W_region_any (id := 4) [] ⟨[8,13,14], [], [], [], [], [], 0⟩ mixedOrders_ok (by kernel_rfl) ?_; intro nu hn1 hn2) | (refine W_region_any [] ⟨[], [], [], [], [], [], 0⟩ mixedOrders_ok (by kernel_rfl) ?_; intro nu hn1 hn2) | refine fn_ret ?_ | refine fn_normal ?_ | refine Hold_P ?_ | refine prun_go ?_ | refine drun_go ?_); simp -dsimp only [go_sem, Nat.reduceLT, Nat.reduceLeDiff, Nat.reduceEqDiff, Nat.reduceAdd, Nat.reduceMul, Int.reduceNeg, Nat.reduceBEq, reduceCtorEq, ↓reduceIte, e1, w1, q1, q2, g1, g2, e2])
          | (refine W_cond rfl (fun h => ?_) (fun h => ?_) <;> (try (cases h; done)))
          | refine W_ret ?_
          | refine W_skip ?_
          | refine W_exit ?_
          | refine then_normal ?_
          | refine then_ret ?_
          | refine then_exit ?_
          | refine inBlock_normal ?_
          | refine inBlock_ret ?_
          | refine inBlock_exit ?_
          | refine inBlock_ne (by decide) ?_
          | refine Hold_E ?_
          | (refine And.intro ?_ ?_; omega)
          | ((first | (refine ite_goB (fun h => ?_) (fun h => ?_) <;> (try exact absurd ((h : _ = false).symm.trans (by assumption : _ = true)) (by decide)) <;> (try exact absurd ((by assumption : _ = false).symm.trans (h : _ = true)) (by decide))) | (refine ite_go (fun h => ?_) (fun h => ?_) <;> (try exact absurd h (by assumption)) <;> (try exact absurd (by assumption) h))) <;> (try refine Hold_P ?_) <;> (try simp -dsimp only [h, go_sem, Nat.reduceLT, Nat.reduceLeDiff, Nat.reduceEqDiff, Nat.reduceAdd, Nat.reduceMul, Int.reduceNeg, Nat.reduceBEq, reduceCtorEq, ↓reduceIte, e1, w1, q1, q2, g1, g2, e2]))
          | refine Exists.intro _ (Exists.intro _ (And.intro (And.intro rfl rfl) ?_))
          | (refine PCall_use (hcs _) ?_; rintro _ _ ⟨rfl, hq⟩; obtain rfl := hq.symm; clear hq)
          | (refine Exists.intro _ (And.intro (fun _ => hcs _) ?_))
          | (refine Exists.intro _ (And.intro (hcs _) ?_))
          | (refine Exists.intro _ (Exists.intro _ (And.intro (hcs _) ?_)))
        exact ⟨(rotT l j i (i + 1), i + 1), by simp only; omega, ⟨by simp only; omega, .inl (by simp only; omega), hres⟩, Env.Sub_of_has (by simp [Env.Has, Env.get, wrap_succ (show i < 4611686018427387904 by omega)]), Store.Sub.refl _⟩
  · have hd : decide ((i : Int) < (b : Int)) = false := decF (by omega)
    have hres : Res tl l ls a b := by
      rcases hib with h | ⟨h1, h2⟩
      · have e : i = b := by omega
        rw [← e]; exact hr
      · subst h1
        exact Res.refl' (fun p q _ _ _ => by omega)
    repeat' first
      | refine W_seq ?_
      | refine W_block ?_
      | ((first | refine W_region (mu := []) ?_ | (refine W_region_any [] ⟨[], [], [], [], [], [], 0⟩ mixedOrders_ok (by kernel_rfl) ?_; intro nu hn1 hn2) | refine fn_ret ?_ | refine fn_normal ?_ | refine Hold_P ?_ | refine prun_go ?_ | refine drun_go ?_); simp -dsimp only [go_sem, Nat.reduceLT, Nat.reduceLeDiff, Nat.reduceEqDiff, Nat.reduceAdd, Nat.reduceMul, Int.reduceNeg, Nat.reduceBEq, reduceCtorEq, ↓reduceIte, hd])
      | (refine W_cond rfl (fun h => ?_) (fun h => ?_) <;> (try (cases h; done)))
      | refine W_ret ?_
      | refine W_skip ?_
      | refine W_exit ?_
      | refine then_normal ?_
      | refine then_ret ?_
      | refine then_exit ?_
      | refine inBlock_normal ?_
      | refine inBlock_ret ?_
      | refine inBlock_exit ?_
      | refine inBlock_ne (by decide) ?_
      | refine Hold_E ?_
      | (refine And.intro ?_ ?_; omega)
      | ((first | (refine ite_goB (fun h => ?_) (fun h => ?_) <;> (try exact absurd ((h : _ = false).symm.trans (by assumption : _ = true)) (by decide)) <;> (try exact absurd ((by assumption : _ = false).symm.trans (h : _ = true)) (by decide))) | (refine ite_go (fun h => ?_) (fun h => ?_) <;> (try exact absurd h (by assumption)) <;> (try exact absurd (by assumption) h))) <;> (try refine Hold_P ?_) <;> (try simp -dsimp only [h, go_sem, Nat.reduceLT, Nat.reduceLeDiff, Nat.reduceEqDiff, Nat.reduceAdd, Nat.reduceMul, Int.reduceNeg, Nat.reduceBEq, reduceCtorEq, ↓reduceIte, hd]))
      | refine Exists.intro _ (Exists.intro _ (And.intro (And.intro rfl rfl) ?_))
    exact ⟨_, Store.Sub.refl _, l, rfl, hres⟩
end
end Go.Proofs.Ytlbhhoojbokblaa
