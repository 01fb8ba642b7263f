/- The law DecideOrders, as a contract of the abstract layer. Conditions: none. -/
import Derived.Test.YtlbhhoojbokblaaBl
set_option linter.unusedVariables false
set_option linter.unusedSimpArgs false
namespace Go.Proofs.Ytlbhhoojbokblaa
open Go.Kern
set_option maxRecDepth 100000
set_option maxHeartbeats 4000000
attribute [local go_sem] drun_nil drun_cons prun_nil prun_cons wrOk tqOk lateOp lateB dstOk ev ofConst leafOf Env.putO Env.get envOf readRs_nil oneRes nilSide SK.isNil isMu fillA partsFit boundA SK.cut SK.cutFull SK.fresh rowOk rowsOk_nil rowsOk_cons rowsOk_append rowsOk_ints splice oneOf keyKind cellsKind cellKind cellsB cellB zeroFits TK.agg AV.cells AV.known AV.one List.set_cons_zero List.set_cons_succ put_same put_put forall_const implies_true exists_eq_left exists_eq_left' exists_eq_right exists_eq Store.Sub.refl and_self Int.toNat_natCast length_ints List.length_map true_and and_true decide_true decide_false if_true if_false Bool.false_eq_true Bool.true_eq_false List.getElem?_cons_zero List.getElem?_cons_succ List.length_cons List.length_nil List.drop_zero List.drop_succ_cons List.take_succ_cons List.take_zero List.drop_nil List.take_nil List.append_nil List.map_cons List.map_nil List.cons_append List.nil_append beq_self_eq_true Bool.false_beq Bool.true_beq Bool.not_true Bool.not_false Option.map_some Option.map_none Option.bind_some ne_eq not_false_eq_true List.contains_cons List.contains_nil Bool.or_false Bool.or_true Bool.and_true Bool.and_false Bool.true_and Bool.false_and List.all_cons List.all_nil Nat.one_ne_zero Nat.zero_ne_one Option.isSome_some Option.isSome_none List.getElem?_toArray beq_true beq_false decide_eq_true_eq Int.toNat_zero forall_ints take_ints drop_ints Int.le_refl Int.natCast_nonneg Nat.zero_add Nat.add_zero or_true true_or false_or or_false
attribute [local go_sem ↓] allocN guardP OpSem callA readRs_cons readR binA intOpA strOpA nilOpA unA convA boxA allocA behind loadA buildA buildSliceA fieldAddrA fieldA indexAddrA indexA lenA sliceA extractA nilCheckA storeA lookupA mapSetA mapDelA makeSliceA appendA appendN apN
attribute [local irreducible] PCall W

section
variable (l : List Cand)
theorem tlC_total {x y : Int} (h : x ≠ y) : tlC l x y ∨ tlC l y x := by
  have := cC_anti l x y
  simp only [tlC]
  omega
theorem insert_ex (x : Int) : ∀ out : List Int, out.Pairwise (tlC l) → x ∉ out → ∃ o' : List Int, o'.Perm (x :: out) ∧ o'.Pairwise (tlC l)
  | [], _, _ => ⟨[x], List.Perm.refl _, List.pairwise_singleton _ _⟩
  | y :: ys, hp, hn => by
    rw [List.pairwise_cons] at hp
    rw [List.mem_cons, not_or] at hn
    rcases tlC_total l hn.1 with h | h
    · refine ⟨x :: y :: ys, List.Perm.refl _, List.pairwise_cons.2 ⟨fun z hz => ?_, List.pairwise_cons.2 hp⟩⟩
      rcases List.mem_cons.1 hz with rfl | hz
      · exact h
      · exact tlC_trans l h (hp.1 z hz)
    · obtain ⟨o', h1, h2⟩ := insert_ex x ys hp.2 hn.2
      refine ⟨y :: o', (List.Perm.cons y h1).trans (List.Perm.swap x y ys), List.pairwise_cons.2 ⟨fun z hz => ?_, h2⟩⟩
      rcases List.mem_cons.1 (h1.mem_iff.1 hz) with rfl | hz
      · exact h
      · exact hp.1 z hz
theorem sort_ex : ∀ m : List Int, m.Nodup → ∃ o' : List Int, o'.Perm m ∧ o'.Pairwise (tlC l)
  | [], _ => ⟨[], List.Perm.refl _, List.Pairwise.nil⟩
  | x :: m, h => by
    rw [List.nodup_cons] at h
    obtain ⟨o, h1, h2⟩ := sort_ex m h.2
    obtain ⟨o', h3, h4⟩ := insert_ex l x o h2 (fun hx => h.1 (h1.mem_iff.1 hx))
    exact ⟨o', h3.trans (List.Perm.cons x h1), h4⟩
theorem orderZ_is : IsOrder l (orderZ l) := by
  obtain ⟨o, h1, h2⟩ := sort_ex l (fitsTo l l.length) (fitsTo_nodup l _)
  have h : IsOrder l o := ⟨h1, h2⟩
  rw [← orderZ_of l h]; exact h
theorem orderZ_nil : orderZ l = [] ↔ fitsTo l l.length = [] := by
  have := (orderZ_is l).perm.length_eq
  constructor
  · intro h; rw [h] at this; exact List.eq_nil_of_length_eq_zero this.symm
  · intro h; rw [h] at this; exact List.eq_nil_of_length_eq_zero this
theorem best_order : bestI l = if orderZ l = [] then -1 else gd (orderZ l) 0 := by
  have ho := orderZ_is l
  split
  · rename_i h
    rw [orderZ_nil] at h
    rcases bestI_st l with ⟨h1, _⟩ | ⟨n, h1, h2⟩
    · exact h1
    · have : (n : Int) ∈ fitsTo l l.length := (mem_fitsTo l).2 ⟨n, rfl, h2.1, h2.2.1⟩
      rw [h] at this; cases this
  · rename_i h
    obtain ⟨x, m, hm⟩ : ∃ x m, orderZ l = x :: m := by
      cases hq : orderZ l with
      | nil => exact (h hq).elim
      | cons x m => exact ⟨x, m, rfl⟩
    rw [hm] at ho ⊢
    have hx : x ∈ fitsTo l l.length := ho.perm.mem_iff.1 List.mem_cons_self
    obtain ⟨n, rfl, hn, hf⟩ := (mem_fitsTo l).1 hx
    have hall : ∀ j : Nat, j < l.length → candFit (l.getD j noCand) = true → j ≠ n → tlC l n j := by
      intro j hj hfj hne
      have : (j : Int) ∈ (n : Int) :: m := ho.perm.mem_iff.2 ((mem_fitsTo l).2 ⟨j, rfl, hj, hfj⟩)
      rcases List.mem_cons.1 this with h | h
      · omega
      · exact (List.pairwise_cons.1 ho.srt).1 _ h
    refine bestI_of ⟨hn, hf, fun j hj hfj => ?_, fun j hj hj2 hfj hb => ?_⟩
    · have := hall j (by omega) hfj (by omega)
      simp only [tlC, cC, cAt_nat] at this
      rcases this with h | ⟨_, h⟩
      · exact h
      · omega
    · have := hall j hj2 hfj (by omega)
      have ha := cC_anti l n j
      simp only [tlC, cC, cAt_nat] at this ha
      simp only [better] at hb
      omega
end

theorem refOrder_spec (k : SK) (l : List Cand) (hl : l.length ≤ 40) (hf : ∀ c, c ∈ l → c.A.Fits) (σ : Store) :
    PCall Try.prog 19 [.sl k (cands l)] σ (fun r s => r = slI (orderZ l) ∧ s = σ) := by
  by_cases h0 : l = []
  · subst h0
    have : orderZ ([] : List Cand) = [] := (orderZ_nil _).2 rfl
    refine (refOrderNil_spec k σ).mono ?_
    rintro r s ⟨rfl, rfl⟩
    exact ⟨by rw [this]; rfl, rfl⟩
  · refine PCall_fin (refOrderCons_spec k l (List.length_pos_iff.2 h0) hl hf σ) ?_
    rintro r s ⟨⟨kd, h1, h2, h3, rfl⟩, rfl⟩
    cases hk : kd.isNil with
    | true =>
      rw [h3 hk]
      exact .as ⟨_, Store.Sub.refl _, by rw [slI, if_pos (h1 hk)], rfl⟩
    | false => exact .imm kd _ rfl hk ⟨_, Store.Sub.refl _, by rw [slI, if_neg (h2 hk)], rfl⟩

theorem refBest_spec (k : SK) (l : List Cand) (hl : l.length ≤ 40) (hf : ∀ c, c ∈ l → c.A.Fits) (σ : Store) :
    PCall Try.prog 16 [.sl k (cands l)] σ (fun r s => r = .int .i64 (bestZ l (-1) 0 l) ∧ s = σ) := by
  have hb : bestZ l (-1) 0 l = _ := best_order l
  rw [hb]
  refine PCall_q [.tmp 2] 12 Try.func16 (by rfl) rfl rfl rfl rfl ?_
  by_cases h0 : orderZ l = []
  · have z1 : ((orderZ l).length : Int) = 0 := by rw [h0]; rfl
    simp only [h0, if_true]
    repeat' first
      | refine W_seq ?_
      | refine W_block ?_
      | ((first | refine W_region (mu := []) ?_ | (refine W_region_any [] ⟨[], [], [], [], [], [], 0⟩ mixedOrders_ok (by kernel_rfl) ?_; intro nu hn1 hn2) | refine fn_ret ?_ | refine fn_normal ?_ | refine Hold_P ?_ | refine prun_go ?_ | refine drun_go ?_); simp -dsimp only [go_sem, Nat.reduceLT, Nat.reduceLeDiff, Nat.reduceEqDiff, Nat.reduceAdd, Nat.reduceMul, Int.reduceNeg, Nat.reduceBEq, reduceCtorEq, ↓reduceIte, slI, h0])
      | (refine W_cond rfl (fun h => ?_) (fun h => ?_) <;> (try (cases h; done)))
      | refine W_ret ?_
      | refine W_skip ?_
      | refine W_exit ?_
      | refine then_normal ?_
      | refine then_ret ?_
      | refine then_exit ?_
      | refine inBlock_normal ?_
      | refine inBlock_ret ?_
      | refine inBlock_exit ?_
      | refine inBlock_ne (by decide) ?_
      | refine Hold_E ?_
      | (refine And.intro ?_ ?_; omega)
      | ((first | (refine ite_goB (fun h => ?_) (fun h => ?_) <;> (try exact absurd ((h : _ = false).symm.trans (by assumption : _ = true)) (by decide)) <;> (try exact absurd ((by assumption : _ = false).symm.trans (h : _ = true)) (by decide))) | (refine ite_go (fun h => ?_) (fun h => ?_) <;> (try exact absurd h (by assumption)) <;> (try exact absurd (by assumption) h))) <;> (try refine Hold_P ?_) <;> (try simp -dsimp only [h, go_sem, Nat.reduceLT, Nat.reduceLeDiff, Nat.reduceEqDiff, Nat.reduceAdd, Nat.reduceMul, Int.reduceNeg, Nat.reduceBEq, reduceCtorEq, ↓reduceIte, slI, h0]))
      | refine Exists.intro _ (Exists.intro _ (And.intro (And.intro rfl rfl) ?_))
      | (refine PCall_use (refOrder_spec k l hl hf _) ?_; rintro _ _ ⟨rfl, hq⟩; obtain rfl := hq.symm; clear hq)
      | (refine Exists.intro _ (And.intro (fun _ => refOrder_spec k l hl hf _) ?_))
      | (refine Exists.intro _ (And.intro (refOrder_spec k l hl hf _) ?_))
      | (refine Exists.intro _ (Exists.intro _ (And.intro (refOrder_spec k l hl hf _) ?_)))
  · have hp : 0 < (orderZ l).length := List.length_pos_iff.2 h0
    have z1 : decide (((orderZ l).length : Int) = 0) = false := decF (by omega)
    have z2 : ((0 : Int) < ((orderZ l).length : Int)) = True := eq_true (by omega)
    have hx := getD_ints hp
    have h0' : (orderZ l = []) = False := eq_false h0
    rw [if_neg h0]
    repeat' first
      | refine W_seq ?_
      | refine W_block ?_
      | ((first | refine W_region (mu := []) ?_ | (refine W_region_any [] ⟨[], [], [], [], [], [], 0⟩ mixedOrders_ok (by kernel_rfl) ?_; intro nu hn1 hn2) | refine fn_ret ?_ | refine fn_normal ?_ | refine Hold_P ?_ | refine prun_go ?_ | refine drun_go ?_); simp -dsimp only [go_sem, Nat.reduceLT, Nat.reduceLeDiff, Nat.reduceEqDiff, Nat.reduceAdd, Nat.reduceMul, Int.reduceNeg, Nat.reduceBEq, reduceCtorEq, ↓reduceIte, slI, h0', z1, z2, hx])
      | (refine W_cond rfl (fun h => ?_) (fun h => ?_) <;> (try (cases h; done)))
      | refine W_ret ?_
      | refine W_skip ?_
      | refine W_exit ?_
      | refine then_normal ?_
      | refine then_ret ?_
      | refine then_exit ?_
      | refine inBlock_normal ?_
      | refine inBlock_ret ?_
      | refine inBlock_exit ?_
      | refine inBlock_ne (by decide) ?_
      | refine Hold_E ?_
      | (refine And.intro ?_ ?_; omega)
      | ((first | (refine ite_goB (fun h => ?_) (fun h => ?_) <;> (try exact absurd ((h : _ = false).symm.trans (by assumption : _ = true)) (by decide)) <;> (try exact absurd ((by assumption : _ = false).symm.trans (h : _ = true)) (by decide))) | (refine ite_go (fun h => ?_) (fun h => ?_) <;> (try exact absurd h (by assumption)) <;> (try exact absurd (by assumption) h))) <;> (try refine Hold_P ?_) <;> (try simp -dsimp only [h, go_sem, Nat.reduceLT, Nat.reduceLeDiff, Nat.reduceEqDiff, Nat.reduceAdd, Nat.reduceMul, Int.reduceNeg, Nat.reduceBEq, reduceCtorEq, ↓reduceIte, slI, h0', z1, z2, hx]))
      | refine Exists.intro _ (Exists.intro _ (And.intro (And.intro rfl rfl) ?_))
      | (refine PCall_use (refOrder_spec k l hl hf _) ?_; rintro _ _ ⟨rfl, hq⟩; obtain rfl := hq.symm; clear hq)
      | (refine Exists.intro _ (And.intro (fun _ => refOrder_spec k l hl hf _) ?_))
      | (refine Exists.intro _ (And.intro (refOrder_spec k l hl hf _) ?_))
      | (refine Exists.intro _ (Exists.intro _ (And.intro (refOrder_spec k l hl hf _) ?_)))

theorem refSame_spec (k : SK) (l : List Int) (hl : l.length < 4611686018427387904) (σ : Store) :
    PCall Try.prog 17 [.sl k (ints l), .sl k (ints l)] σ (fun r s => r = .bool true ∧ s = σ) := by
  have h0 : pathCmp l l = 0 := by
    have := pathCmp_ord.anti l l
    omega
  refine PCall_q [.tmp 4] 9 Try.func17 (by rfl) rfl rfl rfl rfl ?_
  repeat' first
    | refine W_seq ?_
    | refine W_block ?_
    | ((first | refine W_region (mu := []) ?_ | (refine W_region_any [] ⟨[], [], [], [], [], [], 0⟩ mixedOrders_ok (by kernel_rfl) ?_; intro nu hn1 hn2) | refine fn_ret ?_ | refine fn_normal ?_ | refine Hold_P ?_ | refine prun_go ?_ | refine drun_go ?_); simp -dsimp only [go_sem, Nat.reduceLT, Nat.reduceLeDiff, Nat.reduceEqDiff, Nat.reduceAdd, Nat.reduceMul, Int.reduceNeg, Nat.reduceBEq, reduceCtorEq, ↓reduceIte, h0])
    | (refine W_cond rfl (fun h => ?_) (fun h => ?_) <;> (try (cases h; done)))
    | refine W_ret ?_
    | refine W_skip ?_
    | refine W_exit ?_
    | refine then_normal ?_
    | refine then_ret ?_
    | refine then_exit ?_
    | refine inBlock_normal ?_
    | refine inBlock_ret ?_
    | refine inBlock_exit ?_
    | refine inBlock_ne (by decide) ?_
    | refine Hold_E ?_
    | (refine And.intro ?_ ?_; omega)
    | ((first | (refine ite_goB (fun h => ?_) (fun h => ?_) <;> (try exact absurd ((h : _ = false).symm.trans (by assumption : _ = true)) (by decide)) <;> (try exact absurd ((by assumption : _ = false).symm.trans (h : _ = true)) (by decide))) | (refine ite_go (fun h => ?_) (fun h => ?_) <;> (try exact absurd h (by assumption)) <;> (try exact absurd (by assumption) h))) <;> (try refine Hold_P ?_) <;> (try simp -dsimp only [h, go_sem, Nat.reduceLT, Nat.reduceLeDiff, Nat.reduceEqDiff, Nat.reduceAdd, Nat.reduceMul, Int.reduceNeg, Nat.reduceBEq, reduceCtorEq, ↓reduceIte, h0]))
    | refine Exists.intro _ (Exists.intro _ (And.intro (And.intro rfl rfl) ?_))
    | (refine PCall_use (ref04_spec k k l l hl hl _) ?_; rintro _ _ ⟨rfl, hq⟩; obtain rfl := hq.symm; clear hq)
    | (refine Exists.intro _ (And.intro (fun _ => ref04_spec k k l l hl hl _) ?_))
    | (refine Exists.intro _ (And.intro (ref04_spec k k l l hl hl _) ?_))
    | (refine Exists.intro _ (Exists.intro _ (And.intro (ref04_spec k k l l hl hl _) ?_)))

theorem orders_spec (k : SK) (l : List Cand) (σ : Store) : PCall Try.prog 5 [.sl k (cands l)] σ (fun r s => r = .bool true ∧ s = σ) := by
  rcases Bool.eq_false_or_eq_true (candsFew l) with hf | hf
  · have h40 : l.length ≤ 40 := by simp only [candsFew, Bool.and_eq_true, decide_eq_true_eq] at hf; exact hf.1
    have hfit := few_fits hf
    have hol : (orderZ l).length < 4611686018427387904 := by
      have h1 := (orderZ_is l).perm.length_eq
      have h2 := fitsTo_le l l.length
      omega
    refine PCall_w [.tmp 2] 43 Try.func5 (by rfl) rfl rfl rfl rfl ?_
    repeat' first
      | ((fail_if_success (first | show W _ _ (Code.seq (Code.region 3 _ _) _) _ _ _ | show W _ _ (Code.seq (Code.seq (Code.region 3 _ _) _) _) _ _ _)); refine W_seq ?_)
      | refine W_block ?_
      | ((first | refine W_region (mu := []) ?_ | (refine W_region_any [] ⟨[], [], [], [], [], [], 0⟩ mixedOrders_ok (by kernel_rfl) ?_; intro nu hn1 hn2) | refine fn_ret ?_ | refine fn_normal ?_ | refine Hold_P ?_ | refine prun_go ?_ | refine drun_go ?_); simp -dsimp only [go_sem, Nat.reduceLT, Nat.reduceLeDiff, Nat.reduceEqDiff, Nat.reduceAdd, Nat.reduceMul, Int.reduceNeg, Nat.reduceBEq, reduceCtorEq, ↓reduceIte, hf])
      | (refine W_cond rfl (fun h => ?_) (fun h => ?_) <;> (try (cases h; done)))
      | refine W_ret ?_
      | refine W_skip ?_
      | refine W_exit ?_
      | refine then_normal ?_
      | refine then_ret ?_
      | refine then_exit ?_
      | refine inBlock_normal ?_
      | refine inBlock_ret ?_
      | refine inBlock_exit ?_
      | refine inBlock_ne (by decide) ?_
      | refine Hold_E ?_
      | (refine And.intro ?_ ?_; omega)
      | ((first | (refine ite_goB (fun h => ?_) (fun h => ?_) <;> (try exact absurd ((h : _ = false).symm.trans (by assumption : _ = true)) (by decide)) <;> (try exact absurd ((by assumption : _ = false).symm.trans (h : _ = true)) (by decide))) | (refine ite_go (fun h => ?_) (fun h => ?_) <;> (try exact absurd h (by assumption)) <;> (try exact absurd (by assumption) h))) <;> (try refine Hold_P ?_) <;> (try simp -dsimp only [h, go_sem, Nat.reduceLT, Nat.reduceLeDiff, Nat.reduceEqDiff, Nat.reduceAdd, Nat.reduceMul, Int.reduceNeg, Nat.reduceBEq, reduceCtorEq, ↓reduceIte, hf]))
      | refine Exists.intro _ (Exists.intro _ (And.intro (And.intro rfl rfl) ?_))
      | (refine PCall_use (few_spec0 k l _) ?_; rintro _ _ ⟨rfl, hq⟩; obtain rfl := hq.symm; clear hq)
      | (refine Exists.intro _ (And.intro (fun _ => few_spec0 k l _) ?_))
      | (refine Exists.intro _ (And.intro (few_spec0 k l _) ?_))
      | (refine Exists.intro _ (Exists.intro _ (And.intro (few_spec0 k l _) ?_)))
    refine W_midE (α := SK) (fun kd => [(0, .sl k (cands l)), (3, .sl kd (cands l))]) (fun _ => σ) (fun _ => True) ?_ ?_
    · skip
      repeat' first
        | refine W_seq ?_
        | refine W_block ?_
        | ((first | refine W_region (mu := []) ?_ | (refine W_region_any [] ⟨[], [], [], [], [], [], 0⟩ mixedOrders_ok (by kernel_rfl) ?_; intro nu hn1 hn2) | refine fn_ret ?_ | refine fn_normal ?_ | refine Hold_P ?_ | refine prun_go ?_ | refine drun_go ?_); simp -dsimp only [go_sem, Nat.reduceLT, Nat.reduceLeDiff, Nat.reduceEqDiff, Nat.reduceAdd, Nat.reduceMul, Int.reduceNeg, Nat.reduceBEq, reduceCtorEq, ↓reduceIte])
        | (refine W_cond rfl (fun h => ?_) (fun h => ?_) <;> (try (cases h; done)))
        | refine W_ret ?_
        | refine W_skip ?_
        | refine W_exit ?_
        | refine then_normal ?_
        | refine then_ret ?_
        | refine then_exit ?_
        | refine inBlock_normal ?_
        | refine inBlock_ret ?_
        | refine inBlock_exit ?_
        | refine inBlock_ne (by decide) ?_
        | refine Hold_E ?_
        | (refine And.intro ?_ ?_; omega)
        | ((first | (refine ite_goB (fun h => ?_) (fun h => ?_) <;> (try exact absurd ((h : _ = false).symm.trans (by assumption : _ = true)) (by decide)) <;> (try exact absurd ((by assumption : _ = false).symm.trans (h : _ = true)) (by decide))) | (refine ite_go (fun h => ?_) (fun h => ?_) <;> (try exact absurd h (by assumption)) <;> (try exact absurd (by assumption) h))) <;> (try refine Hold_P ?_) <;> (try simp -dsimp only [h, go_sem, Nat.reduceLT, Nat.reduceLeDiff, Nat.reduceEqDiff, Nat.reduceAdd, Nat.reduceMul, Int.reduceNeg, Nat.reduceBEq, reduceCtorEq, ↓reduceIte]))
        | refine Exists.intro _ (Exists.intro _ (And.intro (And.intro rfl rfl) ?_))
      refine PCall_use (allMine_spec k l (by omega) _) ?_
      rintro _ _ ⟨⟨kd, rfl, _⟩, rfl⟩
      repeat' first
        | refine W_seq ?_
        | refine W_block ?_
        | ((first | refine W_region (mu := []) ?_ | (refine W_region_any [] ⟨[], [], [], [], [], [], 0⟩ mixedOrders_ok (by kernel_rfl) ?_; intro nu hn1 hn2) | refine fn_ret ?_ | refine fn_normal ?_ | refine Hold_P ?_ | refine prun_go ?_ | refine drun_go ?_); simp -dsimp only [go_sem, Nat.reduceLT, Nat.reduceLeDiff, Nat.reduceEqDiff, Nat.reduceAdd, Nat.reduceMul, Int.reduceNeg, Nat.reduceBEq, reduceCtorEq, ↓reduceIte])
        | (refine W_cond rfl (fun h => ?_) (fun h => ?_) <;> (try (cases h; done)))
        | refine W_ret ?_
        | refine W_skip ?_
        | refine W_exit ?_
        | refine then_normal ?_
        | refine then_ret ?_
        | refine then_exit ?_
        | refine inBlock_normal ?_
        | refine inBlock_ret ?_
        | refine inBlock_exit ?_
        | refine inBlock_ne (by decide) ?_
        | refine Hold_E ?_
        | (refine And.intro ?_ ?_; omega)
        | ((first | (refine ite_goB (fun h => ?_) (fun h => ?_) <;> (try exact absurd ((h : _ = false).symm.trans (by assumption : _ = true)) (by decide)) <;> (try exact absurd ((by assumption : _ = false).symm.trans (h : _ = true)) (by decide))) | (refine ite_go (fun h => ?_) (fun h => ?_) <;> (try exact absurd h (by assumption)) <;> (try exact absurd (by assumption) h))) <;> (try refine Hold_P ?_) <;> (try simp -dsimp only [h, go_sem, Nat.reduceLT, Nat.reduceLeDiff, Nat.reduceEqDiff, Nat.reduceAdd, Nat.reduceMul, Int.reduceNeg, Nat.reduceBEq, reduceCtorEq, ↓reduceIte]))
        | refine Exists.intro _ (Exists.intro _ (And.intro (And.intro rfl rfl) ?_))
      exact ⟨kd, trivial, Env.Sub_of_has (by simp [Env.Has, Env.get, Env.putO]), Store.Sub.refl _⟩
    intro kd _
    repeat' first
      | refine W_seq ?_
      | refine W_block ?_
      | ((first | refine W_region (mu := []) ?_ | (refine W_region_any [] ⟨[], [], [], [], [], [], 0⟩ mixedOrders_ok (by kernel_rfl) ?_; intro nu hn1 hn2) | refine fn_ret ?_ | refine fn_normal ?_ | refine Hold_P ?_ | refine prun_go ?_ | refine drun_go ?_); simp -dsimp only [go_sem, Nat.reduceLT, Nat.reduceLeDiff, Nat.reduceEqDiff, Nat.reduceAdd, Nat.reduceMul, Int.reduceNeg, Nat.reduceBEq, reduceCtorEq, ↓reduceIte])
      | (refine W_cond rfl (fun h => ?_) (fun h => ?_) <;> (try (cases h; done)))
      | refine W_ret ?_
      | refine W_skip ?_
      | refine W_exit ?_
      | refine then_normal ?_
      | refine then_ret ?_
      | refine then_exit ?_
      | refine inBlock_normal ?_
      | refine inBlock_ret ?_
      | refine inBlock_exit ?_
      | refine inBlock_ne (by decide) ?_
      | refine Hold_E ?_
      | (refine And.intro ?_ ?_; omega)
      | ((first | (refine ite_goB (fun h => ?_) (fun h => ?_) <;> (try exact absurd ((h : _ = false).symm.trans (by assumption : _ = true)) (by decide)) <;> (try exact absurd ((by assumption : _ = false).symm.trans (h : _ = true)) (by decide))) | (refine ite_go (fun h => ?_) (fun h => ?_) <;> (try exact absurd h (by assumption)) <;> (try exact absurd (by assumption) h))) <;> (try refine Hold_P ?_) <;> (try simp -dsimp only [h, go_sem, Nat.reduceLT, Nat.reduceLeDiff, Nat.reduceEqDiff, Nat.reduceAdd, Nat.reduceMul, Int.reduceNeg, Nat.reduceBEq, reduceCtorEq, ↓reduceIte]))
      | refine Exists.intro _ (Exists.intro _ (And.intro (And.intro rfl rfl) ?_))
    refine W_loop_st (fun i : Nat => [(0, .sl k (cands l)), (3, .sl kd (cands l)), (4, .int .i64 i)]) (fun _ => σ) (fun i => i ≤ l.length) (fun i => l.length - i) 0 (Nat.zero_le _) (Env.Sub_of_has (by simp [Env.Has, Env.get])) (Store.Sub.refl _) ?_
    intro i hi
    by_cases hlt : i < l.length
    · have hx := getD_cands hlt
      have hd : decide ((i : Int) < (l.length : Int)) = true := decT (by omega)
      have hlt' : ((i : Int) < (l.length : Int)) = True := by simp; omega
      have hfi : (l.getD i noCand).A.Fits := hfit _ (getD_mem hlt)
      repeat' first
        | refine W_seq ?_
        | refine W_block ?_
        | ((first | refine W_region (mu := []) ?_ | (refine W_region_any [] ⟨[], [], [], [], [], [], 0⟩ mixedOrders_ok (by kernel_rfl) ?_; intro nu hn1 hn2) | refine fn_ret ?_ | refine fn_normal ?_ | refine Hold_P ?_ | refine prun_go ?_ | refine drun_go ?_); simp -dsimp only [go_sem, Nat.reduceLT, Nat.reduceLeDiff, Nat.reduceEqDiff, Nat.reduceAdd, Nat.reduceMul, Int.reduceNeg, Nat.reduceBEq, reduceCtorEq, ↓reduceIte, length_cands, hx, hd, hlt', Cand.cells])
        | (refine W_cond rfl (fun h => ?_) (fun h => ?_) <;> (try (cases h; done)))
        | refine W_ret ?_
        | refine W_skip ?_
        | refine W_exit ?_
        | refine then_normal ?_
        | refine then_ret ?_
        | refine then_exit ?_
        | refine inBlock_normal ?_
        | refine inBlock_ret ?_
        | refine inBlock_exit ?_
        | refine inBlock_ne (by decide) ?_
        | refine Hold_E ?_
        | (refine And.intro ?_ ?_; omega)
        | ((first | (refine ite_goB (fun h => ?_) (fun h => ?_) <;> (try exact absurd ((h : _ = false).symm.trans (by assumption : _ = true)) (by decide)) <;> (try exact absurd ((by assumption : _ = false).symm.trans (h : _ = true)) (by decide))) | (refine ite_go (fun h => ?_) (fun h => ?_) <;> (try exact absurd h (by assumption)) <;> (try exact absurd (by assumption) h))) <;> (try refine Hold_P ?_) <;> (try simp -dsimp only [h, go_sem, Nat.reduceLT, Nat.reduceLeDiff, Nat.reduceEqDiff, Nat.reduceAdd, Nat.reduceMul, Int.reduceNeg, Nat.reduceBEq, reduceCtorEq, ↓reduceIte, length_cands, hx, hd, hlt', Cand.cells]))
        | refine Exists.intro _ (Exists.intro _ (And.intro (And.intro rfl rfl) ?_))
        | (refine PCall_use (fit_spec (l.getD i noCand) hfi _) ?_; rintro _ _ ⟨rfl, hq⟩; obtain rfl := hq.symm; clear hq)
        | (refine Exists.intro _ (And.intro (fun _ => fit_spec (l.getD i noCand) hfi _) ?_))
        | (refine Exists.intro _ (And.intro (fit_spec (l.getD i noCand) hfi _) ?_))
        | (refine Exists.intro _ (Exists.intro _ (And.intro (fit_spec (l.getD i noCand) hfi _) ?_)))
        | (refine PCall_use (refFit_spec (l.getD i noCand) hfi _) ?_; rintro _ _ ⟨rfl, hq⟩; obtain rfl := hq.symm; clear hq)
        | (refine Exists.intro _ (And.intro (fun _ => refFit_spec (l.getD i noCand) hfi _) ?_))
        | (refine Exists.intro _ (And.intro (refFit_spec (l.getD i noCand) hfi _) ?_))
        | (refine Exists.intro _ (Exists.intro _ (And.intro (refFit_spec (l.getD i noCand) hfi _) ?_)))
      exact ⟨i + 1, by omega, by omega, Env.Sub_of_has (by simp [Env.Has, Env.get, wrap_succ (show i < 4611686018427387904 by omega)]), Store.Sub.refl _⟩
    · have hd : decide ((i : Int) < (l.length : Int)) = false := decF (by omega)
      repeat' first
        | refine W_seq ?_
        | refine W_block ?_
        | ((first | refine W_region (mu := []) ?_ | (refine W_region_any [] ⟨[], [], [], [], [], [], 0⟩ mixedOrders_ok (by kernel_rfl) ?_; intro nu hn1 hn2) | refine fn_ret ?_ | refine fn_normal ?_ | refine Hold_P ?_ | refine prun_go ?_ | refine drun_go ?_); simp -dsimp only [go_sem, Nat.reduceLT, Nat.reduceLeDiff, Nat.reduceEqDiff, Nat.reduceAdd, Nat.reduceMul, Int.reduceNeg, Nat.reduceBEq, reduceCtorEq, ↓reduceIte, length_cands, hd, slI])
        | (refine W_cond rfl (fun h => ?_) (fun h => ?_) <;> (try (cases h; done)))
        | refine W_ret ?_
        | refine W_skip ?_
        | refine W_exit ?_
        | refine then_normal ?_
        | refine then_ret ?_
        | refine then_exit ?_
        | refine inBlock_normal ?_
        | refine inBlock_ret ?_
        | refine inBlock_exit ?_
        | refine inBlock_ne (by decide) ?_
        | refine Hold_E ?_
        | (refine And.intro ?_ ?_; omega)
        | ((first | (refine ite_goB (fun h => ?_) (fun h => ?_) <;> (try exact absurd ((h : _ = false).symm.trans (by assumption : _ = true)) (by decide)) <;> (try exact absurd ((by assumption : _ = false).symm.trans (h : _ = true)) (by decide))) | (refine ite_go (fun h => ?_) (fun h => ?_) <;> (try exact absurd h (by assumption)) <;> (try exact absurd (by assumption) h))) <;> (try refine Hold_P ?_) <;> (try simp -dsimp only [h, go_sem, Nat.reduceLT, Nat.reduceLeDiff, Nat.reduceEqDiff, Nat.reduceAdd, Nat.reduceMul, Int.reduceNeg, Nat.reduceBEq, reduceCtorEq, ↓reduceIte, length_cands, hd, slI]))
        | refine Exists.intro _ (Exists.intro _ (And.intro (And.intro rfl rfl) ?_))
        | (refine PCall_use (best_spec kd l (by omega) hfit _) ?_; rintro _ _ ⟨rfl, hq⟩; obtain rfl := hq.symm; clear hq)
        | (refine Exists.intro _ (And.intro (fun _ => best_spec kd l (by omega) hfit _) ?_))
        | (refine Exists.intro _ (And.intro (best_spec kd l (by omega) hfit _) ?_))
        | (refine Exists.intro _ (Exists.intro _ (And.intro (best_spec kd l (by omega) hfit _) ?_)))
        | (refine PCall_use (refBest_spec k l h40 hfit _) ?_; rintro _ _ ⟨rfl, hq⟩; obtain rfl := hq.symm; clear hq)
        | (refine Exists.intro _ (And.intro (fun _ => refBest_spec k l h40 hfit _) ?_))
        | (refine Exists.intro _ (And.intro (refBest_spec k l h40 hfit _) ?_))
        | (refine Exists.intro _ (Exists.intro _ (And.intro (refBest_spec k l h40 hfit _) ?_)))
        | (refine PCall_use (decOrder_spec kd l h40 hfit _) ?_; rintro _ _ ⟨rfl, hq⟩; obtain rfl := hq.symm; clear hq)
        | (refine Exists.intro _ (And.intro (fun _ => decOrder_spec kd l h40 hfit _) ?_))
        | (refine Exists.intro _ (And.intro (decOrder_spec kd l h40 hfit _) ?_))
        | (refine Exists.intro _ (Exists.intro _ (And.intro (decOrder_spec kd l h40 hfit _) ?_)))
        | (refine PCall_use (refOrder_spec k l h40 hfit _) ?_; rintro _ _ ⟨rfl, hq⟩; obtain rfl := hq.symm; clear hq)
        | (refine Exists.intro _ (And.intro (fun _ => refOrder_spec k l h40 hfit _) ?_))
        | (refine Exists.intro _ (And.intro (refOrder_spec k l h40 hfit _) ?_))
        | (refine Exists.intro _ (Exists.intro _ (And.intro (refOrder_spec k l h40 hfit _) ?_)))
        | (refine PCall_use (refSame_spec _ (orderZ l) hol _) ?_; rintro _ _ ⟨rfl, hq⟩; obtain rfl := hq.symm; clear hq)
        | (refine Exists.intro _ (And.intro (fun _ => refSame_spec _ (orderZ l) hol _) ?_))
        | (refine Exists.intro _ (And.intro (refSame_spec _ (orderZ l) hol _) ?_))
        | (refine Exists.intro _ (Exists.intro _ (And.intro (refSame_spec _ (orderZ l) hol _) ?_)))
        | (refine PCall_use (lives_spec _) ?_; rintro _ _ ⟨rfl, hq⟩; obtain rfl := hq.symm; clear hq)
        | (refine Exists.intro _ (And.intro (fun _ => lives_spec _) ?_))
        | (refine Exists.intro _ (And.intro (lives_spec _) ?_))
        | (refine Exists.intro _ (Exists.intro _ (And.intro (lives_spec _) ?_)))
  · skip
    refine PCall_q [.tmp 2] 43 Try.func5 (by rfl) rfl rfl rfl rfl ?_
    repeat' first
      | refine W_seq ?_
      | refine W_block ?_
      | ((first | refine W_region (mu := []) ?_ | (refine W_region_any [] ⟨[], [], [], [], [], [], 0⟩ mixedOrders_ok (by kernel_rfl) ?_; intro nu hn1 hn2) | refine fn_ret ?_ | refine fn_normal ?_ | refine Hold_P ?_ | refine prun_go ?_ | refine drun_go ?_); simp -dsimp only [go_sem, Nat.reduceLT, Nat.reduceLeDiff, Nat.reduceEqDiff, Nat.reduceAdd, Nat.reduceMul, Int.reduceNeg, Nat.reduceBEq, reduceCtorEq, ↓reduceIte, hf])
      | (refine W_cond rfl (fun h => ?_) (fun h => ?_) <;> (try (cases h; done)))
      | refine W_ret ?_
      | refine W_skip ?_
      | refine W_exit ?_
      | refine then_normal ?_
      | refine then_ret ?_
      | refine then_exit ?_
      | refine inBlock_normal ?_
      | refine inBlock_ret ?_
      | refine inBlock_exit ?_
      | refine inBlock_ne (by decide) ?_
      | refine Hold_E ?_
      | (refine And.intro ?_ ?_; omega)
      | ((first | (refine ite_goB (fun h => ?_) (fun h => ?_) <;> (try exact absurd ((h : _ = false).symm.trans (by assumption : _ = true)) (by decide)) <;> (try exact absurd ((by assumption : _ = false).symm.trans (h : _ = true)) (by decide))) | (refine ite_go (fun h => ?_) (fun h => ?_) <;> (try exact absurd h (by assumption)) <;> (try exact absurd (by assumption) h))) <;> (try refine Hold_P ?_) <;> (try simp -dsimp only [h, go_sem, Nat.reduceLT, Nat.reduceLeDiff, Nat.reduceEqDiff, Nat.reduceAdd, Nat.reduceMul, Int.reduceNeg, Nat.reduceBEq, reduceCtorEq, ↓reduceIte, hf]))
      | refine Exists.intro _ (Exists.intro _ (And.intro (And.intro rfl rfl) ?_))
      | (refine PCall_use (few_spec0 k l _) ?_; rintro _ _ ⟨rfl, hq⟩; obtain rfl := hq.symm; clear hq)
      | (refine Exists.intro _ (And.intro (fun _ => few_spec0 k l _) ?_))
      | (refine Exists.intro _ (And.intro (few_spec0 k l _) ?_))
      | (refine Exists.intro _ (Exists.intro _ (And.intro (few_spec0 k l _) ?_)))
      | (refine PCall_use (lives_spec _) ?_; rintro _ _ ⟨rfl, hq⟩; obtain rfl := hq.symm; clear hq)
      | (refine Exists.intro _ (And.intro (fun _ => lives_spec _) ?_))
      | (refine Exists.intro _ (And.intro (lives_spec _) ?_))
      | (refine Exists.intro _ (Exists.intro _ (And.intro (lives_spec _) ?_)))
end Go.Proofs.Ytlbhhoojbokblaa
