/- The law HeapPops, as a contract of the abstract layer. Conditions: none. -/
import Derived.Test.YtoekaigdacaghaaHj
set_option linter.unusedVariables false
set_option linter.unusedSimpArgs false
namespace Go.Proofs.Ytoekaigdacaghaa
open Go.Kern
set_option maxRecDepth 100000
set_option maxHeartbeats 4000000
attribute [local go_sem] drun_nil drun_cons prun_nil prun_cons dstOk ev ofConst leafOf Env.putO Env.get envOf readRs_nil oneRes nilSide SK.isNil isMu fillA partsFit boundA SK.cut SK.cutFull SK.fresh rowOk rowsOk_nil rowsOk_cons rowsOk_append rowsOk_ints splice oneOf keyKind zeroFits TK.agg AV.cells AV.known AV.one List.set_cons_zero List.set_cons_succ put_same put_put forall_const implies_true exists_eq_left exists_eq_left' exists_eq_right exists_eq Store.Sub.refl and_self Int.toNat_natCast length_ints List.length_map true_and and_true decide_true decide_false if_true if_false Bool.false_eq_true Bool.true_eq_false List.getElem?_cons_zero List.getElem?_cons_succ List.length_cons List.length_nil List.drop_zero List.drop_succ_cons List.take_succ_cons List.take_zero List.drop_nil List.take_nil List.append_nil List.map_cons List.map_nil List.cons_append List.nil_append beq_self_eq_true Bool.false_beq Bool.true_beq Bool.not_true Bool.not_false Option.map_some Option.map_none Option.bind_some ne_eq not_false_eq_true List.contains_cons List.contains_nil Bool.or_false Bool.or_true Bool.and_true Bool.and_false Bool.true_and Bool.false_and List.all_cons List.all_nil Nat.one_ne_zero Nat.zero_ne_one Option.isSome_some Option.isSome_none List.getElem?_toArray beq_true beq_false decide_eq_true_eq Int.toNat_zero forall_ints take_ints drop_ints Int.le_refl Int.natCast_nonneg Nat.zero_add Nat.add_zero or_true true_or false_or or_false
attribute [local go_sem ↓] allocN guardP OpSem callA readRs_cons readR binA intOpA strOpA nilOpA unA convA boxA allocA behind loadA buildA buildSliceA fieldAddrA fieldA indexAddrA indexA lenA sliceA extractA nilCheckA storeA lookupA mapSetA mapDelA makeSliceA appendA appendN apN
attribute [local irreducible] PCall W

theorem PopSeq.step {c : List Th} {l : List ByteArray} {t : Th} (hs : Srt c) (h : PopSeq idr c l) (ht : t ∈ c) (hl : ∀ u, u ∈ c → ¬ lex idr u t) : ∃ r, l = t.k :: r ∧ PopSeq idr (without c t.k) r := by
  cases h with
  | nil => cases ht
  | cons ht2 hl2 h =>
    have e := least_one hs ht ht2 hl hl2
    subst e
    exact ⟨_, rfl, h⟩

theorem pops_spec (kd : SK) (ops : List Op) (σ : Store) : PCall Try.prog 6 [.sl kd (opL ops)] σ (fun r t => r = .bool true ∧ t = σ) := by
  refine PCall_w [.tmp 2] 134 Try.func6 (by rfl) rfl rfl rfl rfl ?_
  repeat' first
    | refine W_seq ?_
    | refine W_block ?_
    | ((first | refine W_region (mu := []) ?_ | (refine W_region_any [] ⟨[], [], [], [], []⟩ mixedOrders_ok (by kernel_rfl) ?_; intro nu hn1 hn2) | refine fn_ret ?_ | refine fn_normal ?_ | refine Hold_P ?_ | refine prun_go ?_ | refine drun_go ?_); simp -dsimp only [go_sem, Nat.reduceLT, Nat.reduceLeDiff, Nat.reduceEqDiff, Nat.reduceAdd, Nat.reduceMul, Int.reduceNeg, Nat.reduceBEq, reduceCtorEq, ↓reduceIte])
    | (refine W_cond rfl (fun h => ?_) (fun h => ?_) <;> (try (cases h; done)))
    | refine W_ret ?_
    | refine W_skip ?_
    | refine W_exit ?_
    | refine then_normal ?_
    | refine then_ret ?_
    | refine then_exit ?_
    | refine inBlock_normal ?_
    | refine inBlock_ret ?_
    | refine inBlock_exit ?_
    | refine inBlock_ne (by decide) ?_
    | refine Hold_E ?_
    | (refine And.intro ?_ ?_; omega)
    | ((first | (refine ite_goB (fun h => ?_) (fun h => ?_) <;> (try exact absurd ((h : _ = false).symm.trans (by assumption : _ = true)) (by decide)) <;> (try exact absurd ((by assumption : _ = false).symm.trans (h : _ = true)) (by decide))) | (refine ite_go (fun h => ?_) (fun h => ?_) <;> (try exact absurd h (by assumption)) <;> (try exact absurd (by assumption) h))) <;> (try refine Hold_P ?_) <;> (try simp -dsimp only [h, go_sem, Nat.reduceLT, Nat.reduceLeDiff, Nat.reduceEqDiff, Nat.reduceAdd, Nat.reduceMul, Int.reduceNeg, Nat.reduceBEq, reduceCtorEq, ↓reduceIte]))
    | refine Exists.intro _ (Exists.intro _ (And.intro (And.intro rfl rfl) ?_))
  refine PCall_use (new_spec idr _ σ) ?_
  rintro _ s0 ⟨p, m, rfl, H0⟩
  repeat' first
    | ((fail_if_success (first | show W _ _ (Code.seq (Code.region 2 _ _) _) _ _ _ | show W _ _ (Code.seq (Code.seq (Code.region 2 _ _) _) _) _ _ _)); refine W_seq ?_)
    | refine W_block ?_
    | ((first | refine W_region (mu := []) ?_ | (refine W_region_any [] ⟨[], [], [], [], []⟩ mixedOrders_ok (by kernel_rfl) ?_; intro nu hn1 hn2) | refine fn_ret ?_ | refine fn_normal ?_ | refine Hold_P ?_ | refine prun_go ?_ | refine drun_go ?_); simp -dsimp only [go_sem, Nat.reduceLT, Nat.reduceLeDiff, Nat.reduceEqDiff, Nat.reduceAdd, Nat.reduceMul, Int.reduceNeg, Nat.reduceBEq, reduceCtorEq, ↓reduceIte])
    | (refine W_cond rfl (fun h => ?_) (fun h => ?_) <;> (try (cases h; done)))
    | refine W_ret ?_
    | refine W_skip ?_
    | refine W_exit ?_
    | refine then_normal ?_
    | refine then_ret ?_
    | refine then_exit ?_
    | refine inBlock_normal ?_
    | refine inBlock_ret ?_
    | refine inBlock_exit ?_
    | refine inBlock_ne (by decide) ?_
    | refine Hold_E ?_
    | (refine And.intro ?_ ?_; omega)
    | ((first | (refine ite_goB (fun h => ?_) (fun h => ?_) <;> (try exact absurd ((h : _ = false).symm.trans (by assumption : _ = true)) (by decide)) <;> (try exact absurd ((by assumption : _ = false).symm.trans (h : _ = true)) (by decide))) | (refine ite_go (fun h => ?_) (fun h => ?_) <;> (try exact absurd h (by assumption)) <;> (try exact absurd (by assumption) h))) <;> (try refine Hold_P ?_) <;> (try simp -dsimp only [h, go_sem, Nat.reduceLT, Nat.reduceLeDiff, Nat.reduceEqDiff, Nat.reduceAdd, Nat.reduceMul, Int.reduceNeg, Nat.reduceBEq, reduceCtorEq, ↓reduceIte]))
    | refine Exists.intro _ (Exists.intro _ (And.intro (And.intro rfl rfl) ?_))
  refine W_midE (fun a : Option (Nat × Nat × List Th) × List Th × EM × Int × Store => [(3, .ptr p 0 0)]) (fun a => a.2.2.2.2) (fun a => HS σ idr (.fn 23 []) p m a.1 a.2.1 a.2.2.1 a.2.2.2.1 a.2.2.2.2 ∧ a.2.1.length ≤ 60) ?_ ?_
  · skip
    repeat' first
      | refine W_seq ?_
      | refine W_block ?_
      | ((first | refine W_region (mu := []) ?_ | (refine W_region_any [] ⟨[], [], [], [], []⟩ mixedOrders_ok (by kernel_rfl) ?_; intro nu hn1 hn2) | refine fn_ret ?_ | refine fn_normal ?_ | refine Hold_P ?_ | refine prun_go ?_ | refine drun_go ?_); simp -dsimp only [go_sem, Nat.reduceLT, Nat.reduceLeDiff, Nat.reduceEqDiff, Nat.reduceAdd, Nat.reduceMul, Int.reduceNeg, Nat.reduceBEq, reduceCtorEq, ↓reduceIte])
      | (refine W_cond rfl (fun h => ?_) (fun h => ?_) <;> (try (cases h; done)))
      | refine W_ret ?_
      | refine W_skip ?_
      | refine W_exit ?_
      | refine then_normal ?_
      | refine then_ret ?_
      | refine then_exit ?_
      | refine inBlock_normal ?_
      | refine inBlock_ret ?_
      | refine inBlock_exit ?_
      | refine inBlock_ne (by decide) ?_
      | refine Hold_E ?_
      | (refine And.intro ?_ ?_; omega)
      | ((first | (refine ite_goB (fun h => ?_) (fun h => ?_) <;> (try exact absurd ((h : _ = false).symm.trans (by assumption : _ = true)) (by decide)) <;> (try exact absurd ((by assumption : _ = false).symm.trans (h : _ = true)) (by decide))) | (refine ite_go (fun h => ?_) (fun h => ?_) <;> (try exact absurd h (by assumption)) <;> (try exact absurd (by assumption) h))) <;> (try refine Hold_P ?_) <;> (try simp -dsimp only [h, go_sem, Nat.reduceLT, Nat.reduceLeDiff, Nat.reduceEqDiff, Nat.reduceAdd, Nat.reduceMul, Int.reduceNeg, Nat.reduceBEq, reduceCtorEq, ↓reduceIte]))
      | refine Exists.intro _ (Exists.intro _ (And.intro (And.intro rfl rfl) ?_))
    refine W_loop_st (fun a : Nat × Option (Nat × Nat × List Th) × List Th × EM × Int × Store => [(0, .sl kd (opL ops)), (3, .ptr p 0 0), (4, .int .i64 a.1)]) (fun a => a.2.2.2.2.2)
      (fun a => a.1 ≤ ops.length ∧ a.1 ≤ 60 ∧ HS σ idr (.fn 23 []) p m a.2.1 a.2.2.1 a.2.2.2.1 a.2.2.2.2.1 a.2.2.2.2.2 ∧ a.2.2.2.2.1 ≤ a.1 ∧ a.2.2.1.length ≤ a.1) (fun a => ops.length - a.1) (0, none, [], [], 0, s0) ⟨Nat.zero_le _, by omega, H0, by simp, by simp⟩ (Env.Sub_of_has (by simp [Env.Has, Env.get])) (Store.Sub.refl _) ?_
    rintro ⟨i, v, c, em, w, T⟩ ⟨hi, hi60, H, hw, hcl⟩
    simp only at hi hi60 H hw hcl
    have nxt : ∀ (v : Option (Nat × Nat × List Th)) (c : List Th) (em : EM) (w : Int) (T' : Store) (ρ' : Env), i < ops.length → i < 60 → HS σ idr (.fn 23 []) p m v c em w T' → w ≤ i + 1 → c.length ≤ i + 1 → Env.Sub [(0, .sl kd (opL ops)), (3, .ptr p 0 0), (4, .int .i64 ((i + 1 : Nat) : Int))] ρ' →
        ∃ a' : Nat × Option (Nat × Nat × List Th) × List Th × EM × Int × Store, ops.length - a'.1 < ops.length - i ∧ (a'.1 ≤ ops.length ∧ a'.1 ≤ 60 ∧ HS σ idr (.fn 23 []) p m a'.2.1 a'.2.2.1 a'.2.2.2.1 a'.2.2.2.2.1 a'.2.2.2.2.2 ∧ a'.2.2.2.2.1 ≤ a'.1 ∧ a'.2.2.1.length ≤ a'.1) ∧
          Env.Sub [(0, .sl kd (opL ops)), (3, .ptr p 0 0), (4, .int .i64 a'.1)] ρ' ∧ a'.2.2.2.2.2.Sub T' :=
      fun v c em w T' ρ' h1 h2 h3 h4 h5 h6 => ⟨(i + 1, v, c, em, w, T'), by simp only; omega, ⟨by simp only; omega, by simp only; omega, h3, by simp only; omega, by simp only; omega⟩, h6, Store.Sub.refl _⟩
    by_cases hlt : i < ops.length
    · have c0 : decide ((i : Int) < (ops.length : Int)) = true := decT (by omega)
      have q1 : ((i : Int) < (ops.length : Int)) = True := eq_true (by omega)
      have hx := getD_ops hlt
      have hsc := wrap_succ (show i < 4611686018427387904 by omega)
      by_cases h60 : i < 60
      · have c1 : decide ((i : Int) < 60) = true := decT (by omega)
        by_cases hli : (ops.getD i noOp).k.size ≤ 200
        · have c2 := decT hli
          by_cases hk1 : (ops.getD i noOp).kind = 1
          · have c3 := decT hk1
            repeat' first
              | refine W_seq ?_
              | refine W_block ?_
              | ((first | refine W_region (mu := []) ?_ | (refine W_region_any (id := 9) [] ⟨[], [11], [], [], [11]⟩ mixedOrders_ok (by kernel_rfl) ?_; intro nu hn1 hn2) | (refine W_region_any [] ⟨[], [], [], [], []⟩ mixedOrders_ok (by kernel_rfl) ?_; intro nu hn1 hn2) | refine fn_ret ?_ | refine fn_normal ?_ | refine Hold_P ?_ | refine prun_go ?_ | refine drun_go ?_); simp -dsimp only [go_sem, Nat.reduceLT, Nat.reduceLeDiff, Nat.reduceEqDiff, Nat.reduceAdd, Nat.reduceMul, Int.reduceNeg, Nat.reduceBEq, reduceCtorEq, ↓reduceIte, length_ops, c0, c1, c2, c3, q1, hx])
              | (refine W_cond rfl (fun h => ?_) (fun h => ?_) <;> (try (cases h; done)))
              | refine W_ret ?_
              | refine W_skip ?_
              | refine W_exit ?_
              | refine then_normal ?_
              | refine then_ret ?_
              | refine then_exit ?_
              | refine inBlock_normal ?_
              | refine inBlock_ret ?_
              | refine inBlock_exit ?_
              | refine inBlock_ne (by decide) ?_
              | refine Hold_E ?_
              | (refine And.intro ?_ ?_; omega)
              | ((first | (refine ite_goB (fun h => ?_) (fun h => ?_) <;> (try exact absurd ((h : _ = false).symm.trans (by assumption : _ = true)) (by decide)) <;> (try exact absurd ((by assumption : _ = false).symm.trans (h : _ = true)) (by decide))) | (refine ite_go (fun h => ?_) (fun h => ?_) <;> (try exact absurd h (by assumption)) <;> (try exact absurd (by assumption) h))) <;> (try refine Hold_P ?_) <;> (try simp -dsimp only [h, go_sem, Nat.reduceLT, Nat.reduceLeDiff, Nat.reduceEqDiff, Nat.reduceAdd, Nat.reduceMul, Int.reduceNeg, Nat.reduceBEq, reduceCtorEq, ↓reduceIte, length_ops, c0, c1, c2, c3, q1, hx]))
              | refine Exists.intro _ (Exists.intro _ (And.intro (And.intro rfl rfl) ?_))
              | (refine PCall_use (light_spec _ _ _ _) ?_; rintro _ _ ⟨rfl, hq⟩; obtain rfl := hq.symm; clear hq)
              | (refine Exists.intro _ (And.intro (fun _ => light_spec _ _ _ _) ?_))
              | (refine Exists.intro _ (And.intro (light_spec _ _ _ _) ?_))
              | (refine Exists.intro _ (Exists.intro _ (And.intro (light_spec _ _ _ _) ?_)))
            refine PCall_use (drop_spec byRank_I less_spec H (ops.getD i noOp).k) ?_
            rintro _ T' ⟨v', em', rfl, H'⟩
            repeat' first
              | refine W_seq ?_
              | refine W_block ?_
              | ((first | refine W_region (mu := []) ?_ | (refine W_region_any [] ⟨[], [], [], [], []⟩ mixedOrders_ok (by kernel_rfl) ?_; intro nu hn1 hn2) | refine fn_ret ?_ | refine fn_normal ?_ | refine Hold_P ?_ | refine prun_go ?_ | refine drun_go ?_); simp -dsimp only [go_sem, Nat.reduceLT, Nat.reduceLeDiff, Nat.reduceEqDiff, Nat.reduceAdd, Nat.reduceMul, Int.reduceNeg, Nat.reduceBEq, reduceCtorEq, ↓reduceIte])
              | (refine W_cond rfl (fun h => ?_) (fun h => ?_) <;> (try (cases h; done)))
              | refine W_ret ?_
              | refine W_skip ?_
              | refine W_exit ?_
              | refine then_normal ?_
              | refine then_ret ?_
              | refine then_exit ?_
              | refine inBlock_normal ?_
              | refine inBlock_ret ?_
              | refine inBlock_exit ?_
              | refine inBlock_ne (by decide) ?_
              | refine Hold_E ?_
              | (refine And.intro ?_ ?_; omega)
              | ((first | (refine ite_goB (fun h => ?_) (fun h => ?_) <;> (try exact absurd ((h : _ = false).symm.trans (by assumption : _ = true)) (by decide)) <;> (try exact absurd ((by assumption : _ = false).symm.trans (h : _ = true)) (by decide))) | (refine ite_go (fun h => ?_) (fun h => ?_) <;> (try exact absurd h (by assumption)) <;> (try exact absurd (by assumption) h))) <;> (try refine Hold_P ?_) <;> (try simp -dsimp only [h, go_sem, Nat.reduceLT, Nat.reduceLeDiff, Nat.reduceEqDiff, Nat.reduceAdd, Nat.reduceMul, Int.reduceNeg, Nat.reduceBEq, reduceCtorEq, ↓reduceIte]))
              | refine Exists.intro _ (Exists.intro _ (And.intro (And.intro rfl rfl) ?_))
            exact nxt v' _ em' w T' _ hlt h60 H' (by omega) (Nat.le_trans (List.length_filter_le _ _) (by omega)) (Env.Sub_of_has (by simp [Env.Has, Env.get, hsc]))
          · have c3 := decF hk1
            repeat' first
              | refine W_seq ?_
              | refine W_block ?_
              | ((first | refine W_region (mu := []) ?_ | (refine W_region_any (id := 9) [] ⟨[], [11], [], [], [11]⟩ mixedOrders_ok (by kernel_rfl) ?_; intro nu hn1 hn2) | (refine W_region_any [] ⟨[], [], [], [], []⟩ mixedOrders_ok (by kernel_rfl) ?_; intro nu hn1 hn2) | refine fn_ret ?_ | refine fn_normal ?_ | refine Hold_P ?_ | refine prun_go ?_ | refine drun_go ?_); simp -dsimp only [go_sem, Nat.reduceLT, Nat.reduceLeDiff, Nat.reduceEqDiff, Nat.reduceAdd, Nat.reduceMul, Int.reduceNeg, Nat.reduceBEq, reduceCtorEq, ↓reduceIte, length_ops, c0, c1, c2, c3, q1, hx])
              | (refine W_cond rfl (fun h => ?_) (fun h => ?_) <;> (try (cases h; done)))
              | refine W_ret ?_
              | refine W_skip ?_
              | refine W_exit ?_
              | refine then_normal ?_
              | refine then_ret ?_
              | refine then_exit ?_
              | refine inBlock_normal ?_
              | refine inBlock_ret ?_
              | refine inBlock_exit ?_
              | refine inBlock_ne (by decide) ?_
              | refine Hold_E ?_
              | (refine And.intro ?_ ?_; omega)
              | ((first | (refine ite_goB (fun h => ?_) (fun h => ?_) <;> (try exact absurd ((h : _ = false).symm.trans (by assumption : _ = true)) (by decide)) <;> (try exact absurd ((by assumption : _ = false).symm.trans (h : _ = true)) (by decide))) | (refine ite_go (fun h => ?_) (fun h => ?_) <;> (try exact absurd h (by assumption)) <;> (try exact absurd (by assumption) h))) <;> (try refine Hold_P ?_) <;> (try simp -dsimp only [h, go_sem, Nat.reduceLT, Nat.reduceLeDiff, Nat.reduceEqDiff, Nat.reduceAdd, Nat.reduceMul, Int.reduceNeg, Nat.reduceBEq, reduceCtorEq, ↓reduceIte, length_ops, c0, c1, c2, c3, q1, hx]))
              | refine Exists.intro _ (Exists.intro _ (And.intro (And.intro rfl rfl) ?_))
              | (refine PCall_use (light_spec _ _ _ _) ?_; rintro _ _ ⟨rfl, hq⟩; obtain rfl := hq.symm; clear hq)
              | (refine Exists.intro _ (And.intro (fun _ => light_spec _ _ _ _) ?_))
              | (refine Exists.intro _ (And.intro (light_spec _ _ _ _) ?_))
              | (refine Exists.intro _ (Exists.intro _ (And.intro (light_spec _ _ _ _) ?_)))
            refine PCall_use (set_spec byRank_I less_spec H (by omega) (by omega) (ops.getD i noOp).k (ops.getD i noOp).r) ?_
            rintro _ T' ⟨v', em', rfl, H'⟩
            repeat' first
              | refine W_seq ?_
              | refine W_block ?_
              | ((first | refine W_region (mu := []) ?_ | (refine W_region_any [] ⟨[], [], [], [], []⟩ mixedOrders_ok (by kernel_rfl) ?_; intro nu hn1 hn2) | refine fn_ret ?_ | refine fn_normal ?_ | refine Hold_P ?_ | refine prun_go ?_ | refine drun_go ?_); simp -dsimp only [go_sem, Nat.reduceLT, Nat.reduceLeDiff, Nat.reduceEqDiff, Nat.reduceAdd, Nat.reduceMul, Int.reduceNeg, Nat.reduceBEq, reduceCtorEq, ↓reduceIte])
              | (refine W_cond rfl (fun h => ?_) (fun h => ?_) <;> (try (cases h; done)))
              | refine W_ret ?_
              | refine W_skip ?_
              | refine W_exit ?_
              | refine then_normal ?_
              | refine then_ret ?_
              | refine then_exit ?_
              | refine inBlock_normal ?_
              | refine inBlock_ret ?_
              | refine inBlock_exit ?_
              | refine inBlock_ne (by decide) ?_
              | refine Hold_E ?_
              | (refine And.intro ?_ ?_; omega)
              | ((first | (refine ite_goB (fun h => ?_) (fun h => ?_) <;> (try exact absurd ((h : _ = false).symm.trans (by assumption : _ = true)) (by decide)) <;> (try exact absurd ((by assumption : _ = false).symm.trans (h : _ = true)) (by decide))) | (refine ite_go (fun h => ?_) (fun h => ?_) <;> (try exact absurd h (by assumption)) <;> (try exact absurd (by assumption) h))) <;> (try refine Hold_P ?_) <;> (try simp -dsimp only [h, go_sem, Nat.reduceLT, Nat.reduceLeDiff, Nat.reduceEqDiff, Nat.reduceAdd, Nat.reduceMul, Int.reduceNeg, Nat.reduceBEq, reduceCtorEq, ↓reduceIte]))
              | refine Exists.intro _ (Exists.intro _ (And.intro (And.intro rfl rfl) ?_))
            exact nxt v' _ em' (w + 1) T' _ hlt h60 H' (by omega) (by rw [List.length_append]; exact Nat.add_le_add (Nat.le_trans (List.length_filter_le _ _) hcl) (Nat.le_refl _)) (Env.Sub_of_has (by simp [Env.Has, Env.get, hsc]))
        · have c2 := decF hli
          repeat' first
            | refine W_seq ?_
            | refine W_block ?_
            | ((first | refine W_region (mu := []) ?_ | (refine W_region_any [] ⟨[], [], [], [], []⟩ mixedOrders_ok (by kernel_rfl) ?_; intro nu hn1 hn2) | refine fn_ret ?_ | refine fn_normal ?_ | refine Hold_P ?_ | refine prun_go ?_ | refine drun_go ?_); simp -dsimp only [go_sem, Nat.reduceLT, Nat.reduceLeDiff, Nat.reduceEqDiff, Nat.reduceAdd, Nat.reduceMul, Int.reduceNeg, Nat.reduceBEq, reduceCtorEq, ↓reduceIte, length_ops, c0, c1, c2, q1, hx])
            | (refine W_cond rfl (fun h => ?_) (fun h => ?_) <;> (try (cases h; done)))
            | refine W_ret ?_
            | refine W_skip ?_
            | refine W_exit ?_
            | refine then_normal ?_
            | refine then_ret ?_
            | refine then_exit ?_
            | refine inBlock_normal ?_
            | refine inBlock_ret ?_
            | refine inBlock_exit ?_
            | refine inBlock_ne (by decide) ?_
            | refine Hold_E ?_
            | (refine And.intro ?_ ?_; omega)
            | ((first | (refine ite_goB (fun h => ?_) (fun h => ?_) <;> (try exact absurd ((h : _ = false).symm.trans (by assumption : _ = true)) (by decide)) <;> (try exact absurd ((by assumption : _ = false).symm.trans (h : _ = true)) (by decide))) | (refine ite_go (fun h => ?_) (fun h => ?_) <;> (try exact absurd h (by assumption)) <;> (try exact absurd (by assumption) h))) <;> (try refine Hold_P ?_) <;> (try simp -dsimp only [h, go_sem, Nat.reduceLT, Nat.reduceLeDiff, Nat.reduceEqDiff, Nat.reduceAdd, Nat.reduceMul, Int.reduceNeg, Nat.reduceBEq, reduceCtorEq, ↓reduceIte, length_ops, c0, c1, c2, q1, hx]))
            | refine Exists.intro _ (Exists.intro _ (And.intro (And.intro rfl rfl) ?_))
            | (refine PCall_use (light_spec _ _ _ _) ?_; rintro _ _ ⟨rfl, hq⟩; obtain rfl := hq.symm; clear hq)
            | (refine Exists.intro _ (And.intro (fun _ => light_spec _ _ _ _) ?_))
            | (refine Exists.intro _ (And.intro (light_spec _ _ _ _) ?_))
            | (refine Exists.intro _ (Exists.intro _ (And.intro (light_spec _ _ _ _) ?_)))
            | (refine PCall_use (lives_spec _) ?_; rintro _ _ ⟨rfl, hq⟩; obtain rfl := hq.symm; clear hq)
            | (refine Exists.intro _ (And.intro (fun _ => lives_spec _) ?_))
            | (refine Exists.intro _ (And.intro (lives_spec _) ?_))
            | (refine Exists.intro _ (Exists.intro _ (And.intro (lives_spec _) ?_)))
          exact H.sub
      · have c1 : decide ((i : Int) < 60) = false := decF (by omega)
        repeat' first
          | refine W_seq ?_
          | refine W_block ?_
          | ((first | refine W_region (mu := []) ?_ | (refine W_region_any [] ⟨[], [], [], [], []⟩ mixedOrders_ok (by kernel_rfl) ?_; intro nu hn1 hn2) | refine fn_ret ?_ | refine fn_normal ?_ | refine Hold_P ?_ | refine prun_go ?_ | refine drun_go ?_); simp -dsimp only [go_sem, Nat.reduceLT, Nat.reduceLeDiff, Nat.reduceEqDiff, Nat.reduceAdd, Nat.reduceMul, Int.reduceNeg, Nat.reduceBEq, reduceCtorEq, ↓reduceIte, length_ops, c0, c1])
          | (refine W_cond rfl (fun h => ?_) (fun h => ?_) <;> (try (cases h; done)))
          | refine W_ret ?_
          | refine W_skip ?_
          | refine W_exit ?_
          | refine then_normal ?_
          | refine then_ret ?_
          | refine then_exit ?_
          | refine inBlock_normal ?_
          | refine inBlock_ret ?_
          | refine inBlock_exit ?_
          | refine inBlock_ne (by decide) ?_
          | refine Hold_E ?_
          | (refine And.intro ?_ ?_; omega)
          | ((first | (refine ite_goB (fun h => ?_) (fun h => ?_) <;> (try exact absurd ((h : _ = false).symm.trans (by assumption : _ = true)) (by decide)) <;> (try exact absurd ((by assumption : _ = false).symm.trans (h : _ = true)) (by decide))) | (refine ite_go (fun h => ?_) (fun h => ?_) <;> (try exact absurd h (by assumption)) <;> (try exact absurd (by assumption) h))) <;> (try refine Hold_P ?_) <;> (try simp -dsimp only [h, go_sem, Nat.reduceLT, Nat.reduceLeDiff, Nat.reduceEqDiff, Nat.reduceAdd, Nat.reduceMul, Int.reduceNeg, Nat.reduceBEq, reduceCtorEq, ↓reduceIte, length_ops, c0, c1]))
          | refine Exists.intro _ (Exists.intro _ (And.intro (And.intro rfl rfl) ?_))
        exact ⟨(v, c, em, w, T), ⟨H, by simp only; omega⟩, Env.Sub_of_has (by simp [Env.Has, Env.get]), Store.Sub.refl _⟩
    · have c0 : decide ((i : Int) < (ops.length : Int)) = false := decF (by omega)
      repeat' first
        | refine W_seq ?_
        | refine W_block ?_
        | ((first | refine W_region (mu := []) ?_ | (refine W_region_any [] ⟨[], [], [], [], []⟩ mixedOrders_ok (by kernel_rfl) ?_; intro nu hn1 hn2) | refine fn_ret ?_ | refine fn_normal ?_ | refine Hold_P ?_ | refine prun_go ?_ | refine drun_go ?_); simp -dsimp only [go_sem, Nat.reduceLT, Nat.reduceLeDiff, Nat.reduceEqDiff, Nat.reduceAdd, Nat.reduceMul, Int.reduceNeg, Nat.reduceBEq, reduceCtorEq, ↓reduceIte, length_ops, c0])
        | (refine W_cond rfl (fun h => ?_) (fun h => ?_) <;> (try (cases h; done)))
        | refine W_ret ?_
        | refine W_skip ?_
        | refine W_exit ?_
        | refine then_normal ?_
        | refine then_ret ?_
        | refine then_exit ?_
        | refine inBlock_normal ?_
        | refine inBlock_ret ?_
        | refine inBlock_exit ?_
        | refine inBlock_ne (by decide) ?_
        | refine Hold_E ?_
        | (refine And.intro ?_ ?_; omega)
        | ((first | (refine ite_goB (fun h => ?_) (fun h => ?_) <;> (try exact absurd ((h : _ = false).symm.trans (by assumption : _ = true)) (by decide)) <;> (try exact absurd ((by assumption : _ = false).symm.trans (h : _ = true)) (by decide))) | (refine ite_go (fun h => ?_) (fun h => ?_) <;> (try exact absurd h (by assumption)) <;> (try exact absurd (by assumption) h))) <;> (try refine Hold_P ?_) <;> (try simp -dsimp only [h, go_sem, Nat.reduceLT, Nat.reduceLeDiff, Nat.reduceEqDiff, Nat.reduceAdd, Nat.reduceMul, Int.reduceNeg, Nat.reduceBEq, reduceCtorEq, ↓reduceIte, length_ops, c0]))
        | refine Exists.intro _ (Exists.intro _ (And.intro (And.intro rfl rfl) ?_))
      exact ⟨(v, c, em, w, T), ⟨H, by simp only; omega⟩, Env.Sub_of_has (by simp [Env.Has, Env.get]), Store.Sub.refl _⟩
  · rintro ⟨v, c, em, w, T⟩ ⟨H, hcl⟩
    simp only at H hcl
    show W _ _ _ _ [(3, .ptr p 0 0)] T
    repeat' first
      | refine W_seq ?_
      | refine W_block ?_
      | ((first | refine W_region (mu := []) ?_ | (refine W_region_any [] ⟨[], [], [], [], []⟩ mixedOrders_ok (by kernel_rfl) ?_; intro nu hn1 hn2) | refine fn_ret ?_ | refine fn_normal ?_ | refine Hold_P ?_ | refine prun_go ?_ | refine drun_go ?_); simp -dsimp only [go_sem, Nat.reduceLT, Nat.reduceLeDiff, Nat.reduceEqDiff, Nat.reduceAdd, Nat.reduceMul, Int.reduceNeg, Nat.reduceBEq, reduceCtorEq, ↓reduceIte])
      | (refine W_cond rfl (fun h => ?_) (fun h => ?_) <;> (try (cases h; done)))
      | refine W_ret ?_
      | refine W_skip ?_
      | refine W_exit ?_
      | refine then_normal ?_
      | refine then_ret ?_
      | refine then_exit ?_
      | refine inBlock_normal ?_
      | refine inBlock_ret ?_
      | refine inBlock_exit ?_
      | refine inBlock_ne (by decide) ?_
      | refine Hold_E ?_
      | (refine And.intro ?_ ?_; omega)
      | ((first | (refine ite_goB (fun h => ?_) (fun h => ?_) <;> (try exact absurd ((h : _ = false).symm.trans (by assumption : _ = true)) (by decide)) <;> (try exact absurd ((by assumption : _ = false).symm.trans (h : _ = true)) (by decide))) | (refine ite_go (fun h => ?_) (fun h => ?_) <;> (try exact absurd h (by assumption)) <;> (try exact absurd (by assumption) h))) <;> (try refine Hold_P ?_) <;> (try simp -dsimp only [h, go_sem, Nat.reduceLT, Nat.reduceLeDiff, Nat.reduceEqDiff, Nat.reduceAdd, Nat.reduceMul, Int.reduceNeg, Nat.reduceBEq, reduceCtorEq, ↓reduceIte]))
      | refine Exists.intro _ (Exists.intro _ (And.intro (And.intro rfl rfl) ?_))
    refine PCall_use (all_spec byRank_I less_spec H) ?_
    rintro _ T2 ⟨⟨k2, l, hseq, rfl, _⟩, hq⟩
    obtain rfl := hq.symm
    clear hq
    have hll := hseq.len H.srt
    repeat' first
      | refine W_seq ?_
      | refine W_block ?_
      | ((first | refine W_region (mu := []) ?_ | (refine W_region_any [] ⟨[], [], [], [], []⟩ mixedOrders_ok (by kernel_rfl) ?_; intro nu hn1 hn2) | refine fn_ret ?_ | refine fn_normal ?_ | refine Hold_P ?_ | refine prun_go ?_ | refine drun_go ?_); simp -dsimp only [go_sem, Nat.reduceLT, Nat.reduceLeDiff, Nat.reduceEqDiff, Nat.reduceAdd, Nat.reduceMul, Int.reduceNeg, Nat.reduceBEq, reduceCtorEq, ↓reduceIte])
      | (refine W_cond rfl (fun h => ?_) (fun h => ?_) <;> (try (cases h; done)))
      | refine W_ret ?_
      | refine W_skip ?_
      | refine W_exit ?_
      | refine then_normal ?_
      | refine then_ret ?_
      | refine then_exit ?_
      | refine inBlock_normal ?_
      | refine inBlock_ret ?_
      | refine inBlock_exit ?_
      | refine inBlock_ne (by decide) ?_
      | refine Hold_E ?_
      | (refine And.intro ?_ ?_; omega)
      | ((first | (refine ite_goB (fun h => ?_) (fun h => ?_) <;> (try exact absurd ((h : _ = false).symm.trans (by assumption : _ = true)) (by decide)) <;> (try exact absurd ((by assumption : _ = false).symm.trans (h : _ = true)) (by decide))) | (refine ite_go (fun h => ?_) (fun h => ?_) <;> (try exact absurd h (by assumption)) <;> (try exact absurd (by assumption) h))) <;> (try refine Hold_P ?_) <;> (try simp -dsimp only [h, go_sem, Nat.reduceLT, Nat.reduceLeDiff, Nat.reduceEqDiff, Nat.reduceAdd, Nat.reduceMul, Int.reduceNeg, Nat.reduceBEq, reduceCtorEq, ↓reduceIte]))
      | refine Exists.intro _ (Exists.intro _ (And.intro (And.intro rfl rfl) ?_))
      | (refine PCall_use (len_spec H) ?_; rintro _ _ ⟨rfl, hq⟩; obtain rfl := hq.symm; clear hq)
      | (refine Exists.intro _ (And.intro (fun _ => len_spec H) ?_))
      | (refine Exists.intro _ (And.intro (len_spec H) ?_))
      | (refine Exists.intro _ (Exists.intro _ (And.intro (len_spec H) ?_)))
    refine W_loop_st (fun a : Nat × Int × Option (Nat × Nat × List Th) × List Th × EM × Store => [(3, .ptr p 0 0), (5, .sl k2 (strs l)), (6, .int .i64 c.length), (7, .int .i64 a.2.1), (8, .int .i64 a.1)]) (fun a => a.2.2.2.2.2)
      (fun a => HS σ idr (.fn 23 []) p m a.2.2.1 a.2.2.2.1 a.2.2.2.2.1 w a.2.2.2.2.2 ∧ a.1 + a.2.2.2.1.length = c.length ∧ PopSeq idr a.2.2.2.1 (l.drop a.1) ∧ (0 < a.1 → ∀ u, u ∈ a.2.2.2.1 → a.2.1 ≤ u.r)) (fun a => a.2.2.2.1.length) (0, 0, v, c, em, T) ⟨H, by simp, hseq, fun h => by simp at h⟩ (Env.Sub_of_has (by simp [Env.Has, Env.get])) (Store.Sub.refl _) ?_
    rintro ⟨i, last, v2, c2, em2, T2⟩ ⟨H2, hn, hs2, hlast⟩
    simp only at H2 hn hs2 hlast
    by_cases hlt : i < c.length
    · have c0 : decide ((i : Int) < (c.length : Int)) = true := decT (by omega)
      have hc2 : c2 ≠ [] := fun e => by rw [e] at hn; simp at hn; omega
      obtain ⟨t, ht, hl, hP⟩ := pop_some byRank_I less_spec H2 hc2
      obtain ⟨r, hr, hs3⟩ := hs2.step H2.srt ht hl
      have hil : i < l.length := by omega
      have hdr : l.drop (i + 1) = r := by
        rw [List.drop_eq_getElem_cons hil] at hr
        injection hr
      have hk : (strs l).getD i .any = .str t.k := by
        rw [List.drop_eq_getElem_cons hil] at hr
        injection hr with h1 _
        rw [← h1]
        simp [strs, List.getD_eq_getElem?_getD, hil]
      have c1 : decide ((l.length : Int) ≤ (i : Int)) = false := decF (by omega)
      have q1 : ((i : Int) < (l.length : Int)) = True := eq_true (by omega)
      have hwl := without_len H2.srt ⟨t, ht, rfl⟩
      have hw1 : IntKind.i64.wrap ((c.length : Int) - (i : Int)) = ((c.length - i : Nat) : Int) := by rw [wrap64_id (by omega) (by omega)]; omega
      have hw2 : IntKind.i64.wrap (((c.length - i : Nat) : Int) - 1) = ((without c2 t.k).length : Int) := by rw [wrap64_id (by omega) (by omega)]; omega
      have hsc := wrap_succ (show i < 4611686018427387904 by omega)
      repeat' first
        | refine W_seq ?_
        | refine W_block ?_
        | ((first | refine W_region (mu := []) ?_ | (refine W_region_any [] ⟨[], [], [], [], []⟩ mixedOrders_ok (by kernel_rfl) ?_; intro nu hn1 hn2) | refine fn_ret ?_ | refine fn_normal ?_ | refine Hold_P ?_ | refine prun_go ?_ | refine drun_go ?_); simp -dsimp only [go_sem, Nat.reduceLT, Nat.reduceLeDiff, Nat.reduceEqDiff, Nat.reduceAdd, Nat.reduceMul, Int.reduceNeg, Nat.reduceBEq, reduceCtorEq, ↓reduceIte, c0])
        | (refine W_cond rfl (fun h => ?_) (fun h => ?_) <;> (try (cases h; done)))
        | refine W_ret ?_
        | refine W_skip ?_
        | refine W_exit ?_
        | refine then_normal ?_
        | refine then_ret ?_
        | refine then_exit ?_
        | refine inBlock_normal ?_
        | refine inBlock_ret ?_
        | refine inBlock_exit ?_
        | refine inBlock_ne (by decide) ?_
        | refine Hold_E ?_
        | (refine And.intro ?_ ?_; omega)
        | ((first | (refine ite_goB (fun h => ?_) (fun h => ?_) <;> (try exact absurd ((h : _ = false).symm.trans (by assumption : _ = true)) (by decide)) <;> (try exact absurd ((by assumption : _ = false).symm.trans (h : _ = true)) (by decide))) | (refine ite_go (fun h => ?_) (fun h => ?_) <;> (try exact absurd h (by assumption)) <;> (try exact absurd (by assumption) h))) <;> (try refine Hold_P ?_) <;> (try simp -dsimp only [h, go_sem, Nat.reduceLT, Nat.reduceLeDiff, Nat.reduceEqDiff, Nat.reduceAdd, Nat.reduceMul, Int.reduceNeg, Nat.reduceBEq, reduceCtorEq, ↓reduceIte, c0]))
        | refine Exists.intro _ (Exists.intro _ (And.intro (And.intro rfl rfl) ?_))
      refine PCall_use hP ?_
      rintro _ T3 ⟨v3, em3, rfl, H3⟩
      have hrn := rank_none H3 t.k (fun u hu => (mem_without.1 hu).2)
      have fin : ∀ ρ', Env.Sub [(3, .ptr p 0 0), (5, .sl k2 (strs l)), (6, .int .i64 c.length), (7, .int .i64 t.r), (8, .int .i64 ((i + 1 : Nat) : Int))] ρ' → ∃ a' : Nat × Int × Option (Nat × Nat × List Th) × List Th × EM × Store, a'.2.2.2.1.length < c2.length ∧ (HS σ idr (.fn 23 []) p m a'.2.2.1 a'.2.2.2.1 a'.2.2.2.2.1 w a'.2.2.2.2.2 ∧ a'.1 + a'.2.2.2.1.length = c.length ∧ PopSeq idr a'.2.2.2.1 (l.drop a'.1) ∧ (0 < a'.1 → ∀ u, u ∈ a'.2.2.2.1 → a'.2.1 ≤ u.r)) ∧
          Env.Sub [(3, .ptr p 0 0), (5, .sl k2 (strs l)), (6, .int .i64 c.length), (7, .int .i64 a'.2.1), (8, .int .i64 a'.1)] ρ' ∧ a'.2.2.2.2.2.Sub T3 :=
        fun ρ' h => ⟨(i + 1, t.r, v3, without c2 t.k, em3, T3), by simp only; omega, ⟨H3, by simp only; omega, by rw [hdr]; exact hs3, fun _ u hu => by
          have := hl u (mem_without.1 hu).1
          simp only [lex, idr] at this ⊢
          omega⟩, h, Store.Sub.refl _⟩
      by_cases i0 : i = 0
      · have c2' : decide (0 < (i : Int)) = false := decF (by omega)
        repeat' first
          | refine W_seq ?_
          | refine W_block ?_
          | ((first | refine W_region (mu := []) ?_ | (refine W_region_any [] ⟨[], [], [], [], []⟩ mixedOrders_ok (by kernel_rfl) ?_; intro nu hn1 hn2) | refine fn_ret ?_ | refine fn_normal ?_ | refine Hold_P ?_ | refine prun_go ?_ | refine drun_go ?_); simp -dsimp only [go_sem, Nat.reduceLT, Nat.reduceLeDiff, Nat.reduceEqDiff, Nat.reduceAdd, Nat.reduceMul, Int.reduceNeg, Nat.reduceBEq, reduceCtorEq, ↓reduceIte, length_strs, c1, q1, hk, c2', hw1, hw2])
          | (refine W_cond rfl (fun h => ?_) (fun h => ?_) <;> (try (cases h; done)))
          | refine W_ret ?_
          | refine W_skip ?_
          | refine W_exit ?_
          | refine then_normal ?_
          | refine then_ret ?_
          | refine then_exit ?_
          | refine inBlock_normal ?_
          | refine inBlock_ret ?_
          | refine inBlock_exit ?_
          | refine inBlock_ne (by decide) ?_
          | refine Hold_E ?_
          | (refine And.intro ?_ ?_; omega)
          | ((first | (refine ite_goB (fun h => ?_) (fun h => ?_) <;> (try exact absurd ((h : _ = false).symm.trans (by assumption : _ = true)) (by decide)) <;> (try exact absurd ((by assumption : _ = false).symm.trans (h : _ = true)) (by decide))) | (refine ite_go (fun h => ?_) (fun h => ?_) <;> (try exact absurd h (by assumption)) <;> (try exact absurd (by assumption) h))) <;> (try refine Hold_P ?_) <;> (try simp -dsimp only [h, go_sem, Nat.reduceLT, Nat.reduceLeDiff, Nat.reduceEqDiff, Nat.reduceAdd, Nat.reduceMul, Int.reduceNeg, Nat.reduceBEq, reduceCtorEq, ↓reduceIte, length_strs, c1, q1, hk, c2', hw1, hw2]))
          | refine Exists.intro _ (Exists.intro _ (And.intro (And.intro rfl rfl) ?_))
          | (refine PCall_use (len_spec H3) ?_; rintro _ _ ⟨rfl, hq⟩; obtain rfl := hq.symm; clear hq)
          | (refine Exists.intro _ (And.intro (fun _ => len_spec H3) ?_))
          | (refine Exists.intro _ (And.intro (len_spec H3) ?_))
          | (refine Exists.intro _ (Exists.intro _ (And.intro (len_spec H3) ?_)))
          | (refine PCall_use (hrn) ?_; rintro _ _ ⟨rfl, hq⟩; obtain rfl := hq.symm; clear hq)
          | (refine Exists.intro _ (And.intro (fun _ => hrn) ?_))
          | (refine Exists.intro _ (And.intro (hrn) ?_))
          | (refine Exists.intro _ (Exists.intro _ (And.intro (hrn) ?_)))
        exact fin _ (Env.Sub_of_has (by simp [Env.Has, Env.get, hsc]))
      · have c2' : decide (0 < (i : Int)) = true := decT (by omega)
        have c3 : decide (t.r < last) = false := decF (by have := hlast (by omega) t ht; omega)
        repeat' first
          | refine W_seq ?_
          | refine W_block ?_
          | ((first | refine W_region (mu := []) ?_ | (refine W_region_any [] ⟨[], [], [], [], []⟩ mixedOrders_ok (by kernel_rfl) ?_; intro nu hn1 hn2) | refine fn_ret ?_ | refine fn_normal ?_ | refine Hold_P ?_ | refine prun_go ?_ | refine drun_go ?_); simp -dsimp only [go_sem, Nat.reduceLT, Nat.reduceLeDiff, Nat.reduceEqDiff, Nat.reduceAdd, Nat.reduceMul, Int.reduceNeg, Nat.reduceBEq, reduceCtorEq, ↓reduceIte, length_strs, c1, q1, hk, c2', c3, hw1, hw2])
          | (refine W_cond rfl (fun h => ?_) (fun h => ?_) <;> (try (cases h; done)))
          | refine W_ret ?_
          | refine W_skip ?_
          | refine W_exit ?_
          | refine then_normal ?_
          | refine then_ret ?_
          | refine then_exit ?_
          | refine inBlock_normal ?_
          | refine inBlock_ret ?_
          | refine inBlock_exit ?_
          | refine inBlock_ne (by decide) ?_
          | refine Hold_E ?_
          | (refine And.intro ?_ ?_; omega)
          | ((first | (refine ite_goB (fun h => ?_) (fun h => ?_) <;> (try exact absurd ((h : _ = false).symm.trans (by assumption : _ = true)) (by decide)) <;> (try exact absurd ((by assumption : _ = false).symm.trans (h : _ = true)) (by decide))) | (refine ite_go (fun h => ?_) (fun h => ?_) <;> (try exact absurd h (by assumption)) <;> (try exact absurd (by assumption) h))) <;> (try refine Hold_P ?_) <;> (try simp -dsimp only [h, go_sem, Nat.reduceLT, Nat.reduceLeDiff, Nat.reduceEqDiff, Nat.reduceAdd, Nat.reduceMul, Int.reduceNeg, Nat.reduceBEq, reduceCtorEq, ↓reduceIte, length_strs, c1, q1, hk, c2', c3, hw1, hw2]))
          | refine Exists.intro _ (Exists.intro _ (And.intro (And.intro rfl rfl) ?_))
          | (refine PCall_use (len_spec H3) ?_; rintro _ _ ⟨rfl, hq⟩; obtain rfl := hq.symm; clear hq)
          | (refine Exists.intro _ (And.intro (fun _ => len_spec H3) ?_))
          | (refine Exists.intro _ (And.intro (len_spec H3) ?_))
          | (refine Exists.intro _ (Exists.intro _ (And.intro (len_spec H3) ?_)))
          | (refine PCall_use (hrn) ?_; rintro _ _ ⟨rfl, hq⟩; obtain rfl := hq.symm; clear hq)
          | (refine Exists.intro _ (And.intro (fun _ => hrn) ?_))
          | (refine Exists.intro _ (And.intro (hrn) ?_))
          | (refine Exists.intro _ (Exists.intro _ (And.intro (hrn) ?_)))
        exact fin _ (Env.Sub_of_has (by simp [Env.Has, Env.get, hsc]))
    · have c0 : decide ((i : Int) < (c.length : Int)) = false := decF (by omega)
      have hc2 : c2 = [] := List.eq_nil_of_length_eq_zero (by omega)
      subst hc2
      have hll' : ((l.length : Int) = (c.length : Int)) = True := eq_true (by omega)
      repeat' first
        | refine W_seq ?_
        | refine W_block ?_
        | ((first | refine W_region (mu := []) ?_ | (refine W_region_any [] ⟨[], [], [], [], []⟩ mixedOrders_ok (by kernel_rfl) ?_; intro nu hn1 hn2) | refine fn_ret ?_ | refine fn_normal ?_ | refine Hold_P ?_ | refine prun_go ?_ | refine drun_go ?_); simp -dsimp only [go_sem, Nat.reduceLT, Nat.reduceLeDiff, Nat.reduceEqDiff, Nat.reduceAdd, Nat.reduceMul, Int.reduceNeg, Nat.reduceBEq, reduceCtorEq, ↓reduceIte, c0, length_strs, hll'])
        | (refine W_cond rfl (fun h => ?_) (fun h => ?_) <;> (try (cases h; done)))
        | refine W_ret ?_
        | refine W_skip ?_
        | refine W_exit ?_
        | refine then_normal ?_
        | refine then_ret ?_
        | refine then_exit ?_
        | refine inBlock_normal ?_
        | refine inBlock_ret ?_
        | refine inBlock_exit ?_
        | refine inBlock_ne (by decide) ?_
        | refine Hold_E ?_
        | (refine And.intro ?_ ?_; omega)
        | ((first | (refine ite_goB (fun h => ?_) (fun h => ?_) <;> (try exact absurd ((h : _ = false).symm.trans (by assumption : _ = true)) (by decide)) <;> (try exact absurd ((by assumption : _ = false).symm.trans (h : _ = true)) (by decide))) | (refine ite_go (fun h => ?_) (fun h => ?_) <;> (try exact absurd h (by assumption)) <;> (try exact absurd (by assumption) h))) <;> (try refine Hold_P ?_) <;> (try simp -dsimp only [h, go_sem, Nat.reduceLT, Nat.reduceLeDiff, Nat.reduceEqDiff, Nat.reduceAdd, Nat.reduceMul, Int.reduceNeg, Nat.reduceBEq, reduceCtorEq, ↓reduceIte, c0, length_strs, hll']))
        | refine Exists.intro _ (Exists.intro _ (And.intro (And.intro rfl rfl) ?_))
        | (refine PCall_use (pop_nil H2) ?_; rintro _ _ ⟨rfl, hq⟩; obtain rfl := hq.symm; clear hq)
        | (refine Exists.intro _ (And.intro (fun _ => pop_nil H2) ?_))
        | (refine Exists.intro _ (And.intro (pop_nil H2) ?_))
        | (refine Exists.intro _ (Exists.intro _ (And.intro (pop_nil H2) ?_)))
        | (refine PCall_use (lives_spec _) ?_; rintro _ _ ⟨rfl, hq⟩; obtain rfl := hq.symm; clear hq)
        | (refine Exists.intro _ (And.intro (fun _ => lives_spec _) ?_))
        | (refine Exists.intro _ (And.intro (lives_spec _) ?_))
        | (refine Exists.intro _ (Exists.intro _ (And.intro (lives_spec _) ?_)))
      exact H2.sub
end Go.Proofs.Ytoekaigdacaghaa
