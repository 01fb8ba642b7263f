/- The law HeapTurned, as a contract of the abstract layer: its own walk. Conditions: none. -/
import Derived.Test.YtoekaigdacaghaaHw
set_option linter.unusedVariables false
set_option linter.unusedSimpArgs false
namespace Go.Proofs.Ytoekaigdacaghaa
open Go.Kern
set_option maxRecDepth 100000
set_option maxHeartbeats 4000000
attribute [local go_sem] drun_nil drun_cons prun_nil prun_cons dstOk ev ofConst leafOf Env.putO Env.get envOf readRs_nil oneRes nilSide SK.isNil isMu fillA partsFit boundA SK.cut SK.cutFull SK.fresh rowOk rowsOk_nil rowsOk_cons rowsOk_append rowsOk_ints splice oneOf keyKind zeroFits TK.agg AV.cells AV.known AV.one List.set_cons_zero List.set_cons_succ put_same put_put forall_const implies_true exists_eq_left exists_eq_left' exists_eq_right exists_eq Store.Sub.refl and_self Int.toNat_natCast length_ints List.length_map true_and and_true decide_true decide_false if_true if_false Bool.false_eq_true Bool.true_eq_false List.getElem?_cons_zero List.getElem?_cons_succ List.length_cons List.length_nil List.drop_zero List.drop_succ_cons List.take_succ_cons List.take_zero List.drop_nil List.take_nil List.append_nil List.map_cons List.map_nil List.cons_append List.nil_append beq_self_eq_true Bool.false_beq Bool.true_beq Bool.not_true Bool.not_false Option.map_some Option.map_none Option.bind_some ne_eq not_false_eq_true List.contains_cons List.contains_nil Bool.or_false Bool.or_true Bool.and_true Bool.and_false Bool.true_and Bool.false_and List.all_cons List.all_nil Nat.one_ne_zero Nat.zero_ne_one Option.isSome_some Option.isSome_none List.getElem?_toArray beq_true beq_false decide_eq_true_eq Int.toNat_zero forall_ints take_ints drop_ints Int.le_refl Int.natCast_nonneg Nat.zero_add Nat.add_zero or_true true_or false_or or_false
attribute [local go_sem ↓] allocN guardP OpSem callA readRs_cons readR binA intOpA strOpA nilOpA unA convA boxA allocA behind loadA buildA buildSliceA fieldAddrA fieldA indexAddrA indexA lenA sliceA extractA nilCheckA storeA lookupA mapSetA mapDelA makeSliceA appendA appendN apN
attribute [local irreducible] PCall W

theorem turned_spec (kd : SK) (ops : List Op) (σ : Store) : PCall Try.prog 3 [.sl kd (opL ops)] σ (fun r t => r = .bool true ∧ t = σ) := by
  refine PCall_w [.tmp 2] 180 Try.func3 (by rfl) rfl rfl rfl rfl ?_
  repeat' first
    | refine W_seq ?_
    | refine W_block ?_
    | ((first | refine W_region (mu := []) ?_ | (refine W_region_any [] ⟨[], [], [], [], []⟩ mixedOrders_ok (by kernel_rfl) ?_; intro nu hn1 hn2) | refine fn_ret ?_ | refine fn_normal ?_ | refine Hold_P ?_ | refine prun_go ?_ | refine drun_go ?_); simp -dsimp only [go_sem, Nat.reduceLT, Nat.reduceLeDiff, Nat.reduceEqDiff, Nat.reduceAdd, Nat.reduceMul, Int.reduceNeg, Nat.reduceBEq, reduceCtorEq, ↓reduceIte])
    | (refine W_cond rfl (fun h => ?_) (fun h => ?_) <;> (try (cases h; done)))
    | refine W_ret ?_
    | refine W_skip ?_
    | refine W_exit ?_
    | refine then_normal ?_
    | refine then_ret ?_
    | refine then_exit ?_
    | refine inBlock_normal ?_
    | refine inBlock_ret ?_
    | refine inBlock_exit ?_
    | refine inBlock_ne (by decide) ?_
    | refine Hold_E ?_
    | (refine And.intro ?_ ?_; omega)
    | ((first | (refine ite_goB (fun h => ?_) (fun h => ?_) <;> (try exact absurd ((h : _ = false).symm.trans (by assumption : _ = true)) (by decide)) <;> (try exact absurd ((by assumption : _ = false).symm.trans (h : _ = true)) (by decide))) | (refine ite_go (fun h => ?_) (fun h => ?_) <;> (try exact absurd h (by assumption)) <;> (try exact absurd (by assumption) h))) <;> (try refine Hold_P ?_) <;> (try simp -dsimp only [h, go_sem, Nat.reduceLT, Nat.reduceLeDiff, Nat.reduceEqDiff, Nat.reduceAdd, Nat.reduceMul, Int.reduceNeg, Nat.reduceBEq, reduceCtorEq, ↓reduceIte]))
    | refine Exists.intro _ (Exists.intro _ (And.intro (And.intro rfl rfl) ?_))
  refine PCall_use (new_spec negr _ σ) ?_
  rintro _ s0 ⟨p, m, rfl, H0⟩
  repeat' first
    | refine W_seq ?_
    | refine W_block ?_
    | ((first | refine W_region (mu := []) ?_ | (refine W_region_any [] ⟨[], [], [], [], []⟩ mixedOrders_ok (by kernel_rfl) ?_; intro nu hn1 hn2) | refine fn_ret ?_ | refine fn_normal ?_ | refine Hold_P ?_ | refine prun_go ?_ | refine drun_go ?_); simp -dsimp only [go_sem, Nat.reduceLT, Nat.reduceLeDiff, Nat.reduceEqDiff, Nat.reduceAdd, Nat.reduceMul, Int.reduceNeg, Nat.reduceBEq, reduceCtorEq, ↓reduceIte])
    | (refine W_cond rfl (fun h => ?_) (fun h => ?_) <;> (try (cases h; done)))
    | refine W_ret ?_
    | refine W_skip ?_
    | refine W_exit ?_
    | refine then_normal ?_
    | refine then_ret ?_
    | refine then_exit ?_
    | refine inBlock_normal ?_
    | refine inBlock_ret ?_
    | refine inBlock_exit ?_
    | refine inBlock_ne (by decide) ?_
    | refine Hold_E ?_
    | (refine And.intro ?_ ?_; omega)
    | ((first | (refine ite_goB (fun h => ?_) (fun h => ?_) <;> (try exact absurd ((h : _ = false).symm.trans (by assumption : _ = true)) (by decide)) <;> (try exact absurd ((by assumption : _ = false).symm.trans (h : _ = true)) (by decide))) | (refine ite_go (fun h => ?_) (fun h => ?_) <;> (try exact absurd h (by assumption)) <;> (try exact absurd (by assumption) h))) <;> (try refine Hold_P ?_) <;> (try simp -dsimp only [h, go_sem, Nat.reduceLT, Nat.reduceLeDiff, Nat.reduceEqDiff, Nat.reduceAdd, Nat.reduceMul, Int.reduceNeg, Nat.reduceBEq, reduceCtorEq, ↓reduceIte]))
    | refine Exists.intro _ (Exists.intro _ (And.intro (And.intro rfl rfl) ?_))
  refine PCall_use (newNil_spec zerr s0) ?_
  rintro _ s1 ⟨p2, m2, rfl, G0⟩
  obtain ⟨A0, B0, D0⟩ := new_two H0 G0
  obtain ⟨N, hN⟩ : ∃ N, N = min ops.length 40 := ⟨_, rfl⟩
  repeat' first
    | ((fail_if_success (first | show W _ _ (Code.seq (Code.region 4 _ _) _) _ _ _ | show W _ _ (Code.seq (Code.seq (Code.region 4 _ _) _) _) _ _ _)); refine W_seq ?_)
    | refine W_block ?_
    | ((first | refine W_region (mu := []) ?_ | (refine W_region_any [] ⟨[], [], [], [], []⟩ mixedOrders_ok (by kernel_rfl) ?_; intro nu hn1 hn2) | refine fn_ret ?_ | refine fn_normal ?_ | refine Hold_P ?_ | refine prun_go ?_ | refine drun_go ?_); simp -dsimp only [go_sem, Nat.reduceLT, Nat.reduceLeDiff, Nat.reduceEqDiff, Nat.reduceAdd, Nat.reduceMul, Int.reduceNeg, Nat.reduceBEq, reduceCtorEq, ↓reduceIte])
    | (refine W_cond rfl (fun h => ?_) (fun h => ?_) <;> (try (cases h; done)))
    | refine W_ret ?_
    | refine W_skip ?_
    | refine W_exit ?_
    | refine then_normal ?_
    | refine then_ret ?_
    | refine then_exit ?_
    | refine inBlock_normal ?_
    | refine inBlock_ret ?_
    | refine inBlock_exit ?_
    | refine inBlock_ne (by decide) ?_
    | refine Hold_E ?_
    | (refine And.intro ?_ ?_; omega)
    | ((first | (refine ite_goB (fun h => ?_) (fun h => ?_) <;> (try exact absurd ((h : _ = false).symm.trans (by assumption : _ = true)) (by decide)) <;> (try exact absurd ((by assumption : _ = false).symm.trans (h : _ = true)) (by decide))) | (refine ite_go (fun h => ?_) (fun h => ?_) <;> (try exact absurd h (by assumption)) <;> (try exact absurd (by assumption) h))) <;> (try refine Hold_P ?_) <;> (try simp -dsimp only [h, go_sem, Nat.reduceLT, Nat.reduceLeDiff, Nat.reduceEqDiff, Nat.reduceAdd, Nat.reduceMul, Int.reduceNeg, Nat.reduceBEq, reduceCtorEq, ↓reduceIte]))
    | refine Exists.intro _ (Exists.intro _ (And.intro (And.intro rfl rfl) ?_))
  refine W_midE (fun a : Option (Nat × Nat × List Th) × EM × Option (Nat × Nat × List Th) × EM × SK × Store => [(0, .sl kd (opL ops)), (3, .ptr p 0 0), (4, .ptr p2 0 0), (5, .sl a.2.2.2.2.1 (krs (contO ops N))), (6, .sl .nil [])]) (fun a => a.2.2.2.2.2)
    (fun a => HS σ negr (.fn 9 []) p m a.1 (contO ops N) a.2.1 (N : Int) a.2.2.2.2.2 ∧ HS σ zerr (.fn 35 []) p2 m2 a.2.2.1 (contO ops N) a.2.2.2.1 (N : Int) a.2.2.2.2.2 ∧ ∀ q, Own p m a.1 q → ¬ Own p2 m2 a.2.2.1 q) ?_ ?_
  · skip
    repeat' first
      | refine W_seq ?_
      | refine W_block ?_
      | ((first | refine W_region (mu := []) ?_ | (refine W_region_any [] ⟨[], [], [], [], []⟩ mixedOrders_ok (by kernel_rfl) ?_; intro nu hn1 hn2) | refine fn_ret ?_ | refine fn_normal ?_ | refine Hold_P ?_ | refine prun_go ?_ | refine drun_go ?_); simp -dsimp only [go_sem, Nat.reduceLT, Nat.reduceLeDiff, Nat.reduceEqDiff, Nat.reduceAdd, Nat.reduceMul, Int.reduceNeg, Nat.reduceBEq, reduceCtorEq, ↓reduceIte])
      | (refine W_cond rfl (fun h => ?_) (fun h => ?_) <;> (try (cases h; done)))
      | refine W_ret ?_
      | refine W_skip ?_
      | refine W_exit ?_
      | refine then_normal ?_
      | refine then_ret ?_
      | refine then_exit ?_
      | refine inBlock_normal ?_
      | refine inBlock_ret ?_
      | refine inBlock_exit ?_
      | refine inBlock_ne (by decide) ?_
      | refine Hold_E ?_
      | (refine And.intro ?_ ?_; omega)
      | ((first | (refine ite_goB (fun h => ?_) (fun h => ?_) <;> (try exact absurd ((h : _ = false).symm.trans (by assumption : _ = true)) (by decide)) <;> (try exact absurd ((by assumption : _ = false).symm.trans (h : _ = true)) (by decide))) | (refine ite_go (fun h => ?_) (fun h => ?_) <;> (try exact absurd h (by assumption)) <;> (try exact absurd (by assumption) h))) <;> (try refine Hold_P ?_) <;> (try simp -dsimp only [h, go_sem, Nat.reduceLT, Nat.reduceLeDiff, Nat.reduceEqDiff, Nat.reduceAdd, Nat.reduceMul, Int.reduceNeg, Nat.reduceBEq, reduceCtorEq, ↓reduceIte]))
      | refine Exists.intro _ (Exists.intro _ (And.intro (And.intro rfl rfl) ?_))
    refine W_loop_st (fun a : Nat × Option (Nat × Nat × List Th) × EM × Option (Nat × Nat × List Th) × EM × SK × Store => [(0, .sl kd (opL ops)), (3, .ptr p 0 0), (4, .ptr p2 0 0), (5, .sl a.2.2.2.2.2.1 (krs (contO ops a.1))), (6, .sl .nil []), (7, .int .i64 a.1)]) (fun a => a.2.2.2.2.2.2)
      (fun a => a.1 ≤ ops.length ∧ a.1 ≤ 40 ∧ HS σ negr (.fn 9 []) p m a.2.1 (contO ops a.1) a.2.2.1 (a.1 : Int) a.2.2.2.2.2.2 ∧ HS σ zerr (.fn 35 []) p2 m2 a.2.2.2.1 (contO ops a.1) a.2.2.2.2.1 (a.1 : Int) a.2.2.2.2.2.2 ∧ ∀ q, Own p m a.2.1 q → ¬ Own p2 m2 a.2.2.2.1 q) (fun a => ops.length - a.1) (0, none, [], none, [], .nil, s1) ⟨Nat.zero_le _, by omega, A0, B0, D0⟩ (Env.Sub_of_has (by simp [Env.Has, Env.get, contO, krs])) (Store.Sub.refl _) ?_
    rintro ⟨i, v1, em1, v2, em2, kl, T⟩ ⟨hi, hi40, A, B, D⟩
    simp only at hi hi40 A B D
    have hcl := contO_len ops i
    have hout : (ops.length ≤ i ∨ 40 ≤ i) → i = N := fun h => by omega
    by_cases hlt : i < ops.length
    · have c0 : decide ((i : Int) < (ops.length : Int)) = true := decT (by omega)
      have q1 : ((i : Int) < (ops.length : Int)) = True := eq_true (by omega)
      have hx := getD_ops hlt
      have hsc := wrap_succ (show i < 4611686018427387904 by omega)
      by_cases h40 : i < 40
      · have c1 : decide ((i : Int) < 40) = true := decT (by omega)
        by_cases hli : (ops.getD i noOp).k.size ≤ 200
        · have c2 := decT hli
          have hset := rset_imm kl (contO ops i) (by omega) (Keys.of (contO_ok ops i).1) (ops.getD i noOp).k (ops.getD i noOp).r ((i : Int) + 1)
          repeat' first
            | refine W_seq ?_
            | refine W_block ?_
            | ((first | refine W_region (mu := []) ?_ | (refine W_region_any (id := 9) [] ⟨[], [11], [], [], [11]⟩ mixedOrders_ok (by kernel_rfl) ?_; intro nu hn1 hn2) | (refine W_region_any (id := 10) [] ⟨[], [11], [], [], [11]⟩ mixedOrders_ok (by kernel_rfl) ?_; intro nu hn1 hn2) | (refine W_region_any [] ⟨[], [], [], [], []⟩ mixedOrders_ok (by kernel_rfl) ?_; intro nu hn1 hn2) | refine fn_ret ?_ | refine fn_normal ?_ | refine Hold_P ?_ | refine prun_go ?_ | refine drun_go ?_); simp -dsimp only [go_sem, Nat.reduceLT, Nat.reduceLeDiff, Nat.reduceEqDiff, Nat.reduceAdd, Nat.reduceMul, Int.reduceNeg, Nat.reduceBEq, reduceCtorEq, ↓reduceIte, length_ops, c0, c1, c2, q1, hx])
            | (refine W_cond rfl (fun h => ?_) (fun h => ?_) <;> (try (cases h; done)))
            | refine W_ret ?_
            | refine W_skip ?_
            | refine W_exit ?_
            | refine then_normal ?_
            | refine then_ret ?_
            | refine then_exit ?_
            | refine inBlock_normal ?_
            | refine inBlock_ret ?_
            | refine inBlock_exit ?_
            | refine inBlock_ne (by decide) ?_
            | refine Hold_E ?_
            | (refine And.intro ?_ ?_; omega)
            | ((first | (refine ite_goB (fun h => ?_) (fun h => ?_) <;> (try exact absurd ((h : _ = false).symm.trans (by assumption : _ = true)) (by decide)) <;> (try exact absurd ((by assumption : _ = false).symm.trans (h : _ = true)) (by decide))) | (refine ite_go (fun h => ?_) (fun h => ?_) <;> (try exact absurd h (by assumption)) <;> (try exact absurd (by assumption) h))) <;> (try refine Hold_P ?_) <;> (try simp -dsimp only [h, go_sem, Nat.reduceLT, Nat.reduceLeDiff, Nat.reduceEqDiff, Nat.reduceAdd, Nat.reduceMul, Int.reduceNeg, Nat.reduceBEq, reduceCtorEq, ↓reduceIte, length_ops, c0, c1, c2, q1, hx]))
            | refine Exists.intro _ (Exists.intro _ (And.intro (And.intro rfl rfl) ?_))
            | (refine PCall_use (light_spec _ _ _ _) ?_; rintro _ _ ⟨rfl, hq⟩; obtain rfl := hq.symm; clear hq)
            | (refine Exists.intro _ (And.intro (fun _ => light_spec _ _ _ _) ?_))
            | (refine Exists.intro _ (And.intro (light_spec _ _ _ _) ?_))
            | (refine Exists.intro _ (Exists.intro _ (And.intro (light_spec _ _ _ _) ?_)))
          obtain ⟨σ1, A1, hA1⟩ := two_step A B D
          refine PCall_use (set_spec byRank_G lessG_spec A1 (by omega) (by omega) (ops.getD i noOp).k (ops.getD i noOp).r) ?_
          rintro _ T1 ⟨v1', em1', rfl, A2⟩
          obtain ⟨A3, B3, D3⟩ := hA1 _ _ _ _ _ A2
          repeat' first
            | refine W_seq ?_
            | refine W_block ?_
            | ((first | refine W_region (mu := []) ?_ | (refine W_region_any (id := 9) [] ⟨[], [11], [], [], [11]⟩ mixedOrders_ok (by kernel_rfl) ?_; intro nu hn1 hn2) | (refine W_region_any (id := 10) [] ⟨[], [11], [], [], [11]⟩ mixedOrders_ok (by kernel_rfl) ?_; intro nu hn1 hn2) | (refine W_region_any [] ⟨[], [], [], [], []⟩ mixedOrders_ok (by kernel_rfl) ?_; intro nu hn1 hn2) | refine fn_ret ?_ | refine fn_normal ?_ | refine Hold_P ?_ | refine prun_go ?_ | refine drun_go ?_); simp -dsimp only [go_sem, Nat.reduceLT, Nat.reduceLeDiff, Nat.reduceEqDiff, Nat.reduceAdd, Nat.reduceMul, Int.reduceNeg, Nat.reduceBEq, reduceCtorEq, ↓reduceIte, length_ops, c0, c1, c2, q1, hx])
            | (refine W_cond rfl (fun h => ?_) (fun h => ?_) <;> (try (cases h; done)))
            | refine W_ret ?_
            | refine W_skip ?_
            | refine W_exit ?_
            | refine then_normal ?_
            | refine then_ret ?_
            | refine then_exit ?_
            | refine inBlock_normal ?_
            | refine inBlock_ret ?_
            | refine inBlock_exit ?_
            | refine inBlock_ne (by decide) ?_
            | refine Hold_E ?_
            | (refine And.intro ?_ ?_; omega)
            | ((first | (refine ite_goB (fun h => ?_) (fun h => ?_) <;> (try exact absurd ((h : _ = false).symm.trans (by assumption : _ = true)) (by decide)) <;> (try exact absurd ((by assumption : _ = false).symm.trans (h : _ = true)) (by decide))) | (refine ite_go (fun h => ?_) (fun h => ?_) <;> (try exact absurd h (by assumption)) <;> (try exact absurd (by assumption) h))) <;> (try refine Hold_P ?_) <;> (try simp -dsimp only [h, go_sem, Nat.reduceLT, Nat.reduceLeDiff, Nat.reduceEqDiff, Nat.reduceAdd, Nat.reduceMul, Int.reduceNeg, Nat.reduceBEq, reduceCtorEq, ↓reduceIte, length_ops, c0, c1, c2, q1, hx]))
            | refine Exists.intro _ (Exists.intro _ (And.intro (And.intro rfl rfl) ?_))
          obtain ⟨σ2, B4, hB4⟩ := two_step B3 A3 (own_symm D3)
          refine PCall_use (set_spec byRank_N lessN_spec B4 (by omega) (by omega) (ops.getD i noOp).k (ops.getD i noOp).r) ?_
          rintro _ T2 ⟨v2', em2', rfl, B5⟩
          obtain ⟨B6, A6, D6⟩ := hB4 _ _ _ _ _ B5
          repeat' first
            | refine W_seq ?_
            | refine W_block ?_
            | ((first | refine W_region (mu := []) ?_ | (refine W_region_any (id := 9) [] ⟨[], [11], [], [], [11]⟩ mixedOrders_ok (by kernel_rfl) ?_; intro nu hn1 hn2) | (refine W_region_any (id := 10) [] ⟨[], [11], [], [], [11]⟩ mixedOrders_ok (by kernel_rfl) ?_; intro nu hn1 hn2) | (refine W_region_any [] ⟨[], [], [], [], []⟩ mixedOrders_ok (by kernel_rfl) ?_; intro nu hn1 hn2) | refine fn_ret ?_ | refine fn_normal ?_ | refine Hold_P ?_ | refine prun_go ?_ | refine drun_go ?_); simp -dsimp only [go_sem, Nat.reduceLT, Nat.reduceLeDiff, Nat.reduceEqDiff, Nat.reduceAdd, Nat.reduceMul, Int.reduceNeg, Nat.reduceBEq, reduceCtorEq, ↓reduceIte, length_ops, c0, c1, c2, q1, hx])
            | (refine W_cond rfl (fun h => ?_) (fun h => ?_) <;> (try (cases h; done)))
            | refine W_ret ?_
            | refine W_skip ?_
            | refine W_exit ?_
            | refine then_normal ?_
            | refine then_ret ?_
            | refine then_exit ?_
            | refine inBlock_normal ?_
            | refine inBlock_ret ?_
            | refine inBlock_exit ?_
            | refine inBlock_ne (by decide) ?_
            | refine Hold_E ?_
            | (refine And.intro ?_ ?_; omega)
            | ((first | (refine ite_goB (fun h => ?_) (fun h => ?_) <;> (try exact absurd ((h : _ = false).symm.trans (by assumption : _ = true)) (by decide)) <;> (try exact absurd ((by assumption : _ = false).symm.trans (h : _ = true)) (by decide))) | (refine ite_go (fun h => ?_) (fun h => ?_) <;> (try exact absurd h (by assumption)) <;> (try exact absurd (by assumption) h))) <;> (try refine Hold_P ?_) <;> (try simp -dsimp only [h, go_sem, Nat.reduceLT, Nat.reduceLeDiff, Nat.reduceEqDiff, Nat.reduceAdd, Nat.reduceMul, Int.reduceNeg, Nat.reduceBEq, reduceCtorEq, ↓reduceIte, length_ops, c0, c1, c2, q1, hx]))
            | refine Exists.intro _ (Exists.intro _ (And.intro (And.intro rfl rfl) ?_))
            | (refine PCall_use (hset _) ?_; rintro _ _ ⟨rfl, hq⟩; obtain rfl := hq.symm; clear hq)
            | (refine Exists.intro _ (And.intro (fun _ => hset _) ?_))
            | (refine Exists.intro _ (And.intro (hset _) ?_))
            | (refine Exists.intro _ (Exists.intro _ (And.intro (hset _) ?_)))
          exact ⟨(i + 1, v1', em1', v2', em2', .imm, T2), by simp only; omega, ⟨by simp only; omega, by simp only; omega, A6, B6, own_symm D6⟩, Env.Sub_of_has (by simp [Env.Has, Env.get, hsc, contO]), Store.Sub.refl _⟩
        · have c2 := decF hli
          repeat' first
            | refine W_seq ?_
            | refine W_block ?_
            | ((first | refine W_region (mu := []) ?_ | (refine W_region_any [] ⟨[], [], [], [], []⟩ mixedOrders_ok (by kernel_rfl) ?_; intro nu hn1 hn2) | refine fn_ret ?_ | refine fn_normal ?_ | refine Hold_P ?_ | refine prun_go ?_ | refine drun_go ?_); simp -dsimp only [go_sem, Nat.reduceLT, Nat.reduceLeDiff, Nat.reduceEqDiff, Nat.reduceAdd, Nat.reduceMul, Int.reduceNeg, Nat.reduceBEq, reduceCtorEq, ↓reduceIte, length_ops, c0, c1, c2, q1, hx])
            | (refine W_cond rfl (fun h => ?_) (fun h => ?_) <;> (try (cases h; done)))
            | refine W_ret ?_
            | refine W_skip ?_
            | refine W_exit ?_
            | refine then_normal ?_
            | refine then_ret ?_
            | refine then_exit ?_
            | refine inBlock_normal ?_
            | refine inBlock_ret ?_
            | refine inBlock_exit ?_
            | refine inBlock_ne (by decide) ?_
            | refine Hold_E ?_
            | (refine And.intro ?_ ?_; omega)
            | ((first | (refine ite_goB (fun h => ?_) (fun h => ?_) <;> (try exact absurd ((h : _ = false).symm.trans (by assumption : _ = true)) (by decide)) <;> (try exact absurd ((by assumption : _ = false).symm.trans (h : _ = true)) (by decide))) | (refine ite_go (fun h => ?_) (fun h => ?_) <;> (try exact absurd h (by assumption)) <;> (try exact absurd (by assumption) h))) <;> (try refine Hold_P ?_) <;> (try simp -dsimp only [h, go_sem, Nat.reduceLT, Nat.reduceLeDiff, Nat.reduceEqDiff, Nat.reduceAdd, Nat.reduceMul, Int.reduceNeg, Nat.reduceBEq, reduceCtorEq, ↓reduceIte, length_ops, c0, c1, c2, q1, hx]))
            | refine Exists.intro _ (Exists.intro _ (And.intro (And.intro rfl rfl) ?_))
            | (refine PCall_use (light_spec _ _ _ _) ?_; rintro _ _ ⟨rfl, hq⟩; obtain rfl := hq.symm; clear hq)
            | (refine Exists.intro _ (And.intro (fun _ => light_spec _ _ _ _) ?_))
            | (refine Exists.intro _ (And.intro (light_spec _ _ _ _) ?_))
            | (refine Exists.intro _ (Exists.intro _ (And.intro (light_spec _ _ _ _) ?_)))
            | (refine PCall_use (lives_spec _) ?_; rintro _ _ ⟨rfl, hq⟩; obtain rfl := hq.symm; clear hq)
            | (refine Exists.intro _ (And.intro (fun _ => lives_spec _) ?_))
            | (refine Exists.intro _ (And.intro (lives_spec _) ?_))
            | (refine Exists.intro _ (Exists.intro _ (And.intro (lives_spec _) ?_)))
          exact A.sub
      · have c1 : decide ((i : Int) < 40) = false := decF (by omega)
        have e := hout (.inr (by omega))
        subst e
        repeat' first
          | refine W_seq ?_
          | refine W_block ?_
          | ((first | refine W_region (mu := []) ?_ | (refine W_region_any [] ⟨[], [], [], [], []⟩ mixedOrders_ok (by kernel_rfl) ?_; intro nu hn1 hn2) | refine fn_ret ?_ | refine fn_normal ?_ | refine Hold_P ?_ | refine prun_go ?_ | refine drun_go ?_); simp -dsimp only [go_sem, Nat.reduceLT, Nat.reduceLeDiff, Nat.reduceEqDiff, Nat.reduceAdd, Nat.reduceMul, Int.reduceNeg, Nat.reduceBEq, reduceCtorEq, ↓reduceIte, length_ops, c0, c1])
          | (refine W_cond rfl (fun h => ?_) (fun h => ?_) <;> (try (cases h; done)))
          | refine W_ret ?_
          | refine W_skip ?_
          | refine W_exit ?_
          | refine then_normal ?_
          | refine then_ret ?_
          | refine then_exit ?_
          | refine inBlock_normal ?_
          | refine inBlock_ret ?_
          | refine inBlock_exit ?_
          | refine inBlock_ne (by decide) ?_
          | refine Hold_E ?_
          | (refine And.intro ?_ ?_; omega)
          | ((first | (refine ite_goB (fun h => ?_) (fun h => ?_) <;> (try exact absurd ((h : _ = false).symm.trans (by assumption : _ = true)) (by decide)) <;> (try exact absurd ((by assumption : _ = false).symm.trans (h : _ = true)) (by decide))) | (refine ite_go (fun h => ?_) (fun h => ?_) <;> (try exact absurd h (by assumption)) <;> (try exact absurd (by assumption) h))) <;> (try refine Hold_P ?_) <;> (try simp -dsimp only [h, go_sem, Nat.reduceLT, Nat.reduceLeDiff, Nat.reduceEqDiff, Nat.reduceAdd, Nat.reduceMul, Int.reduceNeg, Nat.reduceBEq, reduceCtorEq, ↓reduceIte, length_ops, c0, c1]))
          | refine Exists.intro _ (Exists.intro _ (And.intro (And.intro rfl rfl) ?_))
        exact ⟨(v1, em1, v2, em2, kl, T), ⟨A, B, D⟩, Env.Sub_of_has (by simp [Env.Has, Env.get]), Store.Sub.refl _⟩
    · have c0 : decide ((i : Int) < (ops.length : Int)) = false := decF (by omega)
      have e := hout (.inl (by omega))
      subst e
      repeat' first
        | refine W_seq ?_
        | refine W_block ?_
        | ((first | refine W_region (mu := []) ?_ | (refine W_region_any [] ⟨[], [], [], [], []⟩ mixedOrders_ok (by kernel_rfl) ?_; intro nu hn1 hn2) | refine fn_ret ?_ | refine fn_normal ?_ | refine Hold_P ?_ | refine prun_go ?_ | refine drun_go ?_); simp -dsimp only [go_sem, Nat.reduceLT, Nat.reduceLeDiff, Nat.reduceEqDiff, Nat.reduceAdd, Nat.reduceMul, Int.reduceNeg, Nat.reduceBEq, reduceCtorEq, ↓reduceIte, length_ops, c0])
        | (refine W_cond rfl (fun h => ?_) (fun h => ?_) <;> (try (cases h; done)))
        | refine W_ret ?_
        | refine W_skip ?_
        | refine W_exit ?_
        | refine then_normal ?_
        | refine then_ret ?_
        | refine then_exit ?_
        | refine inBlock_normal ?_
        | refine inBlock_ret ?_
        | refine inBlock_exit ?_
        | refine inBlock_ne (by decide) ?_
        | refine Hold_E ?_
        | (refine And.intro ?_ ?_; omega)
        | ((first | (refine ite_goB (fun h => ?_) (fun h => ?_) <;> (try exact absurd ((h : _ = false).symm.trans (by assumption : _ = true)) (by decide)) <;> (try exact absurd ((by assumption : _ = false).symm.trans (h : _ = true)) (by decide))) | (refine ite_go (fun h => ?_) (fun h => ?_) <;> (try exact absurd h (by assumption)) <;> (try exact absurd (by assumption) h))) <;> (try refine Hold_P ?_) <;> (try simp -dsimp only [h, go_sem, Nat.reduceLT, Nat.reduceLeDiff, Nat.reduceEqDiff, Nat.reduceAdd, Nat.reduceMul, Int.reduceNeg, Nat.reduceBEq, reduceCtorEq, ↓reduceIte, length_ops, c0]))
        | refine Exists.intro _ (Exists.intro _ (And.intro (And.intro rfl rfl) ?_))
      exact ⟨(v1, em1, v2, em2, kl, T), ⟨A, B, D⟩, Env.Sub_of_has (by simp [Env.Has, Env.get]), Store.Sub.refl _⟩
  · rintro ⟨v1, em1, v2, em2, kl, T⟩ ⟨A, B, D⟩
    simp only at A B D
    obtain ⟨C, hC⟩ : ∃ C, C = contO ops N := ⟨_, rfl⟩
    rw [← hC] at A B
    have hcl : C.length ≤ N := by rw [hC]; exact contO_len ops N
    show W _ _ _ _ [(0, .sl kd (opL ops)), (3, .ptr p 0 0), (4, .ptr p2 0 0), (5, .sl kl (krs (contO ops N))), (6, .sl .nil [])] T
    rw [← hC]
    refine W_midE (fun a : List Th × SK × Store => [(0, .sl kd (opL ops)), (4, .ptr p2 0 0), (6, .sl a.2.1 (krs a.1))]) (fun a => a.2.2) (fun a => HS σ zerr (.fn 35 []) p2 m2 v2 C em2 (N : Int) a.2.2 ∧ a.1.length = C.length) ?_ ?_
    · refine W_block ?_
      refine W_loop_st (fun a : List Th × Option (Nat × Nat × List Th) × EM × SK × List Th × SK × Store => [(0, .sl kd (opL ops)), (3, .ptr p 0 0), (4, .ptr p2 0 0), (5, .sl a.2.2.2.1 (krs a.1)), (6, .sl a.2.2.2.2.2.1 (krs a.2.2.2.2.1))]) (fun a => a.2.2.2.2.2.2)
        (fun a => HS σ negr (.fn 9 []) p m a.2.1 a.1 a.2.2.1 (N : Int) a.2.2.2.2.2.2 ∧ HS σ zerr (.fn 35 []) p2 m2 v2 C em2 (N : Int) a.2.2.2.2.2.2 ∧ (∀ q, Own p m a.2.1 q → ¬ Own p2 m2 v2 q) ∧ a.2.2.2.2.1.length + a.1.length = C.length ∧ Keys a.2.2.2.2.1 ∧ ∀ t, t ∈ a.2.2.2.2.1 → ∀ u, u ∈ a.1 → t.k ≠ u.k) (fun a => a.1.length) (C, v1, em1, kl, [], .nil, T) ⟨A, B, D, by simp, .nil, nofun⟩ (Env.Sub_of_has (by simp [Env.Has, Env.get, krs])) (Store.Sub.refl _) ?_
      rintro ⟨c1, v1, em1, kl, cm, km, T⟩ ⟨A, B, D, hln, hkm, hdj⟩
      simp only at A B D hln hkm hdj
      by_cases hc1 : c1 = []
      · subst hc1
        have c0 : decide (0 < (((0 : Nat)) : Int)) = false := by simp
        repeat' first
          | refine W_seq ?_
          | refine W_block ?_
          | ((first | refine W_region (mu := []) ?_ | (refine W_region_any [] ⟨[], [], [], [], []⟩ mixedOrders_ok (by kernel_rfl) ?_; intro nu hn1 hn2) | refine fn_ret ?_ | refine fn_normal ?_ | refine Hold_P ?_ | refine prun_go ?_ | refine drun_go ?_); simp -dsimp only [go_sem, Nat.reduceLT, Nat.reduceLeDiff, Nat.reduceEqDiff, Nat.reduceAdd, Nat.reduceMul, Int.reduceNeg, Nat.reduceBEq, reduceCtorEq, ↓reduceIte, length_krs, c0])
          | (refine W_cond rfl (fun h => ?_) (fun h => ?_) <;> (try (cases h; done)))
          | refine W_ret ?_
          | refine W_skip ?_
          | refine W_exit ?_
          | refine then_normal ?_
          | refine then_ret ?_
          | refine then_exit ?_
          | refine inBlock_normal ?_
          | refine inBlock_ret ?_
          | refine inBlock_exit ?_
          | refine inBlock_ne (by decide) ?_
          | refine Hold_E ?_
          | (refine And.intro ?_ ?_; omega)
          | ((first | (refine ite_goB (fun h => ?_) (fun h => ?_) <;> (try exact absurd ((h : _ = false).symm.trans (by assumption : _ = true)) (by decide)) <;> (try exact absurd ((by assumption : _ = false).symm.trans (h : _ = true)) (by decide))) | (refine ite_go (fun h => ?_) (fun h => ?_) <;> (try exact absurd h (by assumption)) <;> (try exact absurd (by assumption) h))) <;> (try refine Hold_P ?_) <;> (try simp -dsimp only [h, go_sem, Nat.reduceLT, Nat.reduceLeDiff, Nat.reduceEqDiff, Nat.reduceAdd, Nat.reduceMul, Int.reduceNeg, Nat.reduceBEq, reduceCtorEq, ↓reduceIte, length_krs, c0]))
          | refine Exists.intro _ (Exists.intro _ (And.intro (And.intro rfl rfl) ?_))
        exact ⟨(cm, km, T), ⟨B, by simpa using hln⟩, Env.Sub_of_has (by simp [Env.Has, Env.get]), Store.Sub.refl _⟩
      · have hpos : 0 < c1.length := List.length_pos_iff.2 hc1
        have c0 : decide (0 < (c1.length : Int)) = true := decT (by omega)
        repeat' first
          | refine W_seq ?_
          | refine W_block ?_
          | ((first | refine W_region (mu := []) ?_ | (refine W_region_any [] ⟨[], [], [], [], []⟩ mixedOrders_ok (by kernel_rfl) ?_; intro nu hn1 hn2) | refine fn_ret ?_ | refine fn_normal ?_ | refine Hold_P ?_ | refine prun_go ?_ | refine drun_go ?_); simp -dsimp only [go_sem, Nat.reduceLT, Nat.reduceLeDiff, Nat.reduceEqDiff, Nat.reduceAdd, Nat.reduceMul, Int.reduceNeg, Nat.reduceBEq, reduceCtorEq, ↓reduceIte, length_krs, c0])
          | (refine W_cond rfl (fun h => ?_) (fun h => ?_) <;> (try (cases h; done)))
          | refine W_ret ?_
          | refine W_skip ?_
          | refine W_exit ?_
          | refine then_normal ?_
          | refine then_ret ?_
          | refine then_exit ?_
          | refine inBlock_normal ?_
          | refine inBlock_ret ?_
          | refine inBlock_exit ?_
          | refine inBlock_ne (by decide) ?_
          | refine Hold_E ?_
          | (refine And.intro ?_ ?_; omega)
          | ((first | (refine ite_goB (fun h => ?_) (fun h => ?_) <;> (try exact absurd ((h : _ = false).symm.trans (by assumption : _ = true)) (by decide)) <;> (try exact absurd ((by assumption : _ = false).symm.trans (h : _ = true)) (by decide))) | (refine ite_go (fun h => ?_) (fun h => ?_) <;> (try exact absurd h (by assumption)) <;> (try exact absurd (by assumption) h))) <;> (try refine Hold_P ?_) <;> (try simp -dsimp only [h, go_sem, Nat.reduceLT, Nat.reduceLeDiff, Nat.reduceEqDiff, Nat.reduceAdd, Nat.reduceMul, Int.reduceNeg, Nat.reduceBEq, reduceCtorEq, ↓reduceIte, length_krs, c0]))
          | refine Exists.intro _ (Exists.intro _ (And.intro (And.intro rfl rfl) ?_))
        refine W_loop_st (fun a : Nat × Nat => [(0, .sl kd (opL ops)), (3, .ptr p 0 0), (4, .ptr p2 0 0), (5, .sl kl (krs c1)), (6, .sl km (krs cm)), (8, .int .i64 a.2), (9, .int .i64 a.1)]) (fun _ => T) (fun a => a.1 ≤ c1.length ∧ a.2 < c1.length ∧ a.2 ≤ a.1 ∧ MaxOf c1 a.1 a.2) (fun a => c1.length - a.1) (0, 0) ⟨Nat.zero_le _, hpos, Nat.le_refl _, (fun j hj => by simp at hj), (fun j _ hj => by simp at hj)⟩ (Env.Sub_of_has (by simp [Env.Has, Env.get])) (Store.Sub.refl _) ?_
        rintro ⟨i, b⟩ ⟨hi, hb, hbi, hmx⟩
        simp only at hi hb hbi hmx
        have hxb := getD_krs hb
        have qb : ((b : Int) < (c1.length : Int)) = True := eq_true (by omega)
        by_cases hlt : i < c1.length
        · have d0 : decide ((i : Int) < (c1.length : Int)) = true := decT (by omega)
          have hx := getD_krs hlt
          have qi : ((i : Int) < (c1.length : Int)) = True := eq_true (by omega)
          have hsc := wrap_succ (show i < 4611686018427387904 by omega)
          by_cases hgt : (c1.getD b noTh).r < (c1.getD i noTh).r
          · have d1 := decT hgt
            repeat' first
              | refine W_seq ?_
              | refine W_block ?_
              | ((first | refine W_region (mu := []) ?_ | (refine W_region_any [] ⟨[], [], [], [], []⟩ mixedOrders_ok (by kernel_rfl) ?_; intro nu hn1 hn2) | refine fn_ret ?_ | refine fn_normal ?_ | refine Hold_P ?_ | refine prun_go ?_ | refine drun_go ?_); simp -dsimp only [go_sem, Nat.reduceLT, Nat.reduceLeDiff, Nat.reduceEqDiff, Nat.reduceAdd, Nat.reduceMul, Int.reduceNeg, Nat.reduceBEq, reduceCtorEq, ↓reduceIte, length_krs, d0, d1, hx, hxb, qb, qi])
              | (refine W_cond rfl (fun h => ?_) (fun h => ?_) <;> (try (cases h; done)))
              | refine W_ret ?_
              | refine W_skip ?_
              | refine W_exit ?_
              | refine then_normal ?_
              | refine then_ret ?_
              | refine then_exit ?_
              | refine inBlock_normal ?_
              | refine inBlock_ret ?_
              | refine inBlock_exit ?_
              | refine inBlock_ne (by decide) ?_
              | refine Hold_E ?_
              | (refine And.intro ?_ ?_; omega)
              | ((first | (refine ite_goB (fun h => ?_) (fun h => ?_) <;> (try exact absurd ((h : _ = false).symm.trans (by assumption : _ = true)) (by decide)) <;> (try exact absurd ((by assumption : _ = false).symm.trans (h : _ = true)) (by decide))) | (refine ite_go (fun h => ?_) (fun h => ?_) <;> (try exact absurd h (by assumption)) <;> (try exact absurd (by assumption) h))) <;> (try refine Hold_P ?_) <;> (try simp -dsimp only [h, go_sem, Nat.reduceLT, Nat.reduceLeDiff, Nat.reduceEqDiff, Nat.reduceAdd, Nat.reduceMul, Int.reduceNeg, Nat.reduceBEq, reduceCtorEq, ↓reduceIte, length_krs, d0, d1, hx, hxb, qb, qi]))
              | refine Exists.intro _ (Exists.intro _ (And.intro (And.intro rfl rfl) ?_))
            refine ⟨(i + 1, i), by simp only; omega, ⟨by simp only; omega, hlt, by simp only; omega, fun j hj => ?_, fun j hj hji => ?_⟩, Env.Sub_of_has (by simp [Env.Has, Env.get, hsc]), Store.Sub.refl _⟩
            · simp only at hj ⊢
              by_cases q : j < b
              · have := hmx.1 j q; omega
              · have := hmx.2 j (by omega) hj; omega
            · simp only at hj hji ⊢
              rw [show j = i by omega]; exact Int.le_refl _
          · have d1 := decF hgt
            repeat' first
              | refine W_seq ?_
              | refine W_block ?_
              | ((first | refine W_region (mu := []) ?_ | (refine W_region_any [] ⟨[], [], [], [], []⟩ mixedOrders_ok (by kernel_rfl) ?_; intro nu hn1 hn2) | refine fn_ret ?_ | refine fn_normal ?_ | refine Hold_P ?_ | refine prun_go ?_ | refine drun_go ?_); simp -dsimp only [go_sem, Nat.reduceLT, Nat.reduceLeDiff, Nat.reduceEqDiff, Nat.reduceAdd, Nat.reduceMul, Int.reduceNeg, Nat.reduceBEq, reduceCtorEq, ↓reduceIte, length_krs, d0, d1, hx, hxb, qb, qi])
              | (refine W_cond rfl (fun h => ?_) (fun h => ?_) <;> (try (cases h; done)))
              | refine W_ret ?_
              | refine W_skip ?_
              | refine W_exit ?_
              | refine then_normal ?_
              | refine then_ret ?_
              | refine then_exit ?_
              | refine inBlock_normal ?_
              | refine inBlock_ret ?_
              | refine inBlock_exit ?_
              | refine inBlock_ne (by decide) ?_
              | refine Hold_E ?_
              | (refine And.intro ?_ ?_; omega)
              | ((first | (refine ite_goB (fun h => ?_) (fun h => ?_) <;> (try exact absurd ((h : _ = false).symm.trans (by assumption : _ = true)) (by decide)) <;> (try exact absurd ((by assumption : _ = false).symm.trans (h : _ = true)) (by decide))) | (refine ite_go (fun h => ?_) (fun h => ?_) <;> (try exact absurd h (by assumption)) <;> (try exact absurd (by assumption) h))) <;> (try refine Hold_P ?_) <;> (try simp -dsimp only [h, go_sem, Nat.reduceLT, Nat.reduceLeDiff, Nat.reduceEqDiff, Nat.reduceAdd, Nat.reduceMul, Int.reduceNeg, Nat.reduceBEq, reduceCtorEq, ↓reduceIte, length_krs, d0, d1, hx, hxb, qb, qi]))
              | refine Exists.intro _ (Exists.intro _ (And.intro (And.intro rfl rfl) ?_))
            refine ⟨(i + 1, b), by simp only; omega, ⟨by simp only; omega, hb, by simp only; omega, hmx.1, fun j hj hji => ?_⟩, Env.Sub_of_has (by simp [Env.Has, Env.get, hsc]), Store.Sub.refl _⟩
            simp only at hj hji ⊢
            by_cases q : j = i
            · rw [q]; omega
            · exact hmx.2 j hj (by omega)
        · have d0 : decide ((i : Int) < (c1.length : Int)) = false := decF (by omega)
          have e : i = c1.length := by omega
          subst e
          obtain ⟨hbm, hbl⟩ := hmx.least A.srt hb
          obtain ⟨σ1, A1, hA1⟩ := two_step A B D
          obtain ⟨t, ht, hl, hP⟩ := pop_some byRank_G lessG_spec A1 hc1
          have e := least_one A.srt ht hbm hl hbl
          subst e
          have hnk : ∀ t, t ∈ cm → t.k ≠ (c1.getD b noTh).k := fun t h => hdj t h _ hbm
          have hset := rset_imm km cm (by omega) hkm (c1.getD b noTh).k 0 0
          rw [without_none hnk] at hset
          have hwl := without_len A.srt ⟨_, hbm, rfl⟩
          repeat' first
            | refine W_seq ?_
            | refine W_block ?_
            | ((first | refine W_region (mu := []) ?_ | (refine W_region_any [] ⟨[], [], [], [], []⟩ mixedOrders_ok (by kernel_rfl) ?_; intro nu hn1 hn2) | refine fn_ret ?_ | refine fn_normal ?_ | refine Hold_P ?_ | refine prun_go ?_ | refine drun_go ?_); simp -dsimp only [go_sem, Nat.reduceLT, Nat.reduceLeDiff, Nat.reduceEqDiff, Nat.reduceAdd, Nat.reduceMul, Int.reduceNeg, Nat.reduceBEq, reduceCtorEq, ↓reduceIte, length_krs, d0])
            | (refine W_cond rfl (fun h => ?_) (fun h => ?_) <;> (try (cases h; done)))
            | refine W_ret ?_
            | refine W_skip ?_
            | refine W_exit ?_
            | refine then_normal ?_
            | refine then_ret ?_
            | refine then_exit ?_
            | refine inBlock_normal ?_
            | refine inBlock_ret ?_
            | refine inBlock_exit ?_
            | refine inBlock_ne (by decide) ?_
            | refine Hold_E ?_
            | (refine And.intro ?_ ?_; omega)
            | ((first | (refine ite_goB (fun h => ?_) (fun h => ?_) <;> (try exact absurd ((h : _ = false).symm.trans (by assumption : _ = true)) (by decide)) <;> (try exact absurd ((by assumption : _ = false).symm.trans (h : _ = true)) (by decide))) | (refine ite_go (fun h => ?_) (fun h => ?_) <;> (try exact absurd h (by assumption)) <;> (try exact absurd (by assumption) h))) <;> (try refine Hold_P ?_) <;> (try simp -dsimp only [h, go_sem, Nat.reduceLT, Nat.reduceLeDiff, Nat.reduceEqDiff, Nat.reduceAdd, Nat.reduceMul, Int.reduceNeg, Nat.reduceBEq, reduceCtorEq, ↓reduceIte, length_krs, d0]))
            | refine Exists.intro _ (Exists.intro _ (And.intro (And.intro rfl rfl) ?_))
          refine PCall_use hP ?_
          rintro _ T1 ⟨v1', em1', rfl, A2⟩
          obtain ⟨A3, B3, D3⟩ := hA1 _ _ _ _ _ A2
          repeat' first
            | refine W_seq ?_
            | refine W_block ?_
            | ((first | refine W_region (mu := []) ?_ | (refine W_region_any [] ⟨[], [], [], [], []⟩ mixedOrders_ok (by kernel_rfl) ?_; intro nu hn1 hn2) | refine fn_ret ?_ | refine fn_normal ?_ | refine Hold_P ?_ | refine prun_go ?_ | refine drun_go ?_); simp -dsimp only [go_sem, Nat.reduceLT, Nat.reduceLeDiff, Nat.reduceEqDiff, Nat.reduceAdd, Nat.reduceMul, Int.reduceNeg, Nat.reduceBEq, reduceCtorEq, ↓reduceIte, length_krs, hxb, qb])
            | (refine W_cond rfl (fun h => ?_) (fun h => ?_) <;> (try (cases h; done)))
            | refine W_ret ?_
            | refine W_skip ?_
            | refine W_exit ?_
            | refine then_normal ?_
            | refine then_ret ?_
            | refine then_exit ?_
            | refine inBlock_normal ?_
            | refine inBlock_ret ?_
            | refine inBlock_exit ?_
            | refine inBlock_ne (by decide) ?_
            | refine Hold_E ?_
            | (refine And.intro ?_ ?_; omega)
            | ((first | (refine ite_goB (fun h => ?_) (fun h => ?_) <;> (try exact absurd ((h : _ = false).symm.trans (by assumption : _ = true)) (by decide)) <;> (try exact absurd ((by assumption : _ = false).symm.trans (h : _ = true)) (by decide))) | (refine ite_go (fun h => ?_) (fun h => ?_) <;> (try exact absurd h (by assumption)) <;> (try exact absurd (by assumption) h))) <;> (try refine Hold_P ?_) <;> (try simp -dsimp only [h, go_sem, Nat.reduceLT, Nat.reduceLeDiff, Nat.reduceEqDiff, Nat.reduceAdd, Nat.reduceMul, Int.reduceNeg, Nat.reduceBEq, reduceCtorEq, ↓reduceIte, length_krs, hxb, qb]))
            | refine Exists.intro _ (Exists.intro _ (And.intro (And.intro rfl rfl) ?_))
            | (refine PCall_use (hset _) ?_; rintro _ _ ⟨rfl, hq⟩; obtain rfl := hq.symm; clear hq)
            | (refine Exists.intro _ (And.intro (fun _ => hset _) ?_))
            | (refine Exists.intro _ (And.intro (hset _) ?_))
            | (refine Exists.intro _ (Exists.intro _ (And.intro (hset _) ?_)))
          refine PCall_use (rdrop_spec kl c1 (by omega) (Keys.of A.srt) (c1.getD b noTh).k _) ?_
          rintro _ T2 ⟨⟨kd', rfl⟩, hq⟩
          obtain rfl := hq.symm
          clear hq
          repeat' first
            | refine W_seq ?_
            | refine W_block ?_
            | ((first | refine W_region (mu := []) ?_ | (refine W_region_any [] ⟨[], [], [], [], []⟩ mixedOrders_ok (by kernel_rfl) ?_; intro nu hn1 hn2) | refine fn_ret ?_ | refine fn_normal ?_ | refine Hold_P ?_ | refine prun_go ?_ | refine drun_go ?_); simp -dsimp only [go_sem, Nat.reduceLT, Nat.reduceLeDiff, Nat.reduceEqDiff, Nat.reduceAdd, Nat.reduceMul, Int.reduceNeg, Nat.reduceBEq, reduceCtorEq, ↓reduceIte])
            | (refine W_cond rfl (fun h => ?_) (fun h => ?_) <;> (try (cases h; done)))
            | refine W_ret ?_
            | refine W_skip ?_
            | refine W_exit ?_
            | refine then_normal ?_
            | refine then_ret ?_
            | refine then_exit ?_
            | refine inBlock_normal ?_
            | refine inBlock_ret ?_
            | refine inBlock_exit ?_
            | refine inBlock_ne (by decide) ?_
            | refine Hold_E ?_
            | (refine And.intro ?_ ?_; omega)
            | ((first | (refine ite_goB (fun h => ?_) (fun h => ?_) <;> (try exact absurd ((h : _ = false).symm.trans (by assumption : _ = true)) (by decide)) <;> (try exact absurd ((by assumption : _ = false).symm.trans (h : _ = true)) (by decide))) | (refine ite_go (fun h => ?_) (fun h => ?_) <;> (try exact absurd h (by assumption)) <;> (try exact absurd (by assumption) h))) <;> (try refine Hold_P ?_) <;> (try simp -dsimp only [h, go_sem, Nat.reduceLT, Nat.reduceLeDiff, Nat.reduceEqDiff, Nat.reduceAdd, Nat.reduceMul, Int.reduceNeg, Nat.reduceBEq, reduceCtorEq, ↓reduceIte]))
            | refine Exists.intro _ (Exists.intro _ (And.intro (And.intro rfl rfl) ?_))
          refine ⟨(without c1 (c1.getD b noTh).k, v1', em1', kd', cm ++ [⟨(c1.getD b noTh).k, 0, 0⟩], .imm, T1), by simp only; omega, ⟨A3, B3, D3, by simp only [List.length_append, List.length_singleton]; omega, ?_, fun t ht u hu => ?_⟩, Env.Sub_of_has (by simp [Env.Has, Env.get]), Store.Sub.refl _⟩
          · simp only [Keys]
            rw [List.pairwise_append]
            exact ⟨hkm, List.pairwise_singleton _ _, fun x hx y hy => by rw [List.mem_singleton] at hy; subst hy; exact hnk x hx⟩
          · have hu' := mem_without.1 hu
            rcases List.mem_append.1 ht with ht | ht
            · exact hdj t ht u hu'.1
            · rw [List.mem_singleton] at ht; subst ht; exact fun e => hu'.2 e.symm
    · rintro ⟨cm, km, T⟩ ⟨B, hcm⟩
      simp only at B hcm
      show W _ _ _ _ [(0, .sl kd (opL ops)), (4, .ptr p2 0 0), (6, .sl km (krs cm))] T
      repeat' first
        | refine W_seq ?_
        | refine W_block ?_
        | ((first | refine W_region (mu := []) ?_ | (refine W_region_any [] ⟨[], [], [], [], []⟩ mixedOrders_ok (by kernel_rfl) ?_; intro nu hn1 hn2) | refine fn_ret ?_ | refine fn_normal ?_ | refine Hold_P ?_ | refine prun_go ?_ | refine drun_go ?_); simp -dsimp only [go_sem, Nat.reduceLT, Nat.reduceLeDiff, Nat.reduceEqDiff, Nat.reduceAdd, Nat.reduceMul, Int.reduceNeg, Nat.reduceBEq, reduceCtorEq, ↓reduceIte])
        | (refine W_cond rfl (fun h => ?_) (fun h => ?_) <;> (try (cases h; done)))
        | refine W_ret ?_
        | refine W_skip ?_
        | refine W_exit ?_
        | refine then_normal ?_
        | refine then_ret ?_
        | refine then_exit ?_
        | refine inBlock_normal ?_
        | refine inBlock_ret ?_
        | refine inBlock_exit ?_
        | refine inBlock_ne (by decide) ?_
        | refine Hold_E ?_
        | (refine And.intro ?_ ?_; omega)
        | ((first | (refine ite_goB (fun h => ?_) (fun h => ?_) <;> (try exact absurd ((h : _ = false).symm.trans (by assumption : _ = true)) (by decide)) <;> (try exact absurd ((by assumption : _ = false).symm.trans (h : _ = true)) (by decide))) | (refine ite_go (fun h => ?_) (fun h => ?_) <;> (try exact absurd h (by assumption)) <;> (try exact absurd (by assumption) h))) <;> (try refine Hold_P ?_) <;> (try simp -dsimp only [h, go_sem, Nat.reduceLT, Nat.reduceLeDiff, Nat.reduceEqDiff, Nat.reduceAdd, Nat.reduceMul, Int.reduceNeg, Nat.reduceBEq, reduceCtorEq, ↓reduceIte]))
        | refine Exists.intro _ (Exists.intro _ (And.intro (And.intro rfl rfl) ?_))
        | (refine PCall_use (len_spec B) ?_; rintro _ _ ⟨rfl, hq⟩; obtain rfl := hq.symm; clear hq)
        | (refine Exists.intro _ (And.intro (fun _ => len_spec B) ?_))
        | (refine Exists.intro _ (And.intro (len_spec B) ?_))
        | (refine Exists.intro _ (Exists.intro _ (And.intro (len_spec B) ?_)))
      refine PCall_use (all_spec byRank_N lessN_spec B) ?_
      rintro _ T2 ⟨⟨k3, l, h1, rfl, _⟩, hq⟩
      obtain rfl := hq.symm
      clear hq
      have hll := h1.len B.srt
      have hz := h1.zero
      rw [hC] at hz
      have hio := inOrder_spec k3 kd l (by omega) ops N hN l hz
      have hll' : ((l.length : Int) = (C.length : Int)) = True := eq_true (by omega)
      have hcm' : ((C.length : Int) = (cm.length : Int)) = True := eq_true (by omega)
      by_cases hCn : C = []
      · subst hCn
        have hl0 : l = [] := List.eq_nil_of_length_eq_zero hll
        have hc0 : cm = [] := List.eq_nil_of_length_eq_zero hcm
        subst hl0
        subst hc0
        have e0 : (((0 : Nat) : Int) = 0) = True := by simp
        have e1 : decide (0 < ((0 : Nat) : Int)) = false := by simp
        repeat' first
          | refine W_seq ?_
          | refine W_block ?_
          | ((first | refine W_region (mu := []) ?_ | (refine W_region_any [] ⟨[], [], [], [], []⟩ mixedOrders_ok (by kernel_rfl) ?_; intro nu hn1 hn2) | refine fn_ret ?_ | refine fn_normal ?_ | refine Hold_P ?_ | refine prun_go ?_ | refine drun_go ?_); simp -dsimp only [go_sem, Nat.reduceLT, Nat.reduceLeDiff, Nat.reduceEqDiff, Nat.reduceAdd, Nat.reduceMul, Int.reduceNeg, Nat.reduceBEq, reduceCtorEq, ↓reduceIte, length_krs, length_strs, e0, e1])
          | (refine W_cond rfl (fun h => ?_) (fun h => ?_) <;> (try (cases h; done)))
          | refine W_ret ?_
          | refine W_skip ?_
          | refine W_exit ?_
          | refine then_normal ?_
          | refine then_ret ?_
          | refine then_exit ?_
          | refine inBlock_normal ?_
          | refine inBlock_ret ?_
          | refine inBlock_exit ?_
          | refine inBlock_ne (by decide) ?_
          | refine Hold_E ?_
          | (refine And.intro ?_ ?_; omega)
          | ((first | (refine ite_goB (fun h => ?_) (fun h => ?_) <;> (try exact absurd ((h : _ = false).symm.trans (by assumption : _ = true)) (by decide)) <;> (try exact absurd ((by assumption : _ = false).symm.trans (h : _ = true)) (by decide))) | (refine ite_go (fun h => ?_) (fun h => ?_) <;> (try exact absurd h (by assumption)) <;> (try exact absurd (by assumption) h))) <;> (try refine Hold_P ?_) <;> (try simp -dsimp only [h, go_sem, Nat.reduceLT, Nat.reduceLeDiff, Nat.reduceEqDiff, Nat.reduceAdd, Nat.reduceMul, Int.reduceNeg, Nat.reduceBEq, reduceCtorEq, ↓reduceIte, length_krs, length_strs, e0, e1]))
          | refine Exists.intro _ (Exists.intro _ (And.intro (And.intro rfl rfl) ?_))
          | (refine PCall_use (first_nil B) ?_; rintro _ _ ⟨rfl, hq⟩; obtain rfl := hq.symm; clear hq)
          | (refine Exists.intro _ (And.intro (fun _ => first_nil B) ?_))
          | (refine Exists.intro _ (And.intro (first_nil B) ?_))
          | (refine Exists.intro _ (Exists.intro _ (And.intro (first_nil B) ?_)))
          | (refine PCall_use (hio _) ?_; rintro _ _ ⟨rfl, hq⟩; obtain rfl := hq.symm; clear hq)
          | (refine Exists.intro _ (And.intro (fun _ => hio _) ?_))
          | (refine Exists.intro _ (And.intro (hio _) ?_))
          | (refine Exists.intro _ (Exists.intro _ (And.intro (hio _) ?_)))
          | (refine PCall_use (lives_spec _) ?_; rintro _ _ ⟨rfl, hq⟩; obtain rfl := hq.symm; clear hq)
          | (refine Exists.intro _ (And.intro (fun _ => lives_spec _) ?_))
          | (refine Exists.intro _ (And.intro (lives_spec _) ?_))
          | (refine Exists.intro _ (Exists.intro _ (And.intro (lives_spec _) ?_)))
        exact B.sub
      · obtain ⟨t, ht, hl, hF⟩ := first_some B hCn
        have hpos : 0 < C.length := List.length_pos_iff.2 hCn
        have e0 : ((C.length : Int) = 0) = False := eq_false (by omega)
        have e1 : decide (0 < (C.length : Int)) = true := decT (by omega)
        have hk : (strs l).getD 0 .any = .str t.k := by
          cases h1 with
          | nil => exact absurd rfl hCn
          | cons ht2 hl2 h =>
            have e := least_one B.srt ht ht2 hl hl2
            subst e
            rfl
        have q0 : ((0 : Int) < (l.length : Int)) = True := eq_true (by omega)
        repeat' first
          | refine W_seq ?_
          | refine W_block ?_
          | ((first | refine W_region (mu := []) ?_ | (refine W_region_any [] ⟨[], [], [], [], []⟩ mixedOrders_ok (by kernel_rfl) ?_; intro nu hn1 hn2) | refine fn_ret ?_ | refine fn_normal ?_ | refine Hold_P ?_ | refine prun_go ?_ | refine drun_go ?_); simp -dsimp only [go_sem, Nat.reduceLT, Nat.reduceLeDiff, Nat.reduceEqDiff, Nat.reduceAdd, Nat.reduceMul, Int.reduceNeg, Nat.reduceBEq, reduceCtorEq, ↓reduceIte, length_krs, length_strs, hll', hcm', e0, e1, hk, q0])
          | (refine W_cond rfl (fun h => ?_) (fun h => ?_) <;> (try (cases h; done)))
          | refine W_ret ?_
          | refine W_skip ?_
          | refine W_exit ?_
          | refine then_normal ?_
          | refine then_ret ?_
          | refine then_exit ?_
          | refine inBlock_normal ?_
          | refine inBlock_ret ?_
          | refine inBlock_exit ?_
          | refine inBlock_ne (by decide) ?_
          | refine Hold_E ?_
          | (refine And.intro ?_ ?_; omega)
          | ((first | (refine ite_goB (fun h => ?_) (fun h => ?_) <;> (try exact absurd ((h : _ = false).symm.trans (by assumption : _ = true)) (by decide)) <;> (try exact absurd ((by assumption : _ = false).symm.trans (h : _ = true)) (by decide))) | (refine ite_go (fun h => ?_) (fun h => ?_) <;> (try exact absurd h (by assumption)) <;> (try exact absurd (by assumption) h))) <;> (try refine Hold_P ?_) <;> (try simp -dsimp only [h, go_sem, Nat.reduceLT, Nat.reduceLeDiff, Nat.reduceEqDiff, Nat.reduceAdd, Nat.reduceMul, Int.reduceNeg, Nat.reduceBEq, reduceCtorEq, ↓reduceIte, length_krs, length_strs, hll', hcm', e0, e1, hk, q0]))
          | refine Exists.intro _ (Exists.intro _ (And.intro (And.intro rfl rfl) ?_))
          | (refine PCall_use (hF) ?_; rintro _ _ ⟨rfl, hq⟩; obtain rfl := hq.symm; clear hq)
          | (refine Exists.intro _ (And.intro (fun _ => hF) ?_))
          | (refine Exists.intro _ (And.intro (hF) ?_))
          | (refine Exists.intro _ (Exists.intro _ (And.intro (hF) ?_)))
          | (refine PCall_use (hio _) ?_; rintro _ _ ⟨rfl, hq⟩; obtain rfl := hq.symm; clear hq)
          | (refine Exists.intro _ (And.intro (fun _ => hio _) ?_))
          | (refine Exists.intro _ (And.intro (hio _) ?_))
          | (refine Exists.intro _ (Exists.intro _ (And.intro (hio _) ?_)))
          | (refine PCall_use (lives_spec _) ?_; rintro _ _ ⟨rfl, hq⟩; obtain rfl := hq.symm; clear hq)
          | (refine Exists.intro _ (And.intro (fun _ => lives_spec _) ?_))
          | (refine Exists.intro _ (And.intro (lives_spec _) ?_))
          | (refine Exists.intro _ (Exists.intro _ (And.intro (lives_spec _) ?_)))
        exact B.sub
end Go.Proofs.Ytoekaigdacaghaa
