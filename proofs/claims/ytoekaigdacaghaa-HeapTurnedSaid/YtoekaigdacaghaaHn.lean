/- The law HeapPlays, as a contract of the abstract layer. Conditions: none. -/
import Derived.Test.YtoekaigdacaghaaHm
set_option linter.unusedVariables false
set_option linter.unusedSimpArgs false
namespace Go.Proofs.Ytoekaigdacaghaa
open Go.Kern
set_option maxRecDepth 100000
set_option maxHeartbeats 4000000
attribute [local go_sem] drun_nil drun_cons prun_nil prun_cons dstOk ev ofConst leafOf Env.putO Env.get envOf readRs_nil oneRes nilSide SK.isNil isMu fillA partsFit boundA SK.cut SK.cutFull SK.fresh rowOk rowsOk_nil rowsOk_cons rowsOk_append rowsOk_ints splice oneOf keyKind zeroFits TK.agg AV.cells AV.known AV.one List.set_cons_zero List.set_cons_succ put_same put_put forall_const implies_true exists_eq_left exists_eq_left' exists_eq_right exists_eq Store.Sub.refl and_self Int.toNat_natCast length_ints List.length_map true_and and_true decide_true decide_false if_true if_false Bool.false_eq_true Bool.true_eq_false List.getElem?_cons_zero List.getElem?_cons_succ List.length_cons List.length_nil List.drop_zero List.drop_succ_cons List.take_succ_cons List.take_zero List.drop_nil List.take_nil List.append_nil List.map_cons List.map_nil List.cons_append List.nil_append beq_self_eq_true Bool.false_beq Bool.true_beq Bool.not_true Bool.not_false Option.map_some Option.map_none Option.bind_some ne_eq not_false_eq_true List.contains_cons List.contains_nil Bool.or_false Bool.or_true Bool.and_true Bool.and_false Bool.true_and Bool.false_and List.all_cons List.all_nil Nat.one_ne_zero Nat.zero_ne_one Option.isSome_some Option.isSome_none List.getElem?_toArray beq_true beq_false decide_eq_true_eq Int.toNat_zero forall_ints take_ints drop_ints Int.le_refl Int.natCast_nonneg Nat.zero_add Nat.add_zero or_true true_or false_or or_false
attribute [local go_sem ↓] allocN guardP OpSem callA readRs_cons readR binA intOpA strOpA nilOpA unA convA boxA allocA behind loadA buildA buildSliceA fieldAddrA fieldA indexAddrA indexA lenA sliceA extractA nilCheckA storeA lookupA mapSetA mapDelA makeSliceA appendA appendN apN
attribute [local irreducible] PCall W

theorem HS.weaken {σ σ' : Store} {ρ : Int → Int} {fi p m : Nat} {v : Option (Nat × Nat × List Th)} {c : List Th} {em : EM} {w : Int} {s : Store} (H : HS σ' ρ (.fn fi []) p m v c em w s) (hs : σ.Sub σ') : HS σ ρ (.fn fi []) p m v c em w s :=
  ⟨fun q x h => H.sub q x (hs q x h), Sub_fresh hs H.fh, Sub_fresh hs H.fm, H.hm, H.rm, H.lo, H.hi, H.srt, H.top, H.nil, fun o n ls e => by
    obtain ⟨h1, h2⟩ := H.row o n ls e
    exact ⟨Sub_fresh hs h1, h2⟩⟩

theorem plays_spec (kd : SK) (ops : List Op) (σ : Store) : PCall Try.prog 5 [.sl kd (opL ops)] σ (fun r t => r = .bool true ∧ t = σ) := by
  refine PCall_w [.tmp 2] 128 Try.func5 (by rfl) rfl rfl rfl rfl ?_
  repeat' first
    | refine W_seq ?_
    | refine W_block ?_
    | ((first | refine W_region (mu := []) ?_ | (refine W_region_any [] ⟨[], [], [], [], []⟩ mixedOrders_ok (by kernel_rfl) ?_; intro nu hn1 hn2) | refine fn_ret ?_ | refine fn_normal ?_ | refine Hold_P ?_ | refine prun_go ?_ | refine drun_go ?_); simp -dsimp only [go_sem, Nat.reduceLT, Nat.reduceLeDiff, Nat.reduceEqDiff, Nat.reduceAdd, Nat.reduceMul, Int.reduceNeg, Nat.reduceBEq, reduceCtorEq, ↓reduceIte])
    | (refine W_cond rfl (fun h => ?_) (fun h => ?_) <;> (try (cases h; done)))
    | refine W_ret ?_
    | refine W_skip ?_
    | refine W_exit ?_
    | refine then_normal ?_
    | refine then_ret ?_
    | refine then_exit ?_
    | refine inBlock_normal ?_
    | refine inBlock_ret ?_
    | refine inBlock_exit ?_
    | refine inBlock_ne (by decide) ?_
    | refine Hold_E ?_
    | (refine And.intro ?_ ?_; omega)
    | ((first | (refine ite_goB (fun h => ?_) (fun h => ?_) <;> (try exact absurd ((h : _ = false).symm.trans (by assumption : _ = true)) (by decide)) <;> (try exact absurd ((by assumption : _ = false).symm.trans (h : _ = true)) (by decide))) | (refine ite_go (fun h => ?_) (fun h => ?_) <;> (try exact absurd h (by assumption)) <;> (try exact absurd (by assumption) h))) <;> (try refine Hold_P ?_) <;> (try simp -dsimp only [h, go_sem, Nat.reduceLT, Nat.reduceLeDiff, Nat.reduceEqDiff, Nat.reduceAdd, Nat.reduceMul, Int.reduceNeg, Nat.reduceBEq, reduceCtorEq, ↓reduceIte]))
    | refine Exists.intro _ (Exists.intro _ (And.intro (And.intro rfl rfl) ?_))
  refine PCall_use (new_spec idr _ σ) ?_
  rintro _ s0 ⟨p, m, rfl, H0⟩
  repeat' first
    | refine W_seq ?_
    | refine W_block ?_
    | ((first | refine W_region (mu := []) ?_ | (refine W_region_any [] ⟨[], [], [], [], []⟩ mixedOrders_ok (by kernel_rfl) ?_; intro nu hn1 hn2) | refine fn_ret ?_ | refine fn_normal ?_ | refine Hold_P ?_ | refine prun_go ?_ | refine drun_go ?_); simp -dsimp only [go_sem, Nat.reduceLT, Nat.reduceLeDiff, Nat.reduceEqDiff, Nat.reduceAdd, Nat.reduceMul, Int.reduceNeg, Nat.reduceBEq, reduceCtorEq, ↓reduceIte])
    | (refine W_cond rfl (fun h => ?_) (fun h => ?_) <;> (try (cases h; done)))
    | refine W_ret ?_
    | refine W_skip ?_
    | refine W_exit ?_
    | refine then_normal ?_
    | refine then_ret ?_
    | refine then_exit ?_
    | refine inBlock_normal ?_
    | refine inBlock_ret ?_
    | refine inBlock_exit ?_
    | refine inBlock_ne (by decide) ?_
    | refine Hold_E ?_
    | (refine And.intro ?_ ?_; omega)
    | ((first | (refine ite_goB (fun h => ?_) (fun h => ?_) <;> (try exact absurd ((h : _ = false).symm.trans (by assumption : _ = true)) (by decide)) <;> (try exact absurd ((by assumption : _ = false).symm.trans (h : _ = true)) (by decide))) | (refine ite_go (fun h => ?_) (fun h => ?_) <;> (try exact absurd h (by assumption)) <;> (try exact absurd (by assumption) h))) <;> (try refine Hold_P ?_) <;> (try simp -dsimp only [h, go_sem, Nat.reduceLT, Nat.reduceLeDiff, Nat.reduceEqDiff, Nat.reduceAdd, Nat.reduceMul, Int.reduceNeg, Nat.reduceBEq, reduceCtorEq, ↓reduceIte]))
    | refine Exists.intro _ (Exists.intro _ (And.intro (And.intro rfl rfl) ?_))
  refine W_loop_st (fun a : Nat × Option (Nat × Nat × List Th) × List Th × EM × Int × SK × Store => [(0, .sl kd (opL ops)), (3, .ptr p 0 0), (4, .sl a.2.2.2.2.2.1 (krs a.2.2.1)), (5, .int .i64 a.1)]) (fun a => a.2.2.2.2.2.2)
    (fun a => a.1 ≤ ops.length ∧ a.1 ≤ 50 ∧ HS σ idr (.fn 23 []) p m a.2.1 a.2.2.1 a.2.2.2.1 a.2.2.2.2.1 a.2.2.2.2.2.2 ∧ a.2.2.2.2.1 ≤ a.1 ∧ a.2.2.1.length ≤ a.1) (fun a => ops.length - a.1) (0, none, [], [], 0, .nil, s0) ⟨Nat.zero_le _, by omega, H0, by simp, by simp⟩ (Env.Sub_of_has (by simp [Env.Has, Env.get, krs])) (Store.Sub.refl _) ?_
  rintro ⟨i, v, c, em, w, k2, T⟩ ⟨hi, hi50, H, hw, hcl⟩
  simp only at hi hi50 H hw hcl
  by_cases hlt : i < ops.length
  · have c0 : decide ((i : Int) < (ops.length : Int)) = true := decT (by omega)
    have q1 : ((i : Int) < (ops.length : Int)) = True := eq_true (by omega)
    have hx := getD_ops hlt
    have hsc := wrap_succ (show i < 4611686018427387904 by omega)
    by_cases h50 : i < 50
    · have c1 : decide ((i : Int) < 50) = true := decT (by omega)
      obtain ⟨op, hop⟩ : ∃ op, op = ops.getD i noOp := ⟨_, rfl⟩
      rw [← hop] at hx
      repeat' first
        | refine W_seq ?_
        | refine W_block ?_
        | ((first | refine W_region (mu := []) ?_ | (refine W_region_any [] ⟨[], [], [], [], []⟩ mixedOrders_ok (by kernel_rfl) ?_; intro nu hn1 hn2) | refine fn_ret ?_ | refine fn_normal ?_ | refine Hold_P ?_ | refine prun_go ?_ | refine drun_go ?_); simp -dsimp only [go_sem, Nat.reduceLT, Nat.reduceLeDiff, Nat.reduceEqDiff, Nat.reduceAdd, Nat.reduceMul, Int.reduceNeg, Nat.reduceBEq, reduceCtorEq, ↓reduceIte, length_ops, c0, c1, q1, hx])
        | (refine W_cond rfl (fun h => ?_) (fun h => ?_) <;> (try (cases h; done)))
        | refine W_ret ?_
        | refine W_skip ?_
        | refine W_exit ?_
        | refine then_normal ?_
        | refine then_ret ?_
        | refine then_exit ?_
        | refine inBlock_normal ?_
        | refine inBlock_ret ?_
        | refine inBlock_exit ?_
        | refine inBlock_ne (by decide) ?_
        | refine Hold_E ?_
        | (refine And.intro ?_ ?_; omega)
        | ((first | (refine ite_goB (fun h => ?_) (fun h => ?_) <;> (try exact absurd ((h : _ = false).symm.trans (by assumption : _ = true)) (by decide)) <;> (try exact absurd ((by assumption : _ = false).symm.trans (h : _ = true)) (by decide))) | (refine ite_go (fun h => ?_) (fun h => ?_) <;> (try exact absurd h (by assumption)) <;> (try exact absurd (by assumption) h))) <;> (try refine Hold_P ?_) <;> (try simp -dsimp only [h, go_sem, Nat.reduceLT, Nat.reduceLeDiff, Nat.reduceEqDiff, Nat.reduceAdd, Nat.reduceMul, Int.reduceNeg, Nat.reduceBEq, reduceCtorEq, ↓reduceIte, length_ops, c0, c1, q1, hx]))
        | refine Exists.intro _ (Exists.intro _ (And.intro (And.intro rfl rfl) ?_))
      intro o1 ho1
      have H1 := H.put_base (.arr [.agg [.int .i64 op.kind, .int .i64 op.r, .str op.k]]) (.inr ho1)
      have hso : σ o1 = none := Sub_fresh H.sub ho1
      have hss : σ.Sub (σ.put o1 (.arr [.agg [.int .i64 op.kind, .int .i64 op.r, .str op.k]])) := Sub_put (Store.Sub.refl _) hso _
      by_cases hli : op.k.size ≤ 200
      · have c2 := decT hli
        repeat' first
          | ((fail_if_success (first | show W _ _ (Code.seq (Code.region 10 _ _) _) _ _ _ | show W _ _ (Code.seq (Code.seq (Code.region 10 _ _) _) _) _ _ _)); refine W_seq ?_)
          | refine W_block ?_
          | ((first | refine W_region (mu := []) ?_ | (refine W_region_any [] ⟨[], [], [], [], []⟩ mixedOrders_ok (by kernel_rfl) ?_; intro nu hn1 hn2) | refine fn_ret ?_ | refine fn_normal ?_ | refine Hold_P ?_ | refine prun_go ?_ | refine drun_go ?_); simp -dsimp only [go_sem, Nat.reduceLT, Nat.reduceLeDiff, Nat.reduceEqDiff, Nat.reduceAdd, Nat.reduceMul, Int.reduceNeg, Nat.reduceBEq, reduceCtorEq, ↓reduceIte, c2, splice])
          | (refine W_cond rfl (fun h => ?_) (fun h => ?_) <;> (try (cases h; done)))
          | refine W_ret ?_
          | refine W_skip ?_
          | refine W_exit ?_
          | refine then_normal ?_
          | refine then_ret ?_
          | refine then_exit ?_
          | refine inBlock_normal ?_
          | refine inBlock_ret ?_
          | refine inBlock_exit ?_
          | refine inBlock_ne (by decide) ?_
          | refine Hold_E ?_
          | (refine And.intro ?_ ?_; omega)
          | ((first | (refine ite_goB (fun h => ?_) (fun h => ?_) <;> (try exact absurd ((h : _ = false).symm.trans (by assumption : _ = true)) (by decide)) <;> (try exact absurd ((by assumption : _ = false).symm.trans (h : _ = true)) (by decide))) | (refine ite_go (fun h => ?_) (fun h => ?_) <;> (try exact absurd h (by assumption)) <;> (try exact absurd (by assumption) h))) <;> (try refine Hold_P ?_) <;> (try simp -dsimp only [h, go_sem, Nat.reduceLT, Nat.reduceLeDiff, Nat.reduceEqDiff, Nat.reduceAdd, Nat.reduceMul, Int.reduceNeg, Nat.reduceBEq, reduceCtorEq, ↓reduceIte, c2, splice]))
          | refine Exists.intro _ (Exists.intro _ (And.intro (And.intro rfl rfl) ?_))
          | (refine PCall_use (light_spec _ _ _ _) ?_; rintro _ _ ⟨rfl, hq⟩; obtain rfl := hq.symm; clear hq)
          | (refine Exists.intro _ (And.intro (fun _ => light_spec _ _ _ _) ?_))
          | (refine Exists.intro _ (And.intro (light_spec _ _ _ _) ?_))
          | (refine Exists.intro _ (Exists.intro _ (And.intro (light_spec _ _ _ _) ?_)))
        refine W_midE (fun a : Option (Nat × Nat × List Th) × List Th × EM × Int × SK × Store => [(0, .sl kd (opL ops)), (3, .ptr p 0 0), (4, .sl a.2.2.2.2.1 (krs a.2.1)), (5, .int .i64 i), (6, .ptr o1 0 0), (7, .bool true)]) (fun a => a.2.2.2.2.2)
          (fun a => HS (σ.put o1 (.arr [.agg [.int .i64 op.kind, .int .i64 op.r, .str op.k]])) idr (.fn 23 []) p m a.1 a.2.1 a.2.2.1 a.2.2.2.1 a.2.2.2.2.2 ∧ a.2.2.2.1 ≤ i + 1 ∧ a.2.1.length ≤ i + 1) ?_ ?_
        · by_cases k0 : op.kind = 0
          · have e0 := decT k0
            repeat' first
              | refine W_seq ?_
              | refine W_block ?_
              | ((first | refine W_region (mu := []) ?_ | (refine W_region_any [] ⟨[], [], [], [], []⟩ mixedOrders_ok (by kernel_rfl) ?_; intro nu hn1 hn2) | refine fn_ret ?_ | refine fn_normal ?_ | refine Hold_P ?_ | refine prun_go ?_ | refine drun_go ?_); simp -dsimp only [go_sem, Nat.reduceLT, Nat.reduceLeDiff, Nat.reduceEqDiff, Nat.reduceAdd, Nat.reduceMul, Int.reduceNeg, Nat.reduceBEq, reduceCtorEq, ↓reduceIte, e0])
              | (refine W_cond rfl (fun h => ?_) (fun h => ?_) <;> (try (cases h; done)))
              | refine W_ret ?_
              | refine W_skip ?_
              | refine W_exit ?_
              | refine then_normal ?_
              | refine then_ret ?_
              | refine then_exit ?_
              | refine inBlock_normal ?_
              | refine inBlock_ret ?_
              | refine inBlock_exit ?_
              | refine inBlock_ne (by decide) ?_
              | refine Hold_E ?_
              | (refine And.intro ?_ ?_; omega)
              | ((first | (refine ite_goB (fun h => ?_) (fun h => ?_) <;> (try exact absurd ((h : _ = false).symm.trans (by assumption : _ = true)) (by decide)) <;> (try exact absurd ((by assumption : _ = false).symm.trans (h : _ = true)) (by decide))) | (refine ite_go (fun h => ?_) (fun h => ?_) <;> (try exact absurd h (by assumption)) <;> (try exact absurd (by assumption) h))) <;> (try refine Hold_P ?_) <;> (try simp -dsimp only [h, go_sem, Nat.reduceLT, Nat.reduceLeDiff, Nat.reduceEqDiff, Nat.reduceAdd, Nat.reduceMul, Int.reduceNeg, Nat.reduceBEq, reduceCtorEq, ↓reduceIte, e0]))
              | refine Exists.intro _ (Exists.intro _ (And.intro (And.intro rfl rfl) ?_))
            refine PCall_use (rset_spec k2 c (by omega) (Keys.of H.srt) op.k op.r (w + 1) _) ?_
            rintro _ T1 ⟨⟨kd', rfl⟩, hq⟩
            obtain rfl := hq.symm
            clear hq
            repeat' first
              | refine W_seq ?_
              | refine W_block ?_
              | ((first | refine W_region (mu := []) ?_ | (refine W_region_any [] ⟨[], [], [], [], []⟩ mixedOrders_ok (by kernel_rfl) ?_; intro nu hn1 hn2) | refine fn_ret ?_ | refine fn_normal ?_ | refine Hold_P ?_ | refine prun_go ?_ | refine drun_go ?_); simp -dsimp only [go_sem, Nat.reduceLT, Nat.reduceLeDiff, Nat.reduceEqDiff, Nat.reduceAdd, Nat.reduceMul, Int.reduceNeg, Nat.reduceBEq, reduceCtorEq, ↓reduceIte])
              | (refine W_cond rfl (fun h => ?_) (fun h => ?_) <;> (try (cases h; done)))
              | refine W_ret ?_
              | refine W_skip ?_
              | refine W_exit ?_
              | refine then_normal ?_
              | refine then_ret ?_
              | refine then_exit ?_
              | refine inBlock_normal ?_
              | refine inBlock_ret ?_
              | refine inBlock_exit ?_
              | refine inBlock_ne (by decide) ?_
              | refine Hold_E ?_
              | (refine And.intro ?_ ?_; omega)
              | ((first | (refine ite_goB (fun h => ?_) (fun h => ?_) <;> (try exact absurd ((h : _ = false).symm.trans (by assumption : _ = true)) (by decide)) <;> (try exact absurd ((by assumption : _ = false).symm.trans (h : _ = true)) (by decide))) | (refine ite_go (fun h => ?_) (fun h => ?_) <;> (try exact absurd h (by assumption)) <;> (try exact absurd (by assumption) h))) <;> (try refine Hold_P ?_) <;> (try simp -dsimp only [h, go_sem, Nat.reduceLT, Nat.reduceLeDiff, Nat.reduceEqDiff, Nat.reduceAdd, Nat.reduceMul, Int.reduceNeg, Nat.reduceBEq, reduceCtorEq, ↓reduceIte]))
              | refine Exists.intro _ (Exists.intro _ (And.intro (And.intro rfl rfl) ?_))
            refine PCall_use (set_spec byRank_I less_spec H1 (by omega) (by omega) op.k op.r) ?_
            rintro _ T' ⟨v', em', rfl, H'⟩
            repeat' first
              | refine W_seq ?_
              | refine W_block ?_
              | ((first | refine W_region (mu := []) ?_ | (refine W_region_any [] ⟨[], [], [], [], []⟩ mixedOrders_ok (by kernel_rfl) ?_; intro nu hn1 hn2) | refine fn_ret ?_ | refine fn_normal ?_ | refine Hold_P ?_ | refine prun_go ?_ | refine drun_go ?_); simp -dsimp only [go_sem, Nat.reduceLT, Nat.reduceLeDiff, Nat.reduceEqDiff, Nat.reduceAdd, Nat.reduceMul, Int.reduceNeg, Nat.reduceBEq, reduceCtorEq, ↓reduceIte])
              | (refine W_cond rfl (fun h => ?_) (fun h => ?_) <;> (try (cases h; done)))
              | refine W_ret ?_
              | refine W_skip ?_
              | refine W_exit ?_
              | refine then_normal ?_
              | refine then_ret ?_
              | refine then_exit ?_
              | refine inBlock_normal ?_
              | refine inBlock_ret ?_
              | refine inBlock_exit ?_
              | refine inBlock_ne (by decide) ?_
              | refine Hold_E ?_
              | (refine And.intro ?_ ?_; omega)
              | ((first | (refine ite_goB (fun h => ?_) (fun h => ?_) <;> (try exact absurd ((h : _ = false).symm.trans (by assumption : _ = true)) (by decide)) <;> (try exact absurd ((by assumption : _ = false).symm.trans (h : _ = true)) (by decide))) | (refine ite_go (fun h => ?_) (fun h => ?_) <;> (try exact absurd h (by assumption)) <;> (try exact absurd (by assumption) h))) <;> (try refine Hold_P ?_) <;> (try simp -dsimp only [h, go_sem, Nat.reduceLT, Nat.reduceLeDiff, Nat.reduceEqDiff, Nat.reduceAdd, Nat.reduceMul, Int.reduceNeg, Nat.reduceBEq, reduceCtorEq, ↓reduceIte]))
              | refine Exists.intro _ (Exists.intro _ (And.intro (And.intro rfl rfl) ?_))
            exact ⟨(v', without c op.k ++ [⟨op.k, op.r, w + 1⟩], em', w + 1, kd', T'), ⟨H', by simp only; omega, by simp only; rw [List.length_append]; exact Nat.add_le_add (Nat.le_trans (List.length_filter_le _ _) hcl) (Nat.le_refl _)⟩, Env.Sub_of_has (by simp [Env.Has, Env.get]), Store.Sub.refl _⟩
          · have e0 := decF k0
            by_cases k1 : op.kind = 1
            · have e1 := decT k1
              repeat' first
                | refine W_seq ?_
                | refine W_block ?_
                | ((first | refine W_region (mu := []) ?_ | (refine W_region_any [] ⟨[], [], [], [], []⟩ mixedOrders_ok (by kernel_rfl) ?_; intro nu hn1 hn2) | refine fn_ret ?_ | refine fn_normal ?_ | refine Hold_P ?_ | refine prun_go ?_ | refine drun_go ?_); simp -dsimp only [go_sem, Nat.reduceLT, Nat.reduceLeDiff, Nat.reduceEqDiff, Nat.reduceAdd, Nat.reduceMul, Int.reduceNeg, Nat.reduceBEq, reduceCtorEq, ↓reduceIte, e0, e1])
                | (refine W_cond rfl (fun h => ?_) (fun h => ?_) <;> (try (cases h; done)))
                | refine W_ret ?_
                | refine W_skip ?_
                | refine W_exit ?_
                | refine then_normal ?_
                | refine then_ret ?_
                | refine then_exit ?_
                | refine inBlock_normal ?_
                | refine inBlock_ret ?_
                | refine inBlock_exit ?_
                | refine inBlock_ne (by decide) ?_
                | refine Hold_E ?_
                | (refine And.intro ?_ ?_; omega)
                | ((first | (refine ite_goB (fun h => ?_) (fun h => ?_) <;> (try exact absurd ((h : _ = false).symm.trans (by assumption : _ = true)) (by decide)) <;> (try exact absurd ((by assumption : _ = false).symm.trans (h : _ = true)) (by decide))) | (refine ite_go (fun h => ?_) (fun h => ?_) <;> (try exact absurd h (by assumption)) <;> (try exact absurd (by assumption) h))) <;> (try refine Hold_P ?_) <;> (try simp -dsimp only [h, go_sem, Nat.reduceLT, Nat.reduceLeDiff, Nat.reduceEqDiff, Nat.reduceAdd, Nat.reduceMul, Int.reduceNeg, Nat.reduceBEq, reduceCtorEq, ↓reduceIte, e0, e1]))
                | refine Exists.intro _ (Exists.intro _ (And.intro (And.intro rfl rfl) ?_))
              refine PCall_use (rdrop_spec k2 c (by omega) (Keys.of H.srt) op.k _) ?_
              rintro _ T1 ⟨⟨kd', rfl⟩, hq⟩
              obtain rfl := hq.symm
              clear hq
              repeat' first
                | refine W_seq ?_
                | refine W_block ?_
                | ((first | refine W_region (mu := []) ?_ | (refine W_region_any [] ⟨[], [], [], [], []⟩ mixedOrders_ok (by kernel_rfl) ?_; intro nu hn1 hn2) | refine fn_ret ?_ | refine fn_normal ?_ | refine Hold_P ?_ | refine prun_go ?_ | refine drun_go ?_); simp -dsimp only [go_sem, Nat.reduceLT, Nat.reduceLeDiff, Nat.reduceEqDiff, Nat.reduceAdd, Nat.reduceMul, Int.reduceNeg, Nat.reduceBEq, reduceCtorEq, ↓reduceIte])
                | (refine W_cond rfl (fun h => ?_) (fun h => ?_) <;> (try (cases h; done)))
                | refine W_ret ?_
                | refine W_skip ?_
                | refine W_exit ?_
                | refine then_normal ?_
                | refine then_ret ?_
                | refine then_exit ?_
                | refine inBlock_normal ?_
                | refine inBlock_ret ?_
                | refine inBlock_exit ?_
                | refine inBlock_ne (by decide) ?_
                | refine Hold_E ?_
                | (refine And.intro ?_ ?_; omega)
                | ((first | (refine ite_goB (fun h => ?_) (fun h => ?_) <;> (try exact absurd ((h : _ = false).symm.trans (by assumption : _ = true)) (by decide)) <;> (try exact absurd ((by assumption : _ = false).symm.trans (h : _ = true)) (by decide))) | (refine ite_go (fun h => ?_) (fun h => ?_) <;> (try exact absurd h (by assumption)) <;> (try exact absurd (by assumption) h))) <;> (try refine Hold_P ?_) <;> (try simp -dsimp only [h, go_sem, Nat.reduceLT, Nat.reduceLeDiff, Nat.reduceEqDiff, Nat.reduceAdd, Nat.reduceMul, Int.reduceNeg, Nat.reduceBEq, reduceCtorEq, ↓reduceIte]))
                | refine Exists.intro _ (Exists.intro _ (And.intro (And.intro rfl rfl) ?_))
              refine PCall_use (drop_spec byRank_I less_spec H1 op.k) ?_
              rintro _ T' ⟨v', em', rfl, H'⟩
              repeat' first
                | refine W_seq ?_
                | refine W_block ?_
                | ((first | refine W_region (mu := []) ?_ | (refine W_region_any [] ⟨[], [], [], [], []⟩ mixedOrders_ok (by kernel_rfl) ?_; intro nu hn1 hn2) | refine fn_ret ?_ | refine fn_normal ?_ | refine Hold_P ?_ | refine prun_go ?_ | refine drun_go ?_); simp -dsimp only [go_sem, Nat.reduceLT, Nat.reduceLeDiff, Nat.reduceEqDiff, Nat.reduceAdd, Nat.reduceMul, Int.reduceNeg, Nat.reduceBEq, reduceCtorEq, ↓reduceIte])
                | (refine W_cond rfl (fun h => ?_) (fun h => ?_) <;> (try (cases h; done)))
                | refine W_ret ?_
                | refine W_skip ?_
                | refine W_exit ?_
                | refine then_normal ?_
                | refine then_ret ?_
                | refine then_exit ?_
                | refine inBlock_normal ?_
                | refine inBlock_ret ?_
                | refine inBlock_exit ?_
                | refine inBlock_ne (by decide) ?_
                | refine Hold_E ?_
                | (refine And.intro ?_ ?_; omega)
                | ((first | (refine ite_goB (fun h => ?_) (fun h => ?_) <;> (try exact absurd ((h : _ = false).symm.trans (by assumption : _ = true)) (by decide)) <;> (try exact absurd ((by assumption : _ = false).symm.trans (h : _ = true)) (by decide))) | (refine ite_go (fun h => ?_) (fun h => ?_) <;> (try exact absurd h (by assumption)) <;> (try exact absurd (by assumption) h))) <;> (try refine Hold_P ?_) <;> (try simp -dsimp only [h, go_sem, Nat.reduceLT, Nat.reduceLeDiff, Nat.reduceEqDiff, Nat.reduceAdd, Nat.reduceMul, Int.reduceNeg, Nat.reduceBEq, reduceCtorEq, ↓reduceIte]))
                | refine Exists.intro _ (Exists.intro _ (And.intro (And.intro rfl rfl) ?_))
              exact ⟨(v', without c op.k, em', w, kd', T'), ⟨H', by simp only; omega, Nat.le_trans (List.length_filter_le _ _) (by omega)⟩, Env.Sub_of_has (by simp [Env.Has, Env.get]), Store.Sub.refl _⟩
            · have e1 := decF k1
              by_cases k3 : op.kind = 2
              · have e2 := decT k3
                obtain ⟨b, hb, hF⟩ := rfirst_spec k2 c (by omega)
                by_cases hcn : c = []
                · subst hcn
                  have hb1 : b = -1 := by
                    rcases hb with ⟨_, h⟩ | ⟨n, _, h, _⟩
                    · exact h
                    · simp at h
                  subst hb1
                  have f0 : decide (0 ≤ (-1 : Int)) = false := by decide
                  repeat' first
                    | refine W_seq ?_
                    | refine W_block ?_
                    | ((first | refine W_region (mu := []) ?_ | (refine W_region_any [] ⟨[], [], [], [], []⟩ mixedOrders_ok (by kernel_rfl) ?_; intro nu hn1 hn2) | refine fn_ret ?_ | refine fn_normal ?_ | refine Hold_P ?_ | refine prun_go ?_ | refine drun_go ?_); simp -dsimp only [go_sem, Nat.reduceLT, Nat.reduceLeDiff, Nat.reduceEqDiff, Nat.reduceAdd, Nat.reduceMul, Int.reduceNeg, Nat.reduceBEq, reduceCtorEq, ↓reduceIte, e0, e1, e2, f0])
                    | (refine W_cond rfl (fun h => ?_) (fun h => ?_) <;> (try (cases h; done)))
                    | refine W_ret ?_
                    | refine W_skip ?_
                    | refine W_exit ?_
                    | refine then_normal ?_
                    | refine then_ret ?_
                    | refine then_exit ?_
                    | refine inBlock_normal ?_
                    | refine inBlock_ret ?_
                    | refine inBlock_exit ?_
                    | refine inBlock_ne (by decide) ?_
                    | refine Hold_E ?_
                    | (refine And.intro ?_ ?_; omega)
                    | ((first | (refine ite_goB (fun h => ?_) (fun h => ?_) <;> (try exact absurd ((h : _ = false).symm.trans (by assumption : _ = true)) (by decide)) <;> (try exact absurd ((by assumption : _ = false).symm.trans (h : _ = true)) (by decide))) | (refine ite_go (fun h => ?_) (fun h => ?_) <;> (try exact absurd h (by assumption)) <;> (try exact absurd (by assumption) h))) <;> (try refine Hold_P ?_) <;> (try simp -dsimp only [h, go_sem, Nat.reduceLT, Nat.reduceLeDiff, Nat.reduceEqDiff, Nat.reduceAdd, Nat.reduceMul, Int.reduceNeg, Nat.reduceBEq, reduceCtorEq, ↓reduceIte, e0, e1, e2, f0]))
                    | refine Exists.intro _ (Exists.intro _ (And.intro (And.intro rfl rfl) ?_))
                    | (refine PCall_use (pop_nil H1) ?_; rintro _ _ ⟨rfl, hq⟩; obtain rfl := hq.symm; clear hq)
                    | (refine Exists.intro _ (And.intro (fun _ => pop_nil H1) ?_))
                    | (refine Exists.intro _ (And.intro (pop_nil H1) ?_))
                    | (refine Exists.intro _ (Exists.intro _ (And.intro (pop_nil H1) ?_)))
                    | (refine PCall_use (hF _) ?_; rintro _ _ ⟨rfl, hq⟩; obtain rfl := hq.symm; clear hq)
                    | (refine Exists.intro _ (And.intro (fun _ => hF _) ?_))
                    | (refine Exists.intro _ (And.intro (hF _) ?_))
                    | (refine Exists.intro _ (Exists.intro _ (And.intro (hF _) ?_)))
                  exact ⟨(v, [], em, w, k2, _), ⟨H1, by simp only; omega, by simp⟩, Env.Sub_of_has (by simp [Env.Has, Env.get]), Store.Sub.refl _⟩
                · obtain ⟨t, ht, hl, hP⟩ := pop_some byRank_I less_spec H1 hcn
                  have hlen : 0 < c.length := List.length_pos_iff.2 hcn
                  obtain ⟨n, rfl⟩ : ∃ n : Nat, b = n := by
                    rcases hb with ⟨h, _⟩ | ⟨n, h, _⟩
                    · omega
                    · exact ⟨n, h⟩
                  obtain ⟨hn, hm, hl2⟩ := hb.least H.srt
                  have e := least_one H.srt ht hm hl hl2
                  subst e
                  have f0 : decide (0 ≤ (n : Int)) = true := decT (by omega)
                  have hxn := getD_krs hn
                  have q2 : ((n : Int) < (c.length : Int)) = True := eq_true (by omega)
                  repeat' first
                    | refine W_seq ?_
                    | refine W_block ?_
                    | ((first | refine W_region (mu := []) ?_ | (refine W_region_any [] ⟨[], [], [], [], []⟩ mixedOrders_ok (by kernel_rfl) ?_; intro nu hn1 hn2) | refine fn_ret ?_ | refine fn_normal ?_ | refine Hold_P ?_ | refine prun_go ?_ | refine drun_go ?_); simp -dsimp only [go_sem, Nat.reduceLT, Nat.reduceLeDiff, Nat.reduceEqDiff, Nat.reduceAdd, Nat.reduceMul, Int.reduceNeg, Nat.reduceBEq, reduceCtorEq, ↓reduceIte, e0, e1, e2])
                    | (refine W_cond rfl (fun h => ?_) (fun h => ?_) <;> (try (cases h; done)))
                    | refine W_ret ?_
                    | refine W_skip ?_
                    | refine W_exit ?_
                    | refine then_normal ?_
                    | refine then_ret ?_
                    | refine then_exit ?_
                    | refine inBlock_normal ?_
                    | refine inBlock_ret ?_
                    | refine inBlock_exit ?_
                    | refine inBlock_ne (by decide) ?_
                    | refine Hold_E ?_
                    | (refine And.intro ?_ ?_; omega)
                    | ((first | (refine ite_goB (fun h => ?_) (fun h => ?_) <;> (try exact absurd ((h : _ = false).symm.trans (by assumption : _ = true)) (by decide)) <;> (try exact absurd ((by assumption : _ = false).symm.trans (h : _ = true)) (by decide))) | (refine ite_go (fun h => ?_) (fun h => ?_) <;> (try exact absurd h (by assumption)) <;> (try exact absurd (by assumption) h))) <;> (try refine Hold_P ?_) <;> (try simp -dsimp only [h, go_sem, Nat.reduceLT, Nat.reduceLeDiff, Nat.reduceEqDiff, Nat.reduceAdd, Nat.reduceMul, Int.reduceNeg, Nat.reduceBEq, reduceCtorEq, ↓reduceIte, e0, e1, e2]))
                    | refine Exists.intro _ (Exists.intro _ (And.intro (And.intro rfl rfl) ?_))
                  refine PCall_use hP ?_
                  rintro _ T' ⟨v', em', rfl, H'⟩
                  repeat' first
                    | refine W_seq ?_
                    | refine W_block ?_
                    | ((first | refine W_region (mu := []) ?_ | (refine W_region_any [] ⟨[], [], [], [], []⟩ mixedOrders_ok (by kernel_rfl) ?_; intro nu hn1 hn2) | refine fn_ret ?_ | refine fn_normal ?_ | refine Hold_P ?_ | refine prun_go ?_ | refine drun_go ?_); simp -dsimp only [go_sem, Nat.reduceLT, Nat.reduceLeDiff, Nat.reduceEqDiff, Nat.reduceAdd, Nat.reduceMul, Int.reduceNeg, Nat.reduceBEq, reduceCtorEq, ↓reduceIte, f0, hxn, q2, length_krs])
                    | (refine W_cond rfl (fun h => ?_) (fun h => ?_) <;> (try (cases h; done)))
                    | refine W_ret ?_
                    | refine W_skip ?_
                    | refine W_exit ?_
                    | refine then_normal ?_
                    | refine then_ret ?_
                    | refine then_exit ?_
                    | refine inBlock_normal ?_
                    | refine inBlock_ret ?_
                    | refine inBlock_exit ?_
                    | refine inBlock_ne (by decide) ?_
                    | refine Hold_E ?_
                    | (refine And.intro ?_ ?_; omega)
                    | ((first | (refine ite_goB (fun h => ?_) (fun h => ?_) <;> (try exact absurd ((h : _ = false).symm.trans (by assumption : _ = true)) (by decide)) <;> (try exact absurd ((by assumption : _ = false).symm.trans (h : _ = true)) (by decide))) | (refine ite_go (fun h => ?_) (fun h => ?_) <;> (try exact absurd h (by assumption)) <;> (try exact absurd (by assumption) h))) <;> (try refine Hold_P ?_) <;> (try simp -dsimp only [h, go_sem, Nat.reduceLT, Nat.reduceLeDiff, Nat.reduceEqDiff, Nat.reduceAdd, Nat.reduceMul, Int.reduceNeg, Nat.reduceBEq, reduceCtorEq, ↓reduceIte, f0, hxn, q2, length_krs]))
                    | refine Exists.intro _ (Exists.intro _ (And.intro (And.intro rfl rfl) ?_))
                    | (refine PCall_use (hF _) ?_; rintro _ _ ⟨rfl, hq⟩; obtain rfl := hq.symm; clear hq)
                    | (refine Exists.intro _ (And.intro (fun _ => hF _) ?_))
                    | (refine Exists.intro _ (And.intro (hF _) ?_))
                    | (refine Exists.intro _ (Exists.intro _ (And.intro (hF _) ?_)))
                  refine PCall_use (rdrop_spec k2 c (by omega) (Keys.of H.srt) (c.getD n noTh).k _) ?_
                  rintro _ T1 ⟨⟨kd', rfl⟩, hq⟩
                  obtain rfl := hq.symm
                  clear hq
                  repeat' first
                    | refine W_seq ?_
                    | refine W_block ?_
                    | ((first | refine W_region (mu := []) ?_ | (refine W_region_any [] ⟨[], [], [], [], []⟩ mixedOrders_ok (by kernel_rfl) ?_; intro nu hn1 hn2) | refine fn_ret ?_ | refine fn_normal ?_ | refine Hold_P ?_ | refine prun_go ?_ | refine drun_go ?_); simp -dsimp only [go_sem, Nat.reduceLT, Nat.reduceLeDiff, Nat.reduceEqDiff, Nat.reduceAdd, Nat.reduceMul, Int.reduceNeg, Nat.reduceBEq, reduceCtorEq, ↓reduceIte])
                    | (refine W_cond rfl (fun h => ?_) (fun h => ?_) <;> (try (cases h; done)))
                    | refine W_ret ?_
                    | refine W_skip ?_
                    | refine W_exit ?_
                    | refine then_normal ?_
                    | refine then_ret ?_
                    | refine then_exit ?_
                    | refine inBlock_normal ?_
                    | refine inBlock_ret ?_
                    | refine inBlock_exit ?_
                    | refine inBlock_ne (by decide) ?_
                    | refine Hold_E ?_
                    | (refine And.intro ?_ ?_; omega)
                    | ((first | (refine ite_goB (fun h => ?_) (fun h => ?_) <;> (try exact absurd ((h : _ = false).symm.trans (by assumption : _ = true)) (by decide)) <;> (try exact absurd ((by assumption : _ = false).symm.trans (h : _ = true)) (by decide))) | (refine ite_go (fun h => ?_) (fun h => ?_) <;> (try exact absurd h (by assumption)) <;> (try exact absurd (by assumption) h))) <;> (try refine Hold_P ?_) <;> (try simp -dsimp only [h, go_sem, Nat.reduceLT, Nat.reduceLeDiff, Nat.reduceEqDiff, Nat.reduceAdd, Nat.reduceMul, Int.reduceNeg, Nat.reduceBEq, reduceCtorEq, ↓reduceIte]))
                    | refine Exists.intro _ (Exists.intro _ (And.intro (And.intro rfl rfl) ?_))
                  exact ⟨(v', without c (c.getD n noTh).k, em', w, kd', T'), ⟨H', by simp only; omega, Nat.le_trans (List.length_filter_le _ _) (by omega)⟩, Env.Sub_of_has (by simp [Env.Has, Env.get]), Store.Sub.refl _⟩
              · have e2 := decF k3
                repeat' first
                  | refine W_seq ?_
                  | refine W_block ?_
                  | ((first | refine W_region (mu := []) ?_ | (refine W_region_any [] ⟨[], [], [], [], []⟩ mixedOrders_ok (by kernel_rfl) ?_; intro nu hn1 hn2) | refine fn_ret ?_ | refine fn_normal ?_ | refine Hold_P ?_ | refine prun_go ?_ | refine drun_go ?_); simp -dsimp only [go_sem, Nat.reduceLT, Nat.reduceLeDiff, Nat.reduceEqDiff, Nat.reduceAdd, Nat.reduceMul, Int.reduceNeg, Nat.reduceBEq, reduceCtorEq, ↓reduceIte, e0, e1, e2])
                  | (refine W_cond rfl (fun h => ?_) (fun h => ?_) <;> (try (cases h; done)))
                  | refine W_ret ?_
                  | refine W_skip ?_
                  | refine W_exit ?_
                  | refine then_normal ?_
                  | refine then_ret ?_
                  | refine then_exit ?_
                  | refine inBlock_normal ?_
                  | refine inBlock_ret ?_
                  | refine inBlock_exit ?_
                  | refine inBlock_ne (by decide) ?_
                  | refine Hold_E ?_
                  | (refine And.intro ?_ ?_; omega)
                  | ((first | (refine ite_goB (fun h => ?_) (fun h => ?_) <;> (try exact absurd ((h : _ = false).symm.trans (by assumption : _ = true)) (by decide)) <;> (try exact absurd ((by assumption : _ = false).symm.trans (h : _ = true)) (by decide))) | (refine ite_go (fun h => ?_) (fun h => ?_) <;> (try exact absurd h (by assumption)) <;> (try exact absurd (by assumption) h))) <;> (try refine Hold_P ?_) <;> (try simp -dsimp only [h, go_sem, Nat.reduceLT, Nat.reduceLeDiff, Nat.reduceEqDiff, Nat.reduceAdd, Nat.reduceMul, Int.reduceNeg, Nat.reduceBEq, reduceCtorEq, ↓reduceIte, e0, e1, e2]))
                  | refine Exists.intro _ (Exists.intro _ (And.intro (And.intro rfl rfl) ?_))
                exact ⟨(v, c, em, w, k2, _), ⟨H1, by simp only; omega, by simp only; omega⟩, Env.Sub_of_has (by simp [Env.Has, Env.get]), Store.Sub.refl _⟩
        · rintro ⟨v', c', em', w', k2', T'⟩ ⟨H', hw', hcl'⟩
          simp only at H' hw' hcl'
          show W _ _ _ _ [(0, .sl kd (opL ops)), (3, .ptr p 0 0), (4, .sl k2' (krs c')), (5, .int .i64 i), (6, .ptr o1 0 0), (7, .bool true)] T'
          have hr := H'.sub _ _ (put_same σ o1 _)
          repeat' first
            | refine W_seq ?_
            | refine W_block ?_
            | ((first | refine W_region (mu := []) ?_ | (refine W_region_any [] ⟨[], [], [], [], []⟩ mixedOrders_ok (by kernel_rfl) ?_; intro nu hn1 hn2) | refine fn_ret ?_ | refine fn_normal ?_ | refine Hold_P ?_ | refine prun_go ?_ | refine drun_go ?_); simp -dsimp only [go_sem, Nat.reduceLT, Nat.reduceLeDiff, Nat.reduceEqDiff, Nat.reduceAdd, Nat.reduceMul, Int.reduceNeg, Nat.reduceBEq, reduceCtorEq, ↓reduceIte, hr])
            | (refine W_cond rfl (fun h => ?_) (fun h => ?_) <;> (try (cases h; done)))
            | refine W_ret ?_
            | refine W_skip ?_
            | refine W_exit ?_
            | refine then_normal ?_
            | refine then_ret ?_
            | refine then_exit ?_
            | refine inBlock_normal ?_
            | refine inBlock_ret ?_
            | refine inBlock_exit ?_
            | refine inBlock_ne (by decide) ?_
            | refine Hold_E ?_
            | (refine And.intro ?_ ?_; omega)
            | ((first | (refine ite_goB (fun h => ?_) (fun h => ?_) <;> (try exact absurd ((h : _ = false).symm.trans (by assumption : _ = true)) (by decide)) <;> (try exact absurd ((by assumption : _ = false).symm.trans (h : _ = true)) (by decide))) | (refine ite_go (fun h => ?_) (fun h => ?_) <;> (try exact absurd h (by assumption)) <;> (try exact absurd (by assumption) h))) <;> (try refine Hold_P ?_) <;> (try simp -dsimp only [h, go_sem, Nat.reduceLT, Nat.reduceLeDiff, Nat.reduceEqDiff, Nat.reduceAdd, Nat.reduceMul, Int.reduceNeg, Nat.reduceBEq, reduceCtorEq, ↓reduceIte, hr]))
            | refine Exists.intro _ (Exists.intro _ (And.intro (And.intro rfl rfl) ?_))
            | (refine PCall_use (alike_spec H' k2' (by omega) op.k) ?_; rintro _ _ ⟨rfl, hq⟩; obtain rfl := hq.symm; clear hq)
            | (refine Exists.intro _ (And.intro (fun _ => alike_spec H' k2' (by omega) op.k) ?_))
            | (refine Exists.intro _ (And.intro (alike_spec H' k2' (by omega) op.k) ?_))
            | (refine Exists.intro _ (Exists.intro _ (And.intro (alike_spec H' k2' (by omega) op.k) ?_)))
          exact ⟨(i + 1, v', c', em', w', k2', T'), by simp only; omega, ⟨by simp only; omega, by simp only; omega, H'.weaken hss, by simp only; omega, by simp only; omega⟩, Env.Sub_of_has (by simp [Env.Has, Env.get, hsc]), Store.Sub.refl _⟩
      · have c2 := decF hli
        repeat' first
          | refine W_seq ?_
          | refine W_block ?_
          | ((first | refine W_region (mu := []) ?_ | (refine W_region_any [] ⟨[], [], [], [], []⟩ mixedOrders_ok (by kernel_rfl) ?_; intro nu hn1 hn2) | refine fn_ret ?_ | refine fn_normal ?_ | refine Hold_P ?_ | refine prun_go ?_ | refine drun_go ?_); simp -dsimp only [go_sem, Nat.reduceLT, Nat.reduceLeDiff, Nat.reduceEqDiff, Nat.reduceAdd, Nat.reduceMul, Int.reduceNeg, Nat.reduceBEq, reduceCtorEq, ↓reduceIte, c2, splice])
          | (refine W_cond rfl (fun h => ?_) (fun h => ?_) <;> (try (cases h; done)))
          | refine W_ret ?_
          | refine W_skip ?_
          | refine W_exit ?_
          | refine then_normal ?_
          | refine then_ret ?_
          | refine then_exit ?_
          | refine inBlock_normal ?_
          | refine inBlock_ret ?_
          | refine inBlock_exit ?_
          | refine inBlock_ne (by decide) ?_
          | refine Hold_E ?_
          | (refine And.intro ?_ ?_; omega)
          | ((first | (refine ite_goB (fun h => ?_) (fun h => ?_) <;> (try exact absurd ((h : _ = false).symm.trans (by assumption : _ = true)) (by decide)) <;> (try exact absurd ((by assumption : _ = false).symm.trans (h : _ = true)) (by decide))) | (refine ite_go (fun h => ?_) (fun h => ?_) <;> (try exact absurd h (by assumption)) <;> (try exact absurd (by assumption) h))) <;> (try refine Hold_P ?_) <;> (try simp -dsimp only [h, go_sem, Nat.reduceLT, Nat.reduceLeDiff, Nat.reduceEqDiff, Nat.reduceAdd, Nat.reduceMul, Int.reduceNeg, Nat.reduceBEq, reduceCtorEq, ↓reduceIte, c2, splice]))
          | refine Exists.intro _ (Exists.intro _ (And.intro (And.intro rfl rfl) ?_))
          | (refine PCall_use (light_spec _ _ _ _) ?_; rintro _ _ ⟨rfl, hq⟩; obtain rfl := hq.symm; clear hq)
          | (refine Exists.intro _ (And.intro (fun _ => light_spec _ _ _ _) ?_))
          | (refine Exists.intro _ (And.intro (light_spec _ _ _ _) ?_))
          | (refine Exists.intro _ (Exists.intro _ (And.intro (light_spec _ _ _ _) ?_)))
          | (refine PCall_use (lives_spec _) ?_; rintro _ _ ⟨rfl, hq⟩; obtain rfl := hq.symm; clear hq)
          | (refine Exists.intro _ (And.intro (fun _ => lives_spec _) ?_))
          | (refine Exists.intro _ (And.intro (lives_spec _) ?_))
          | (refine Exists.intro _ (Exists.intro _ (And.intro (lives_spec _) ?_)))
        exact (H1.weaken hss).sub
    · have c1 : decide ((i : Int) < 50) = false := decF (by omega)
      repeat' first
        | refine W_seq ?_
        | refine W_block ?_
        | ((first | refine W_region (mu := []) ?_ | (refine W_region_any [] ⟨[], [], [], [], []⟩ mixedOrders_ok (by kernel_rfl) ?_; intro nu hn1 hn2) | refine fn_ret ?_ | refine fn_normal ?_ | refine Hold_P ?_ | refine prun_go ?_ | refine drun_go ?_); simp -dsimp only [go_sem, Nat.reduceLT, Nat.reduceLeDiff, Nat.reduceEqDiff, Nat.reduceAdd, Nat.reduceMul, Int.reduceNeg, Nat.reduceBEq, reduceCtorEq, ↓reduceIte, length_ops, c0, c1])
        | (refine W_cond rfl (fun h => ?_) (fun h => ?_) <;> (try (cases h; done)))
        | refine W_ret ?_
        | refine W_skip ?_
        | refine W_exit ?_
        | refine then_normal ?_
        | refine then_ret ?_
        | refine then_exit ?_
        | refine inBlock_normal ?_
        | refine inBlock_ret ?_
        | refine inBlock_exit ?_
        | refine inBlock_ne (by decide) ?_
        | refine Hold_E ?_
        | (refine And.intro ?_ ?_; omega)
        | ((first | (refine ite_goB (fun h => ?_) (fun h => ?_) <;> (try exact absurd ((h : _ = false).symm.trans (by assumption : _ = true)) (by decide)) <;> (try exact absurd ((by assumption : _ = false).symm.trans (h : _ = true)) (by decide))) | (refine ite_go (fun h => ?_) (fun h => ?_) <;> (try exact absurd h (by assumption)) <;> (try exact absurd (by assumption) h))) <;> (try refine Hold_P ?_) <;> (try simp -dsimp only [h, go_sem, Nat.reduceLT, Nat.reduceLeDiff, Nat.reduceEqDiff, Nat.reduceAdd, Nat.reduceMul, Int.reduceNeg, Nat.reduceBEq, reduceCtorEq, ↓reduceIte, length_ops, c0, c1]))
        | refine Exists.intro _ (Exists.intro _ (And.intro (And.intro rfl rfl) ?_))
        | (refine PCall_use (lives_spec _) ?_; rintro _ _ ⟨rfl, hq⟩; obtain rfl := hq.symm; clear hq)
        | (refine Exists.intro _ (And.intro (fun _ => lives_spec _) ?_))
        | (refine Exists.intro _ (And.intro (lives_spec _) ?_))
        | (refine Exists.intro _ (Exists.intro _ (And.intro (lives_spec _) ?_)))
      exact H.sub
  · have c0 : decide ((i : Int) < (ops.length : Int)) = false := decF (by omega)
    repeat' first
      | refine W_seq ?_
      | refine W_block ?_
      | ((first | refine W_region (mu := []) ?_ | (refine W_region_any [] ⟨[], [], [], [], []⟩ mixedOrders_ok (by kernel_rfl) ?_; intro nu hn1 hn2) | refine fn_ret ?_ | refine fn_normal ?_ | refine Hold_P ?_ | refine prun_go ?_ | refine drun_go ?_); simp -dsimp only [go_sem, Nat.reduceLT, Nat.reduceLeDiff, Nat.reduceEqDiff, Nat.reduceAdd, Nat.reduceMul, Int.reduceNeg, Nat.reduceBEq, reduceCtorEq, ↓reduceIte, length_ops, c0])
      | (refine W_cond rfl (fun h => ?_) (fun h => ?_) <;> (try (cases h; done)))
      | refine W_ret ?_
      | refine W_skip ?_
      | refine W_exit ?_
      | refine then_normal ?_
      | refine then_ret ?_
      | refine then_exit ?_
      | refine inBlock_normal ?_
      | refine inBlock_ret ?_
      | refine inBlock_exit ?_
      | refine inBlock_ne (by decide) ?_
      | refine Hold_E ?_
      | (refine And.intro ?_ ?_; omega)
      | ((first | (refine ite_goB (fun h => ?_) (fun h => ?_) <;> (try exact absurd ((h : _ = false).symm.trans (by assumption : _ = true)) (by decide)) <;> (try exact absurd ((by assumption : _ = false).symm.trans (h : _ = true)) (by decide))) | (refine ite_go (fun h => ?_) (fun h => ?_) <;> (try exact absurd h (by assumption)) <;> (try exact absurd (by assumption) h))) <;> (try refine Hold_P ?_) <;> (try simp -dsimp only [h, go_sem, Nat.reduceLT, Nat.reduceLeDiff, Nat.reduceEqDiff, Nat.reduceAdd, Nat.reduceMul, Int.reduceNeg, Nat.reduceBEq, reduceCtorEq, ↓reduceIte, length_ops, c0]))
      | refine Exists.intro _ (Exists.intro _ (And.intro (And.intro rfl rfl) ?_))
      | (refine PCall_use (lives_spec _) ?_; rintro _ _ ⟨rfl, hq⟩; obtain rfl := hq.symm; clear hq)
      | (refine Exists.intro _ (And.intro (fun _ => lives_spec _) ?_))
      | (refine Exists.intro _ (And.intro (lives_spec _) ?_))
      | (refine Exists.intro _ (Exists.intro _ (And.intro (lives_spec _) ?_)))
    exact H.sub
end Go.Proofs.Ytoekaigdacaghaa
