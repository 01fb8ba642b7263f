/- Contracts of the document's answer: ref09.Compare, ref18.less, ref18.Compare. Conditions: none. -/
import Derived.Test.YtlbhhoojbokblaaAj
set_option linter.unusedVariables false
set_option linter.unusedSimpArgs false
namespace Go.Proofs.Ytlbhhoojbokblaa
open Go.Kern
set_option maxRecDepth 100000
set_option maxHeartbeats 4000000
attribute [local go_sem] drun_nil drun_cons prun_nil prun_cons wrOk tqOk lateOp lateB dstOk ev ofConst leafOf Env.putO Env.get envOf readRs_nil oneRes nilSide SK.isNil isMu fillA partsFit boundA SK.cut SK.cutFull SK.fresh rowOk rowsOk_nil rowsOk_cons rowsOk_append rowsOk_ints splice oneOf keyKind cellsKind cellKind cellsB cellB zeroFits TK.agg AV.cells AV.known AV.one List.set_cons_zero List.set_cons_succ put_same put_put forall_const implies_true exists_eq_left exists_eq_left' exists_eq_right exists_eq Store.Sub.refl and_self Int.toNat_natCast length_ints List.length_map true_and and_true decide_true decide_false if_true if_false Bool.false_eq_true Bool.true_eq_false List.getElem?_cons_zero List.getElem?_cons_succ List.length_cons List.length_nil List.drop_zero List.drop_succ_cons List.take_succ_cons List.take_zero List.drop_nil List.take_nil List.append_nil List.map_cons List.map_nil List.cons_append List.nil_append beq_self_eq_true Bool.false_beq Bool.true_beq Bool.not_true Bool.not_false Option.map_some Option.map_none Option.bind_some ne_eq not_false_eq_true List.contains_cons List.contains_nil Bool.or_false Bool.or_true Bool.and_true Bool.and_false Bool.true_and Bool.false_and List.all_cons List.all_nil Nat.one_ne_zero Nat.zero_ne_one Option.isSome_some Option.isSome_none List.getElem?_toArray beq_true beq_false decide_eq_true_eq Int.toNat_zero forall_ints take_ints drop_ints Int.le_refl Int.natCast_nonneg Nat.zero_add Nat.add_zero or_true true_or false_or or_false
attribute [local go_sem ↓] allocN guardP OpSem callA readRs_cons readR binA intOpA strOpA nilOpA unA convA boxA allocA behind loadA buildA buildSliceA fieldAddrA fieldA indexAddrA indexA lenA sliceA extractA nilCheckA storeA lookupA mapSetA mapDelA makeSliceA appendA appendN apN
attribute [local irreducible] PCall W

def attrL (a b : Attr) : List Int := [cmpZ a.Pref b.Pref, cmpZ a.Med b.Med, cmpZ a.Origin b.Origin, pathCmp a.Path b.Path, commsCmp a.Comms b.Comms, cmpZ a.From b.From, pathCmp a.Clusters b.Clusters]

theorem ref09_spec (a b : Attr) (ha : a.Fits) (hb : b.Fits) (σ : Store) :
    PCall Try.prog 35 [.agg [.int .i64 a.Pref, .int .i64 a.Med, .int .i64 a.Origin, .sl a.kP (ints a.Path), .sl a.kC (comms a.Comms), .int .i64 a.From, .sl a.kK (ints a.Clusters)],
      .agg [.int .i64 b.Pref, .int .i64 b.Med, .int .i64 b.Origin, .sl b.kP (ints b.Path), .sl b.kC (comms b.Comms), .int .i64 b.From, .sl b.kK (ints b.Clusters)]] σ (fun r s => r = .int .i64 (attrCmp a b) ∧ s = σ) := by
  obtain ⟨h1, h2, h3⟩ := ha
  obtain ⟨g1, g2, g3⟩ := hb
  have hE : attrCmp a b = orZ ((attrL a b).drop 0) := rfl
  have hlen : (attrL a b).length = 7 := rfl
  refine PCall_q [.tmp 4] 58 Try.func35 (by rfl) rfl rfl rfl rfl ?_
  repeat' first
    | refine W_seq ?_
    | refine W_block ?_
    | ((first | refine W_region (mu := []) ?_ | (refine W_region_any [] ⟨[], [], [], [], [], [], 0⟩ mixedOrders_ok (by kernel_rfl) ?_; intro nu hn1 hn2) | refine fn_ret ?_ | refine fn_normal ?_ | refine Hold_P ?_ | refine prun_go ?_ | refine drun_go ?_); simp -dsimp only [go_sem, Nat.reduceLT, Nat.reduceLeDiff, Nat.reduceEqDiff, Nat.reduceAdd, Nat.reduceMul, Int.reduceNeg, Nat.reduceBEq, reduceCtorEq, ↓reduceIte])
    | (refine W_cond rfl (fun h => ?_) (fun h => ?_) <;> (try (cases h; done)))
    | refine W_ret ?_
    | refine W_skip ?_
    | refine W_exit ?_
    | refine then_normal ?_
    | refine then_ret ?_
    | refine then_exit ?_
    | refine inBlock_normal ?_
    | refine inBlock_ret ?_
    | refine inBlock_exit ?_
    | refine inBlock_ne (by decide) ?_
    | refine Hold_E ?_
    | (refine And.intro ?_ ?_; omega)
    | ((first | (refine ite_goB (fun h => ?_) (fun h => ?_) <;> (try exact absurd ((h : _ = false).symm.trans (by assumption : _ = true)) (by decide)) <;> (try exact absurd ((by assumption : _ = false).symm.trans (h : _ = true)) (by decide))) | (refine ite_go (fun h => ?_) (fun h => ?_) <;> (try exact absurd h (by assumption)) <;> (try exact absurd (by assumption) h))) <;> (try refine Hold_P ?_) <;> (try simp -dsimp only [h, go_sem, Nat.reduceLT, Nat.reduceLeDiff, Nat.reduceEqDiff, Nat.reduceAdd, Nat.reduceMul, Int.reduceNeg, Nat.reduceBEq, reduceCtorEq, ↓reduceIte]))
    | refine Exists.intro _ (Exists.intro _ (And.intro (And.intro rfl rfl) ?_))
    | (refine PCall_use (sign_spec _ _ _) ?_; rintro _ _ ⟨rfl, hq⟩; obtain rfl := hq.symm; clear hq)
    | (refine Exists.intro _ (And.intro (fun _ => sign_spec _ _ _) ?_))
    | (refine Exists.intro _ (And.intro (sign_spec _ _ _) ?_))
    | (refine Exists.intro _ (Exists.intro _ (And.intro (sign_spec _ _ _) ?_)))
    | (refine PCall_use (ref04_spec _ _ a.Path b.Path h1 g1 _) ?_; rintro _ _ ⟨rfl, hq⟩; obtain rfl := hq.symm; clear hq)
    | (refine Exists.intro _ (And.intro (fun _ => ref04_spec _ _ a.Path b.Path h1 g1 _) ?_))
    | (refine Exists.intro _ (And.intro (ref04_spec _ _ a.Path b.Path h1 g1 _) ?_))
    | (refine Exists.intro _ (Exists.intro _ (And.intro (ref04_spec _ _ a.Path b.Path h1 g1 _) ?_)))
    | (refine PCall_use (ref03_spec _ _ _ _ h2 g2 _) ?_; rintro _ _ ⟨rfl, hq⟩; obtain rfl := hq.symm; clear hq)
    | (refine Exists.intro _ (And.intro (fun _ => ref03_spec _ _ _ _ h2 g2 _) ?_))
    | (refine Exists.intro _ (And.intro (ref03_spec _ _ _ _ h2 g2 _) ?_))
    | (refine Exists.intro _ (Exists.intro _ (And.intro (ref03_spec _ _ _ _ h2 g2 _) ?_)))
    | (refine PCall_use (ref04_spec _ _ a.Clusters b.Clusters h3 g3 _) ?_; rintro _ _ ⟨rfl, hq⟩; obtain rfl := hq.symm; clear hq)
    | (refine Exists.intro _ (And.intro (fun _ => ref04_spec _ _ a.Clusters b.Clusters h3 g3 _) ?_))
    | (refine Exists.intro _ (And.intro (ref04_spec _ _ a.Clusters b.Clusters h3 g3 _) ?_))
    | (refine Exists.intro _ (Exists.intro _ (And.intro (ref04_spec _ _ a.Clusters b.Clusters h3 g3 _) ?_)))
  refine W_loop_st (fun i : Nat => [(5, .sl .full (ints (attrL a b))), (6, .int .i64 i)]) (fun _ => σ) (fun i => i ≤ 7 ∧ attrCmp a b = orZ ((attrL a b).drop i)) (fun i => 7 - i) 0 ⟨Nat.zero_le _, hE⟩ (Env.Sub_of_has (by simp [Env.Has, Env.get, ints, attrL])) (Store.Sub.refl _) ?_
  rintro i ⟨hi, hor⟩
  by_cases hlt : i < 7
  · have hx := getD_ints (l := attrL a b) (i := i) (by omega)
    have hd : ((i : Int) < (7 : Nat)) = True := by simp; omega
    have ho := orZ_drop (attrL a b) i (by omega)
    by_cases hz : (attrL a b).getD i 0 = 0
    · have hz' := eq_true hz
      rw [if_pos hz] at ho
      repeat' first
        | refine W_seq ?_
        | refine W_block ?_
        | ((first | refine W_region (mu := []) ?_ | (refine W_region_any [] ⟨[], [], [], [], [], [], 0⟩ mixedOrders_ok (by kernel_rfl) ?_; intro nu hn1 hn2) | refine fn_ret ?_ | refine fn_normal ?_ | refine Hold_P ?_ | refine prun_go ?_ | refine drun_go ?_); simp -dsimp only [go_sem, Nat.reduceLT, Nat.reduceLeDiff, Nat.reduceEqDiff, Nat.reduceAdd, Nat.reduceMul, Int.reduceNeg, Nat.reduceBEq, reduceCtorEq, ↓reduceIte, hx, hd, hlen, hz'])
        | (refine W_cond rfl (fun h => ?_) (fun h => ?_) <;> (try (cases h; done)))
        | refine W_ret ?_
        | refine W_skip ?_
        | refine W_exit ?_
        | refine then_normal ?_
        | refine then_ret ?_
        | refine then_exit ?_
        | refine inBlock_normal ?_
        | refine inBlock_ret ?_
        | refine inBlock_exit ?_
        | refine inBlock_ne (by decide) ?_
        | refine Hold_E ?_
        | (refine And.intro ?_ ?_; omega)
        | ((first | (refine ite_goB (fun h => ?_) (fun h => ?_) <;> (try exact absurd ((h : _ = false).symm.trans (by assumption : _ = true)) (by decide)) <;> (try exact absurd ((by assumption : _ = false).symm.trans (h : _ = true)) (by decide))) | (refine ite_go (fun h => ?_) (fun h => ?_) <;> (try exact absurd h (by assumption)) <;> (try exact absurd (by assumption) h))) <;> (try refine Hold_P ?_) <;> (try simp -dsimp only [h, go_sem, Nat.reduceLT, Nat.reduceLeDiff, Nat.reduceEqDiff, Nat.reduceAdd, Nat.reduceMul, Int.reduceNeg, Nat.reduceBEq, reduceCtorEq, ↓reduceIte, hx, hd, hlen, hz']))
        | refine Exists.intro _ (Exists.intro _ (And.intro (And.intro rfl rfl) ?_))
      exact ⟨i + 1, by omega, ⟨by omega, by rw [hor, ho]⟩, Env.Sub_of_has (by simp [Env.Has, Env.get, wrap_succ (show i < 4611686018427387904 by omega)]), Store.Sub.refl _⟩
    · have hz' := eq_false hz
      rw [if_neg hz] at ho
      repeat' first
        | refine W_seq ?_
        | refine W_block ?_
        | ((first | refine W_region (mu := []) ?_ | (refine W_region_any [] ⟨[], [], [], [], [], [], 0⟩ mixedOrders_ok (by kernel_rfl) ?_; intro nu hn1 hn2) | refine fn_ret ?_ | refine fn_normal ?_ | refine Hold_P ?_ | refine prun_go ?_ | refine drun_go ?_); simp -dsimp only [go_sem, Nat.reduceLT, Nat.reduceLeDiff, Nat.reduceEqDiff, Nat.reduceAdd, Nat.reduceMul, Int.reduceNeg, Nat.reduceBEq, reduceCtorEq, ↓reduceIte, hx, hd, hlen, hz'])
        | (refine W_cond rfl (fun h => ?_) (fun h => ?_) <;> (try (cases h; done)))
        | refine W_ret ?_
        | refine W_skip ?_
        | refine W_exit ?_
        | refine then_normal ?_
        | refine then_ret ?_
        | refine then_exit ?_
        | refine inBlock_normal ?_
        | refine inBlock_ret ?_
        | refine inBlock_exit ?_
        | refine inBlock_ne (by decide) ?_
        | refine Hold_E ?_
        | (refine And.intro ?_ ?_; omega)
        | ((first | (refine ite_goB (fun h => ?_) (fun h => ?_) <;> (try exact absurd ((h : _ = false).symm.trans (by assumption : _ = true)) (by decide)) <;> (try exact absurd ((by assumption : _ = false).symm.trans (h : _ = true)) (by decide))) | (refine ite_go (fun h => ?_) (fun h => ?_) <;> (try exact absurd h (by assumption)) <;> (try exact absurd (by assumption) h))) <;> (try refine Hold_P ?_) <;> (try simp -dsimp only [h, go_sem, Nat.reduceLT, Nat.reduceLeDiff, Nat.reduceEqDiff, Nat.reduceAdd, Nat.reduceMul, Int.reduceNeg, Nat.reduceBEq, reduceCtorEq, ↓reduceIte, hx, hd, hlen, hz']))
        | refine Exists.intro _ (Exists.intro _ (And.intro (And.intro rfl rfl) ?_))
      rw [hor, ho]
  · have hd : ((i : Int) < (7 : Nat)) = False := by simp; omega
    have hi' : i = 7 := by omega
    have h0 : attrCmp a b = 0 := by rw [hor, hi']; rfl
    repeat' first
      | refine W_seq ?_
      | refine W_block ?_
      | ((first | refine W_region (mu := []) ?_ | (refine W_region_any [] ⟨[], [], [], [], [], [], 0⟩ mixedOrders_ok (by kernel_rfl) ?_; intro nu hn1 hn2) | refine fn_ret ?_ | refine fn_normal ?_ | refine Hold_P ?_ | refine prun_go ?_ | refine drun_go ?_); simp -dsimp only [go_sem, Nat.reduceLT, Nat.reduceLeDiff, Nat.reduceEqDiff, Nat.reduceAdd, Nat.reduceMul, Int.reduceNeg, Nat.reduceBEq, reduceCtorEq, ↓reduceIte, hd, hlen, h0])
      | (refine W_cond rfl (fun h => ?_) (fun h => ?_) <;> (try (cases h; done)))
      | refine W_ret ?_
      | refine W_skip ?_
      | refine W_exit ?_
      | refine then_normal ?_
      | refine then_ret ?_
      | refine then_exit ?_
      | refine inBlock_normal ?_
      | refine inBlock_ret ?_
      | refine inBlock_exit ?_
      | refine inBlock_ne (by decide) ?_
      | refine Hold_E ?_
      | (refine And.intro ?_ ?_; omega)
      | ((first | (refine ite_goB (fun h => ?_) (fun h => ?_) <;> (try exact absurd ((h : _ = false).symm.trans (by assumption : _ = true)) (by decide)) <;> (try exact absurd ((by assumption : _ = false).symm.trans (h : _ = true)) (by decide))) | (refine ite_go (fun h => ?_) (fun h => ?_) <;> (try exact absurd h (by assumption)) <;> (try exact absurd (by assumption) h))) <;> (try refine Hold_P ?_) <;> (try simp -dsimp only [h, go_sem, Nat.reduceLT, Nat.reduceLeDiff, Nat.reduceEqDiff, Nat.reduceAdd, Nat.reduceMul, Int.reduceNeg, Nat.reduceBEq, reduceCtorEq, ↓reduceIte, hd, hlen, h0]))
      | refine Exists.intro _ (Exists.intro _ (And.intro (And.intro rfl rfl) ?_))

end Go.Proofs.Ytlbhhoojbokblaa
