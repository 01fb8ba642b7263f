/- Contracts of comm, attr and decide. Conditions: none. -/
import Derived.Test.YtlbhhoojbokblaaAa
set_option linter.unusedVariables false
set_option linter.unusedSimpArgs false
namespace Go.Proofs.Ytlbhhoojbokblaa
open Go.Kern
set_option maxRecDepth 100000
set_option maxHeartbeats 4000000
attribute [local go_sem] drun_nil drun_cons prun_nil prun_cons wrOk tqOk lateOp lateB dstOk ev ofConst leafOf Env.putO Env.get envOf readRs_nil oneRes nilSide SK.isNil isMu fillA partsFit boundA SK.cut SK.cutFull SK.fresh rowOk rowsOk_nil rowsOk_cons rowsOk_append rowsOk_ints splice oneOf keyKind cellsKind cellKind cellsB cellB zeroFits TK.agg AV.cells AV.known AV.one List.set_cons_zero List.set_cons_succ put_same put_put forall_const implies_true exists_eq_left exists_eq_left' exists_eq_right exists_eq Store.Sub.refl and_self Int.toNat_natCast length_ints List.length_map true_and and_true decide_true decide_false if_true if_false Bool.false_eq_true Bool.true_eq_false List.getElem?_cons_zero List.getElem?_cons_succ List.length_cons List.length_nil List.drop_zero List.drop_succ_cons List.take_succ_cons List.take_zero List.drop_nil List.take_nil List.append_nil List.map_cons List.map_nil List.cons_append List.nil_append beq_self_eq_true Bool.false_beq Bool.true_beq Bool.not_true Bool.not_false Option.map_some Option.map_none Option.bind_some ne_eq not_false_eq_true List.contains_cons List.contains_nil Bool.or_false Bool.or_true Bool.and_true Bool.and_false Bool.true_and Bool.false_and List.all_cons List.all_nil Nat.one_ne_zero Nat.zero_ne_one Option.isSome_some Option.isSome_none List.getElem?_toArray beq_true beq_false decide_eq_true_eq Int.toNat_zero forall_ints take_ints drop_ints Int.le_refl Int.natCast_nonneg Nat.zero_add Nat.add_zero or_true true_or false_or or_false
attribute [local go_sem ↓] allocN guardP OpSem callA readRs_cons readR binA intOpA strOpA nilOpA unA convA boxA allocA behind loadA buildA buildSliceA fieldAddrA fieldA indexAddrA indexA lenA sliceA extractA nilCheckA storeA lookupA mapSetA mapDelA makeSliceA appendA appendN apN
attribute [local irreducible] PCall W

def encComm (c : Int × Int) : AV := .agg [.int .i64 c.1, .int .i64 c.2]
def comms (l : List (Int × Int)) : List AV := l.map encComm
theorem length_comms (l : List (Int × Int)) : (comms l).length = l.length := by simp [comms]
theorem getD_comms {l : List (Int × Int)} {i : Nat} (h : i < l.length) : (comms l).getD i .any = .agg [.int .i64 (l.getD i (0, 0)).1, .int .i64 (l.getD i (0, 0)).2] := getD_map encComm (0, 0) h

def ordC (c d : Int × Int) : Int := orZ [cmpZ c.1 d.1, cmpZ c.2 d.2]

theorem order_spec (c d : Int × Int) (σ : Store) : PCall Try.prog 46 [.agg [.int .i64 c.1, .int .i64 c.2], .agg [.int .i64 d.1, .int .i64 d.2]] σ (fun r s => r = .int .i64 (ordC c d) ∧ s = σ) := by
  refine PCall_q [.tmp 4] 17 Try.func46 (by rfl) rfl rfl rfl rfl ?_
  repeat' first
    | refine W_seq ?_
    | refine W_block ?_
    | ((first | refine W_region (mu := []) ?_ | (refine W_region_any [] ⟨[], [], [], [], [], [], 0⟩ mixedOrders_ok (by kernel_rfl) ?_; intro nu hn1 hn2) | refine fn_ret ?_ | refine fn_normal ?_ | refine Hold_P ?_ | refine prun_go ?_ | refine drun_go ?_); simp -dsimp only [go_sem, Nat.reduceLT, Nat.reduceLeDiff, Nat.reduceEqDiff, Nat.reduceAdd, Nat.reduceMul, Int.reduceNeg, Nat.reduceBEq, reduceCtorEq, ↓reduceIte])
    | (refine W_cond rfl (fun h => ?_) (fun h => ?_) <;> (try (cases h; done)))
    | refine W_ret ?_
    | refine W_skip ?_
    | refine W_exit ?_
    | refine then_normal ?_
    | refine then_ret ?_
    | refine then_exit ?_
    | refine inBlock_normal ?_
    | refine inBlock_ret ?_
    | refine inBlock_exit ?_
    | refine inBlock_ne (by decide) ?_
    | refine Hold_E ?_
    | (refine And.intro ?_ ?_; omega)
    | ((first | (refine ite_goB (fun h => ?_) (fun h => ?_) <;> (try exact absurd ((h : _ = false).symm.trans (by assumption : _ = true)) (by decide)) <;> (try exact absurd ((by assumption : _ = false).symm.trans (h : _ = true)) (by decide))) | (refine ite_go (fun h => ?_) (fun h => ?_) <;> (try exact absurd h (by assumption)) <;> (try exact absurd (by assumption) h))) <;> (try refine Hold_P ?_) <;> (try simp -dsimp only [h, go_sem, Nat.reduceLT, Nat.reduceLeDiff, Nat.reduceEqDiff, Nat.reduceAdd, Nat.reduceMul, Int.reduceNeg, Nat.reduceBEq, reduceCtorEq, ↓reduceIte]))
    | refine Exists.intro _ (Exists.intro _ (And.intro (And.intro rfl rfl) ?_))
    | (refine PCall_use (cmpCompare_spec _ _ _) ?_; rintro _ _ ⟨rfl, hq⟩; obtain rfl := hq.symm; clear hq)
    | (refine Exists.intro _ (And.intro (fun _ => cmpCompare_spec _ _ _) ?_))
    | (refine Exists.intro _ (And.intro (cmpCompare_spec _ _ _) ?_))
    | (refine Exists.intro _ (Exists.intro _ (And.intro (cmpCompare_spec _ _ _) ?_)))
    | (refine PCall_use (cmpOr_spec _ [_, _] (by simp) _) ?_; rintro _ _ ⟨rfl, hq⟩; obtain rfl := hq.symm; clear hq)
    | (refine Exists.intro _ (And.intro (fun _ => cmpOr_spec _ [_, _] (by simp) _) ?_))
    | (refine Exists.intro _ (And.intro (cmpOr_spec _ [_, _] (by simp) _) ?_))
    | (refine Exists.intro _ (Exists.intro _ (And.intro (cmpOr_spec _ [_, _] (by simp) _) ?_)))
  rfl

theorem compareFunc_spec (k1 k2 : SK) (l m : List (Int × Int)) (hl : l.length < 4611686018427387904) (hm : m.length < 4611686018427387904) (σ : Store) :
    PCall Try.prog 45 [.sl k1 (comms l), .sl k2 (comms m), .fn 46 []] σ (fun r s => r = .int .i64 (lexF ordC l m) ∧ s = σ) := by
  refine PCall_q [.tmp 6] 39 Try.func45 (by rfl) rfl rfl rfl rfl ?_
  repeat' first
    | refine W_seq ?_
    | refine W_block ?_
    | ((first | refine W_region (mu := []) ?_ | (refine W_region_any [] ⟨[], [], [], [], [], [], 0⟩ mixedOrders_ok (by kernel_rfl) ?_; intro nu hn1 hn2) | refine fn_ret ?_ | refine fn_normal ?_ | refine Hold_P ?_ | refine prun_go ?_ | refine drun_go ?_); simp -dsimp only [go_sem, Nat.reduceLT, Nat.reduceLeDiff, Nat.reduceEqDiff, Nat.reduceAdd, Nat.reduceMul, Int.reduceNeg, Nat.reduceBEq, reduceCtorEq, ↓reduceIte, length_comms])
    | (refine W_cond rfl (fun h => ?_) (fun h => ?_) <;> (try (cases h; done)))
    | refine W_ret ?_
    | refine W_skip ?_
    | refine W_exit ?_
    | refine then_normal ?_
    | refine then_ret ?_
    | refine then_exit ?_
    | refine inBlock_normal ?_
    | refine inBlock_ret ?_
    | refine inBlock_exit ?_
    | refine inBlock_ne (by decide) ?_
    | refine Hold_E ?_
    | (refine And.intro ?_ ?_; omega)
    | ((first | (refine ite_goB (fun h => ?_) (fun h => ?_) <;> (try exact absurd ((h : _ = false).symm.trans (by assumption : _ = true)) (by decide)) <;> (try exact absurd ((by assumption : _ = false).symm.trans (h : _ = true)) (by decide))) | (refine ite_go (fun h => ?_) (fun h => ?_) <;> (try exact absurd h (by assumption)) <;> (try exact absurd (by assumption) h))) <;> (try refine Hold_P ?_) <;> (try simp -dsimp only [h, go_sem, Nat.reduceLT, Nat.reduceLeDiff, Nat.reduceEqDiff, Nat.reduceAdd, Nat.reduceMul, Int.reduceNeg, Nat.reduceBEq, reduceCtorEq, ↓reduceIte, length_comms]))
    | refine Exists.intro _ (Exists.intro _ (And.intro (And.intro rfl rfl) ?_))
  refine W_loop_st (fun i : Nat => [(0, .sl k1 (comms l)), (1, .sl k2 (comms m)), (2, .fn 46 []), (11, .sl k1 (comms l)), (12, .int .i64 l.length), (13, .int .i64 i)]) (fun _ => σ) (fun i => i ≤ l.length ∧ i ≤ m.length ∧ lexF ordC l m = lexF ordC (l.drop i) (m.drop i)) (fun i => l.length - i) 0 ⟨Nat.zero_le _, Nat.zero_le _, rfl⟩ (Env.Sub_of_has (by simp [Env.Has, Env.get])) (Store.Sub.refl _) ?_
  rintro i ⟨hi, him, hor⟩
  by_cases hlt : i < l.length
  · have hx := getD_comms hlt
    have hd : decide ((i : Int) < (l.length : Int)) = true := decT (by omega)
    have ho := lexF_drop ordC (0, 0) l m i hlt
    by_cases hlm : i < m.length
    · have hy := getD_comms hlm
      have hd2 : decide ((m.length : Int) ≤ (i : Int)) = false := decF (by omega)
      rw [dif_pos hlm] at ho
      repeat' first
        | refine W_seq ?_
        | refine W_block ?_
        | ((first | refine W_region (mu := []) ?_ | (refine W_region_any [] ⟨[], [], [], [], [], [], 0⟩ mixedOrders_ok (by kernel_rfl) ?_; intro nu hn1 hn2) | refine fn_ret ?_ | refine fn_normal ?_ | refine Hold_P ?_ | refine prun_go ?_ | refine drun_go ?_); simp -dsimp only [go_sem, Nat.reduceLT, Nat.reduceLeDiff, Nat.reduceEqDiff, Nat.reduceAdd, Nat.reduceMul, Int.reduceNeg, Nat.reduceBEq, reduceCtorEq, ↓reduceIte, length_comms, hx, hd, hd2, hy])
        | (refine W_cond rfl (fun h => ?_) (fun h => ?_) <;> (try (cases h; done)))
        | refine W_ret ?_
        | refine W_skip ?_
        | refine W_exit ?_
        | refine then_normal ?_
        | refine then_ret ?_
        | refine then_exit ?_
        | refine inBlock_normal ?_
        | refine inBlock_ret ?_
        | refine inBlock_exit ?_
        | refine inBlock_ne (by decide) ?_
        | refine Hold_E ?_
        | (refine And.intro ?_ ?_; omega)
        | ((first | (refine ite_goB (fun h => ?_) (fun h => ?_) <;> (try exact absurd ((h : _ = false).symm.trans (by assumption : _ = true)) (by decide)) <;> (try exact absurd ((by assumption : _ = false).symm.trans (h : _ = true)) (by decide))) | (refine ite_go (fun h => ?_) (fun h => ?_) <;> (try exact absurd h (by assumption)) <;> (try exact absurd (by assumption) h))) <;> (try refine Hold_P ?_) <;> (try simp -dsimp only [h, go_sem, Nat.reduceLT, Nat.reduceLeDiff, Nat.reduceEqDiff, Nat.reduceAdd, Nat.reduceMul, Int.reduceNeg, Nat.reduceBEq, reduceCtorEq, ↓reduceIte, length_comms, hx, hd, hd2, hy]))
        | refine Exists.intro _ (Exists.intro _ (And.intro (And.intro rfl rfl) ?_))
      intro o1 ho1
      repeat' first
        | refine W_seq ?_
        | refine W_block ?_
        | ((first | refine W_region (mu := []) ?_ | (refine W_region_any [] ⟨[], [], [], [], [], [], 0⟩ mixedOrders_ok (by kernel_rfl) ?_; intro nu hn1 hn2) | refine fn_ret ?_ | refine fn_normal ?_ | refine Hold_P ?_ | refine prun_go ?_ | refine drun_go ?_); simp -dsimp only [go_sem, Nat.reduceLT, Nat.reduceLeDiff, Nat.reduceEqDiff, Nat.reduceAdd, Nat.reduceMul, Int.reduceNeg, Nat.reduceBEq, reduceCtorEq, ↓reduceIte, length_comms, hx, hd, hd2, hy])
        | (refine W_cond rfl (fun h => ?_) (fun h => ?_) <;> (try (cases h; done)))
        | refine W_ret ?_
        | refine W_skip ?_
        | refine W_exit ?_
        | refine then_normal ?_
        | refine then_ret ?_
        | refine then_exit ?_
        | refine inBlock_normal ?_
        | refine inBlock_ret ?_
        | refine inBlock_exit ?_
        | refine inBlock_ne (by decide) ?_
        | refine Hold_E ?_
        | (refine And.intro ?_ ?_; omega)
        | ((first | (refine ite_goB (fun h => ?_) (fun h => ?_) <;> (try exact absurd ((h : _ = false).symm.trans (by assumption : _ = true)) (by decide)) <;> (try exact absurd ((by assumption : _ = false).symm.trans (h : _ = true)) (by decide))) | (refine ite_go (fun h => ?_) (fun h => ?_) <;> (try exact absurd h (by assumption)) <;> (try exact absurd (by assumption) h))) <;> (try refine Hold_P ?_) <;> (try simp -dsimp only [h, go_sem, Nat.reduceLT, Nat.reduceLeDiff, Nat.reduceEqDiff, Nat.reduceAdd, Nat.reduceMul, Int.reduceNeg, Nat.reduceBEq, reduceCtorEq, ↓reduceIte, length_comms, hx, hd, hd2, hy]))
        | refine Exists.intro _ (Exists.intro _ (And.intro (And.intro rfl rfl) ?_))
      intro o2 ho2
      have hpn : ∀ (s : Store) (x : Ob), (s.put o2 x) o1 = s o1 := fun s x => put_ne (fresh_ne ho2)
      have hso := fresh_old ho2
      repeat' first
        | refine W_seq ?_
        | refine W_block ?_
        | ((first | refine W_region (mu := []) ?_ | (refine W_region_any [] ⟨[], [], [], [], [], [], 0⟩ mixedOrders_ok (by kernel_rfl) ?_; intro nu hn1 hn2) | refine fn_ret ?_ | refine fn_normal ?_ | refine Hold_P ?_ | refine prun_go ?_ | refine drun_go ?_); simp -dsimp only [go_sem, Nat.reduceLT, Nat.reduceLeDiff, Nat.reduceEqDiff, Nat.reduceAdd, Nat.reduceMul, Int.reduceNeg, Nat.reduceBEq, reduceCtorEq, ↓reduceIte, length_comms, hx, hd, hd2, hy, hpn])
        | (refine W_cond rfl (fun h => ?_) (fun h => ?_) <;> (try (cases h; done)))
        | refine W_ret ?_
        | refine W_skip ?_
        | refine W_exit ?_
        | refine then_normal ?_
        | refine then_ret ?_
        | refine then_exit ?_
        | refine inBlock_normal ?_
        | refine inBlock_ret ?_
        | refine inBlock_exit ?_
        | refine inBlock_ne (by decide) ?_
        | refine Hold_E ?_
        | (refine And.intro ?_ ?_; omega)
        | ((first | (refine ite_goB (fun h => ?_) (fun h => ?_) <;> (try exact absurd ((h : _ = false).symm.trans (by assumption : _ = true)) (by decide)) <;> (try exact absurd ((by assumption : _ = false).symm.trans (h : _ = true)) (by decide))) | (refine ite_go (fun h => ?_) (fun h => ?_) <;> (try exact absurd h (by assumption)) <;> (try exact absurd (by assumption) h))) <;> (try refine Hold_P ?_) <;> (try simp -dsimp only [h, go_sem, Nat.reduceLT, Nat.reduceLeDiff, Nat.reduceEqDiff, Nat.reduceAdd, Nat.reduceMul, Int.reduceNeg, Nat.reduceBEq, reduceCtorEq, ↓reduceIte, length_comms, hx, hd, hd2, hy, hpn]))
        | refine Exists.intro _ (Exists.intro _ (And.intro (And.intro rfl rfl) ?_))
        | (refine PCall_use (order_spec _ _ _) ?_; rintro _ _ ⟨rfl, hq⟩; obtain rfl := hq.symm; clear hq)
        | (refine Exists.intro _ (And.intro (fun _ => order_spec _ _ _) ?_))
        | (refine Exists.intro _ (And.intro (order_spec _ _ _) ?_))
        | (refine Exists.intro _ (Exists.intro _ (And.intro (order_spec _ _ _) ?_)))
      · have hne : ordC (l.getD i (0, 0)) (m.getD i (0, 0)) ≠ 0 := by simpa using h
        exact ⟨by rw [hor, ho, if_pos hne], Sub_put (Sub_put (Store.Sub.refl _) ho1 _) hso _⟩
      · have he : ordC (l.getD i (0, 0)) (m.getD i (0, 0)) = 0 := by simpa using h
        rw [if_neg (by simpa using he)] at ho
        exact ⟨i + 1, by omega, ⟨by omega, by omega, by rw [hor, ho]⟩, Env.Sub_of_has (by simp [Env.Has, Env.get, wrap_succ (show i < 4611686018427387904 by omega)]), Sub_put (Sub_put (Store.Sub.refl _) ho1 _) hso _⟩
    · have hd2 : decide ((m.length : Int) ≤ (i : Int)) = true := decT (by omega)
      rw [dif_neg hlm] at ho
      repeat' first
        | refine W_seq ?_
        | refine W_block ?_
        | ((first | refine W_region (mu := []) ?_ | (refine W_region_any [] ⟨[], [], [], [], [], [], 0⟩ mixedOrders_ok (by kernel_rfl) ?_; intro nu hn1 hn2) | refine fn_ret ?_ | refine fn_normal ?_ | refine Hold_P ?_ | refine prun_go ?_ | refine drun_go ?_); simp -dsimp only [go_sem, Nat.reduceLT, Nat.reduceLeDiff, Nat.reduceEqDiff, Nat.reduceAdd, Nat.reduceMul, Int.reduceNeg, Nat.reduceBEq, reduceCtorEq, ↓reduceIte, length_comms, hx, hd, hd2])
        | (refine W_cond rfl (fun h => ?_) (fun h => ?_) <;> (try (cases h; done)))
        | refine W_ret ?_
        | refine W_skip ?_
        | refine W_exit ?_
        | refine then_normal ?_
        | refine then_ret ?_
        | refine then_exit ?_
        | refine inBlock_normal ?_
        | refine inBlock_ret ?_
        | refine inBlock_exit ?_
        | refine inBlock_ne (by decide) ?_
        | refine Hold_E ?_
        | (refine And.intro ?_ ?_; omega)
        | ((first | (refine ite_goB (fun h => ?_) (fun h => ?_) <;> (try exact absurd ((h : _ = false).symm.trans (by assumption : _ = true)) (by decide)) <;> (try exact absurd ((by assumption : _ = false).symm.trans (h : _ = true)) (by decide))) | (refine ite_go (fun h => ?_) (fun h => ?_) <;> (try exact absurd h (by assumption)) <;> (try exact absurd (by assumption) h))) <;> (try refine Hold_P ?_) <;> (try simp -dsimp only [h, go_sem, Nat.reduceLT, Nat.reduceLeDiff, Nat.reduceEqDiff, Nat.reduceAdd, Nat.reduceMul, Int.reduceNeg, Nat.reduceBEq, reduceCtorEq, ↓reduceIte, length_comms, hx, hd, hd2]))
        | refine Exists.intro _ (Exists.intro _ (And.intro (And.intro rfl rfl) ?_))
      intro o1 ho1
      repeat' first
        | refine W_seq ?_
        | refine W_block ?_
        | ((first | refine W_region (mu := []) ?_ | (refine W_region_any [] ⟨[], [], [], [], [], [], 0⟩ mixedOrders_ok (by kernel_rfl) ?_; intro nu hn1 hn2) | refine fn_ret ?_ | refine fn_normal ?_ | refine Hold_P ?_ | refine prun_go ?_ | refine drun_go ?_); simp -dsimp only [go_sem, Nat.reduceLT, Nat.reduceLeDiff, Nat.reduceEqDiff, Nat.reduceAdd, Nat.reduceMul, Int.reduceNeg, Nat.reduceBEq, reduceCtorEq, ↓reduceIte, length_comms, hx, hd, hd2])
        | (refine W_cond rfl (fun h => ?_) (fun h => ?_) <;> (try (cases h; done)))
        | refine W_ret ?_
        | refine W_skip ?_
        | refine W_exit ?_
        | refine then_normal ?_
        | refine then_ret ?_
        | refine then_exit ?_
        | refine inBlock_normal ?_
        | refine inBlock_ret ?_
        | refine inBlock_exit ?_
        | refine inBlock_ne (by decide) ?_
        | refine Hold_E ?_
        | (refine And.intro ?_ ?_; omega)
        | ((first | (refine ite_goB (fun h => ?_) (fun h => ?_) <;> (try exact absurd ((h : _ = false).symm.trans (by assumption : _ = true)) (by decide)) <;> (try exact absurd ((by assumption : _ = false).symm.trans (h : _ = true)) (by decide))) | (refine ite_go (fun h => ?_) (fun h => ?_) <;> (try exact absurd h (by assumption)) <;> (try exact absurd (by assumption) h))) <;> (try refine Hold_P ?_) <;> (try simp -dsimp only [h, go_sem, Nat.reduceLT, Nat.reduceLeDiff, Nat.reduceEqDiff, Nat.reduceAdd, Nat.reduceMul, Int.reduceNeg, Nat.reduceBEq, reduceCtorEq, ↓reduceIte, length_comms, hx, hd, hd2]))
        | refine Exists.intro _ (Exists.intro _ (And.intro (And.intro rfl rfl) ?_))
      exact ⟨by rw [hor, ho], Sub_put (Store.Sub.refl _) ho1 _⟩
  · have hd : decide ((i : Int) < (l.length : Int)) = false := decF (by omega)
    have hi' : i = l.length := by omega
    have ho := lexF_end ordC l m i (by omega) (.inr hi') him
    repeat' first
      | refine W_seq ?_
      | refine W_block ?_
      | ((first | refine W_region (mu := []) ?_ | (refine W_region_any [] ⟨[], [], [], [], [], [], 0⟩ mixedOrders_ok (by kernel_rfl) ?_; intro nu hn1 hn2) | refine fn_ret ?_ | refine fn_normal ?_ | refine Hold_P ?_ | refine prun_go ?_ | refine drun_go ?_); simp -dsimp only [go_sem, Nat.reduceLT, Nat.reduceLeDiff, Nat.reduceEqDiff, Nat.reduceAdd, Nat.reduceMul, Int.reduceNeg, Nat.reduceBEq, reduceCtorEq, ↓reduceIte, length_comms, hd])
      | (refine W_cond rfl (fun h => ?_) (fun h => ?_) <;> (try (cases h; done)))
      | refine W_ret ?_
      | refine W_skip ?_
      | refine W_exit ?_
      | refine then_normal ?_
      | refine then_ret ?_
      | refine then_exit ?_
      | refine inBlock_normal ?_
      | refine inBlock_ret ?_
      | refine inBlock_exit ?_
      | refine inBlock_ne (by decide) ?_
      | refine Hold_E ?_
      | (refine And.intro ?_ ?_; omega)
      | ((first | (refine ite_goB (fun h => ?_) (fun h => ?_) <;> (try exact absurd ((h : _ = false).symm.trans (by assumption : _ = true)) (by decide)) <;> (try exact absurd ((by assumption : _ = false).symm.trans (h : _ = true)) (by decide))) | (refine ite_go (fun h => ?_) (fun h => ?_) <;> (try exact absurd h (by assumption)) <;> (try exact absurd (by assumption) h))) <;> (try refine Hold_P ?_) <;> (try simp -dsimp only [h, go_sem, Nat.reduceLT, Nat.reduceLeDiff, Nat.reduceEqDiff, Nat.reduceAdd, Nat.reduceMul, Int.reduceNeg, Nat.reduceBEq, reduceCtorEq, ↓reduceIte, length_comms, hd]))
      | refine Exists.intro _ (Exists.intro _ (And.intro (And.intro rfl rfl) ?_))
    · rw [hor, ho, if_pos (by simpa [hi'] using h)]
    · rw [hor, ho, if_neg (by simpa [hi'] using h)]

def pathCmp (l m : List Int) : Int := orZ [cmpZ l.length m.length, lexF cmpZ l m]
def commsCmp (l m : List (Int × Int)) : Int := orZ [cmpZ l.length m.length, lexF ordC l m]

theorem commCompare_spec (k1 k2 : SK) (l m : List (Int × Int)) (hl : l.length < 4611686018427387904) (hm : m.length < 4611686018427387904) (σ : Store) :
    PCall Try.prog 34 [.sl k1 (comms l), .sl k2 (comms m)] σ (fun r s => r = .int .i64 (commsCmp l m) ∧ s = σ) := by
  refine PCall_q [.tmp 4] 15 Try.func34 (by rfl) rfl rfl rfl rfl ?_
  repeat' first
    | refine W_seq ?_
    | refine W_block ?_
    | ((first | refine W_region (mu := []) ?_ | (refine W_region_any [] ⟨[], [], [], [], [], [], 0⟩ mixedOrders_ok (by kernel_rfl) ?_; intro nu hn1 hn2) | refine fn_ret ?_ | refine fn_normal ?_ | refine Hold_P ?_ | refine prun_go ?_ | refine drun_go ?_); simp -dsimp only [go_sem, Nat.reduceLT, Nat.reduceLeDiff, Nat.reduceEqDiff, Nat.reduceAdd, Nat.reduceMul, Int.reduceNeg, Nat.reduceBEq, reduceCtorEq, ↓reduceIte, length_comms])
    | (refine W_cond rfl (fun h => ?_) (fun h => ?_) <;> (try (cases h; done)))
    | refine W_ret ?_
    | refine W_skip ?_
    | refine W_exit ?_
    | refine then_normal ?_
    | refine then_ret ?_
    | refine then_exit ?_
    | refine inBlock_normal ?_
    | refine inBlock_ret ?_
    | refine inBlock_exit ?_
    | refine inBlock_ne (by decide) ?_
    | refine Hold_E ?_
    | (refine And.intro ?_ ?_; omega)
    | ((first | (refine ite_goB (fun h => ?_) (fun h => ?_) <;> (try exact absurd ((h : _ = false).symm.trans (by assumption : _ = true)) (by decide)) <;> (try exact absurd ((by assumption : _ = false).symm.trans (h : _ = true)) (by decide))) | (refine ite_go (fun h => ?_) (fun h => ?_) <;> (try exact absurd h (by assumption)) <;> (try exact absurd (by assumption) h))) <;> (try refine Hold_P ?_) <;> (try simp -dsimp only [h, go_sem, Nat.reduceLT, Nat.reduceLeDiff, Nat.reduceEqDiff, Nat.reduceAdd, Nat.reduceMul, Int.reduceNeg, Nat.reduceBEq, reduceCtorEq, ↓reduceIte, length_comms]))
    | refine Exists.intro _ (Exists.intro _ (And.intro (And.intro rfl rfl) ?_))
    | (refine PCall_use (cmpCompare_spec _ _ _) ?_; rintro _ _ ⟨rfl, hq⟩; obtain rfl := hq.symm; clear hq)
    | (refine Exists.intro _ (And.intro (fun _ => cmpCompare_spec _ _ _) ?_))
    | (refine Exists.intro _ (And.intro (cmpCompare_spec _ _ _) ?_))
    | (refine Exists.intro _ (Exists.intro _ (And.intro (cmpCompare_spec _ _ _) ?_)))
    | (refine PCall_use (compareFunc_spec _ _ _ _ hl hm _) ?_; rintro _ _ ⟨rfl, hq⟩; obtain rfl := hq.symm; clear hq)
    | (refine Exists.intro _ (And.intro (fun _ => compareFunc_spec _ _ _ _ hl hm _) ?_))
    | (refine Exists.intro _ (And.intro (compareFunc_spec _ _ _ _ hl hm _) ?_))
    | (refine Exists.intro _ (Exists.intro _ (And.intro (compareFunc_spec _ _ _ _ hl hm _) ?_)))
    | (refine PCall_use (cmpOr_spec _ [_, _] (by simp) _) ?_; rintro _ _ ⟨rfl, hq⟩; obtain rfl := hq.symm; clear hq)
    | (refine Exists.intro _ (And.intro (fun _ => cmpOr_spec _ [_, _] (by simp) _) ?_))
    | (refine Exists.intro _ (And.intro (cmpOr_spec _ [_, _] (by simp) _) ?_))
    | (refine Exists.intro _ (Exists.intro _ (And.intro (cmpOr_spec _ [_, _] (by simp) _) ?_)))
  rfl

structure Attr where
  Pref : Int
  Med : Int
  Origin : Int
  kP : SK
  Path : List Int
  kC : SK
  Comms : List (Int × Int)
  From : Int
  kK : SK
  Clusters : List Int

def Attr.Fits (a : Attr) : Prop := a.Path.length < 4611686018427387904 ∧ a.Comms.length < 4611686018427387904 ∧ a.Clusters.length < 4611686018427387904

def attrCmp (a b : Attr) : Int := orZ [cmpZ a.Pref b.Pref, cmpZ a.Med b.Med, cmpZ a.Origin b.Origin, pathCmp a.Path b.Path, commsCmp a.Comms b.Comms, cmpZ a.From b.From, pathCmp a.Clusters b.Clusters]

theorem attrCompare_spec (a b : Attr) (ha : a.Fits) (hb : b.Fits) (σ : Store) :
    PCall Try.prog 24 [.agg [.int .i64 a.Pref, .int .i64 a.Med, .int .i64 a.Origin, .sl a.kP (ints a.Path), .sl a.kC (comms a.Comms), .int .i64 a.From, .sl a.kK (ints a.Clusters)],
      .agg [.int .i64 b.Pref, .int .i64 b.Med, .int .i64 b.Origin, .sl b.kP (ints b.Path), .sl b.kC (comms b.Comms), .int .i64 b.From, .sl b.kK (ints b.Clusters)]] σ (fun r s => r = .int .i64 (attrCmp a b) ∧ s = σ) := by
  obtain ⟨h1, h2, h3⟩ := ha
  obtain ⟨g1, g2, g3⟩ := hb
  refine PCall_q [.tmp 4] 42 Try.func24 (by rfl) rfl rfl rfl rfl ?_
  repeat' first
    | refine W_seq ?_
    | refine W_block ?_
    | ((first | refine W_region (mu := []) ?_ | (refine W_region_any [] ⟨[], [], [], [], [], [], 0⟩ mixedOrders_ok (by kernel_rfl) ?_; intro nu hn1 hn2) | refine fn_ret ?_ | refine fn_normal ?_ | refine Hold_P ?_ | refine prun_go ?_ | refine drun_go ?_); simp -dsimp only [go_sem, Nat.reduceLT, Nat.reduceLeDiff, Nat.reduceEqDiff, Nat.reduceAdd, Nat.reduceMul, Int.reduceNeg, Nat.reduceBEq, reduceCtorEq, ↓reduceIte])
    | (refine W_cond rfl (fun h => ?_) (fun h => ?_) <;> (try (cases h; done)))
    | refine W_ret ?_
    | refine W_skip ?_
    | refine W_exit ?_
    | refine then_normal ?_
    | refine then_ret ?_
    | refine then_exit ?_
    | refine inBlock_normal ?_
    | refine inBlock_ret ?_
    | refine inBlock_exit ?_
    | refine inBlock_ne (by decide) ?_
    | refine Hold_E ?_
    | (refine And.intro ?_ ?_; omega)
    | ((first | (refine ite_goB (fun h => ?_) (fun h => ?_) <;> (try exact absurd ((h : _ = false).symm.trans (by assumption : _ = true)) (by decide)) <;> (try exact absurd ((by assumption : _ = false).symm.trans (h : _ = true)) (by decide))) | (refine ite_go (fun h => ?_) (fun h => ?_) <;> (try exact absurd h (by assumption)) <;> (try exact absurd (by assumption) h))) <;> (try refine Hold_P ?_) <;> (try simp -dsimp only [h, go_sem, Nat.reduceLT, Nat.reduceLeDiff, Nat.reduceEqDiff, Nat.reduceAdd, Nat.reduceMul, Int.reduceNeg, Nat.reduceBEq, reduceCtorEq, ↓reduceIte]))
    | refine Exists.intro _ (Exists.intro _ (And.intro (And.intro rfl rfl) ?_))
    | (refine PCall_use (cmpCompare_spec _ _ _) ?_; rintro _ _ ⟨rfl, hq⟩; obtain rfl := hq.symm; clear hq)
    | (refine Exists.intro _ (And.intro (fun _ => cmpCompare_spec _ _ _) ?_))
    | (refine Exists.intro _ (And.intro (cmpCompare_spec _ _ _) ?_))
    | (refine Exists.intro _ (Exists.intro _ (And.intro (cmpCompare_spec _ _ _) ?_)))
    | (refine PCall_use (aspathCompare_spec _ _ a.Path b.Path h1 g1 _) ?_; rintro _ _ ⟨rfl, hq⟩; obtain rfl := hq.symm; clear hq)
    | (refine Exists.intro _ (And.intro (fun _ => aspathCompare_spec _ _ a.Path b.Path h1 g1 _) ?_))
    | (refine Exists.intro _ (And.intro (aspathCompare_spec _ _ a.Path b.Path h1 g1 _) ?_))
    | (refine Exists.intro _ (Exists.intro _ (And.intro (aspathCompare_spec _ _ a.Path b.Path h1 g1 _) ?_)))
    | (refine PCall_use (commCompare_spec _ _ _ _ h2 g2 _) ?_; rintro _ _ ⟨rfl, hq⟩; obtain rfl := hq.symm; clear hq)
    | (refine Exists.intro _ (And.intro (fun _ => commCompare_spec _ _ _ _ h2 g2 _) ?_))
    | (refine Exists.intro _ (And.intro (commCompare_spec _ _ _ _ h2 g2 _) ?_))
    | (refine Exists.intro _ (Exists.intro _ (And.intro (commCompare_spec _ _ _ _ h2 g2 _) ?_)))
    | (refine PCall_use (aspathCompare_spec _ _ a.Clusters b.Clusters h3 g3 _) ?_; rintro _ _ ⟨rfl, hq⟩; obtain rfl := hq.symm; clear hq)
    | (refine Exists.intro _ (And.intro (fun _ => aspathCompare_spec _ _ a.Clusters b.Clusters h3 g3 _) ?_))
    | (refine Exists.intro _ (And.intro (aspathCompare_spec _ _ a.Clusters b.Clusters h3 g3 _) ?_))
    | (refine Exists.intro _ (Exists.intro _ (And.intro (aspathCompare_spec _ _ a.Clusters b.Clusters h3 g3 _) ?_)))
    | (refine PCall_use (cmpOr_spec _ [_, _, _, _, _, _, _] (by simp) _) ?_; rintro _ _ ⟨rfl, hq⟩; obtain rfl := hq.symm; clear hq)
    | (refine Exists.intro _ (And.intro (fun _ => cmpOr_spec _ [_, _, _, _, _, _, _] (by simp) _) ?_))
    | (refine Exists.intro _ (And.intro (cmpOr_spec _ [_, _, _, _, _, _, _] (by simp) _) ?_))
    | (refine Exists.intro _ (Exists.intro _ (And.intro (cmpOr_spec _ [_, _, _, _, _, _, _] (by simp) _) ?_)))
  rfl

structure Cand where
  A : Attr
  From : Int
  ID : Int
  Outer : Bool
  Far : Int

def Cand.cells (c : Cand) : List AV := [.int .i64 c.A.Pref, .int .i64 c.A.Med, .int .i64 c.A.Origin, .sl c.A.kP (ints c.A.Path), .sl c.A.kC (comms c.A.Comms), .int .i64 c.A.From, .sl c.A.kK (ints c.A.Clusters), .int .i64 c.From, .int .i64 c.ID, .bool c.Outer, .int .i64 c.Far]

def firstC (a b : Bool) : Int := if a = b then 0 else if a = true then -1 else 1
def rules (a b : Cand) : List Int := [firstC (decide (a.From = 0)) (decide (b.From = 0)), cmpZ b.A.Pref a.A.Pref, cmpZ a.A.Path.length b.A.Path.length, cmpZ a.A.Origin b.A.Origin, cmpZ a.A.Med b.A.Med, firstC a.Outer b.Outer, cmpZ a.Far b.Far, cmpZ a.ID b.ID, attrCmp a.A b.A, cmpZ a.From b.From]
/-- The first that isn't 0, and its place from i on. -/
def firstNZ : Int → List Int → Int × Int
  | _, [] => (0, 0)
  | i, n :: l => if n = 0 then firstNZ (i + 1) l else (n, i)
def decCmp (a b : Cand) : Int × Int := firstNZ 1 (rules a b)

theorem firstNZ_drop (l : List Int) (i : Nat) (h : i < l.length) (k : Int) : firstNZ k (l.drop i) = if l.getD i 0 = 0 then firstNZ (k + 1) (l.drop (i + 1)) else (l.getD i 0, k) := by
  rw [List.drop_eq_getElem_cons h]
  simp [firstNZ, List.getD_eq_getElem?_getD, h]

theorem decCompare_spec (a b : Cand) (ha : a.A.Fits) (hb : b.A.Fits) (σ : Store) :
    PCall Try.prog 9 [.agg a.cells, .agg b.cells] σ (fun r s => r = .tup [.int .i64 (decCmp a b).1, .int .i64 (decCmp a b).2] ∧ s = σ) := by
  refine PCall_q [.tmp 4, .tmp 5] 87 Try.func9 (by rfl) rfl rfl rfl rfl ?_
  repeat' first
    | refine W_seq ?_
    | refine W_block ?_
    | ((first | refine W_region (mu := []) ?_ | (refine W_region_any (id := 1) [] ⟨[], [8,9], [6,7], [], [], [], 0⟩ mixedOrders_ok (by kernel_rfl) ?_; intro nu hn1 hn2) | (refine W_region_any [] ⟨[], [], [], [], [], [], 0⟩ mixedOrders_ok (by kernel_rfl) ?_; intro nu hn1 hn2) | refine fn_ret ?_ | refine fn_normal ?_ | refine Hold_P ?_ | refine prun_go ?_ | refine drun_go ?_); simp -dsimp only [go_sem, Nat.reduceLT, Nat.reduceLeDiff, Nat.reduceEqDiff, Nat.reduceAdd, Nat.reduceMul, Int.reduceNeg, Nat.reduceBEq, reduceCtorEq, ↓reduceIte, Cand.cells])
    | (refine W_cond rfl (fun h => ?_) (fun h => ?_) <;> (try (cases h; done)))
    | refine W_ret ?_
    | refine W_skip ?_
    | refine W_exit ?_
    | refine then_normal ?_
    | refine then_ret ?_
    | refine then_exit ?_
    | refine inBlock_normal ?_
    | refine inBlock_ret ?_
    | refine inBlock_exit ?_
    | refine inBlock_ne (by decide) ?_
    | refine Hold_E ?_
    | (refine And.intro ?_ ?_; omega)
    | ((first | (refine ite_goB (fun h => ?_) (fun h => ?_) <;> (try exact absurd ((h : _ = false).symm.trans (by assumption : _ = true)) (by decide)) <;> (try exact absurd ((by assumption : _ = false).symm.trans (h : _ = true)) (by decide))) | (refine ite_go (fun h => ?_) (fun h => ?_) <;> (try exact absurd h (by assumption)) <;> (try exact absurd (by assumption) h))) <;> (try refine Hold_P ?_) <;> (try simp -dsimp only [h, go_sem, Nat.reduceLT, Nat.reduceLeDiff, Nat.reduceEqDiff, Nat.reduceAdd, Nat.reduceMul, Int.reduceNeg, Nat.reduceBEq, reduceCtorEq, ↓reduceIte, Cand.cells]))
    | refine Exists.intro _ (Exists.intro _ (And.intro (And.intro rfl rfl) ?_))
  have h67 : ∀ (s : Store) (x : Ob), (s.put (nu 7) x) (nu 6) = s (nu 6) := fun s x => put_ne (fun e => by have := hn2 6 7 (by simp) (by simp) e; omega)
  have h76 : ∀ (s : Store) (x : Ob), (s.put (nu 6) x) (nu 7) = s (nu 7) := fun s x => put_ne (fun e => by have := hn2 7 6 (by simp) (by simp) e; omega)
  simp -dsimp only [h67, h76, go_sem, Nat.reduceLT, Nat.reduceLeDiff, Nat.reduceEqDiff, Nat.reduceAdd, Nat.reduceMul, Int.reduceNeg, Nat.reduceBEq, reduceCtorEq, ↓reduceIte]
  have hsub : ∀ (x y z w : Ob), σ.Sub ((((σ.put (nu 6) x).put (nu 7) y).put (nu 6) z).put (nu 7) w) := fun x y z w =>
    Sub_put (Sub_put (Sub_put (Sub_put (Store.Sub.refl _) (hn1 6 (by simp)) _) (hn1 7 (by simp)) _) (hn1 6 (by simp)) _) (hn1 7 (by simp)) _
  repeat' first
    | refine W_seq ?_
    | refine W_block ?_
    | ((first | refine W_region (mu := []) ?_ | (refine W_region_any (id := 1) [] ⟨[], [8,9], [6,7], [], [], [], 0⟩ mixedOrders_ok (by kernel_rfl) ?_; intro nu hn1 hn2) | (refine W_region_any (id := 2) [] ⟨[10,12,15,18,22,24,27,29,46,47], [], [], [], [], [], 0⟩ mixedOrders_ok (by kernel_rfl) ?_; intro nu hn1 hn2) | (refine W_region_any [] ⟨[], [], [], [], [], [], 0⟩ mixedOrders_ok (by kernel_rfl) ?_; intro nu hn1 hn2) | refine fn_ret ?_ | refine fn_normal ?_ | refine Hold_P ?_ | refine prun_go ?_ | refine drun_go ?_); simp -dsimp only [go_sem, Nat.reduceLT, Nat.reduceLeDiff, Nat.reduceEqDiff, Nat.reduceAdd, Nat.reduceMul, Int.reduceNeg, Nat.reduceBEq, reduceCtorEq, ↓reduceIte, Cand.cells, h67, h76])
    | (refine W_cond rfl (fun h => ?_) (fun h => ?_) <;> (try (cases h; done)))
    | refine W_ret ?_
    | refine W_skip ?_
    | refine W_exit ?_
    | refine then_normal ?_
    | refine then_ret ?_
    | refine then_exit ?_
    | refine inBlock_normal ?_
    | refine inBlock_ret ?_
    | refine inBlock_exit ?_
    | refine inBlock_ne (by decide) ?_
    | refine Hold_E ?_
    | (refine And.intro ?_ ?_; omega)
    | ((first | (refine ite_goB (fun h => ?_) (fun h => ?_) <;> (try exact absurd ((h : _ = false).symm.trans (by assumption : _ = true)) (by decide)) <;> (try exact absurd ((by assumption : _ = false).symm.trans (h : _ = true)) (by decide))) | (refine ite_go (fun h => ?_) (fun h => ?_) <;> (try exact absurd h (by assumption)) <;> (try exact absurd (by assumption) h))) <;> (try refine Hold_P ?_) <;> (try simp -dsimp only [h, go_sem, Nat.reduceLT, Nat.reduceLeDiff, Nat.reduceEqDiff, Nat.reduceAdd, Nat.reduceMul, Int.reduceNeg, Nat.reduceBEq, reduceCtorEq, ↓reduceIte, Cand.cells, h67, h76]))
    | refine Exists.intro _ (Exists.intro _ (And.intro (And.intro rfl rfl) ?_))
    | (refine PCall_use (first_spec _ _ _) ?_; rintro _ _ ⟨rfl, hq⟩; obtain rfl := hq.symm; clear hq)
    | (refine Exists.intro _ (And.intro (fun _ => first_spec _ _ _) ?_))
    | (refine Exists.intro _ (And.intro (first_spec _ _ _) ?_))
    | (refine Exists.intro _ (Exists.intro _ (And.intro (first_spec _ _ _) ?_)))
    | (refine PCall_use (cmpCompare_spec _ _ _) ?_; rintro _ _ ⟨rfl, hq⟩; obtain rfl := hq.symm; clear hq)
    | (refine Exists.intro _ (And.intro (fun _ => cmpCompare_spec _ _ _) ?_))
    | (refine Exists.intro _ (And.intro (cmpCompare_spec _ _ _) ?_))
    | (refine Exists.intro _ (Exists.intro _ (And.intro (cmpCompare_spec _ _ _) ?_)))
    | (refine PCall_use (attrCompare_spec _ _ ha hb _) ?_; rintro _ _ ⟨rfl, hq⟩; obtain rfl := hq.symm; clear hq)
    | (refine Exists.intro _ (And.intro (fun _ => attrCompare_spec _ _ ha hb _) ?_))
    | (refine Exists.intro _ (And.intro (attrCompare_spec _ _ ha hb _) ?_))
    | (refine Exists.intro _ (Exists.intro _ (And.intro (attrCompare_spec _ _ ha hb _) ?_)))
    | (refine PCall_use (attrCompare_spec _ _ hb ha _) ?_; rintro _ _ ⟨rfl, hq⟩; obtain rfl := hq.symm; clear hq)
    | (refine Exists.intro _ (And.intro (fun _ => attrCompare_spec _ _ hb ha _) ?_))
    | (refine Exists.intro _ (And.intro (attrCompare_spec _ _ hb ha _) ?_))
    | (refine Exists.intro _ (Exists.intro _ (And.intro (attrCompare_spec _ _ hb ha _) ?_)))
  have hlen : (rules a b).length = 10 := rfl
  refine W_loop_st (fun i : Nat => [(74, .sl .full (ints (rules a b))), (75, .int .i64 10), (76, .int .i64 i)]) (fun _ => _) (fun i => i ≤ 10 ∧ decCmp a b = firstNZ (i + 1) ((rules a b).drop i)) (fun i => 10 - i) 0 ⟨Nat.zero_le _, rfl⟩ (Env.Sub_of_has (by simp [Env.Has, Env.get, ints, rules, firstC])) (Store.Sub.refl _) ?_
  rintro i ⟨hi, hor⟩
  by_cases hlt : i < 10
  · have hx := getD_ints (l := rules a b) (i := i) (by omega)
    have hd : decide ((i : Int) < (10 : Int)) = true := decT (by omega)
    have ho := firstNZ_drop (rules a b) i (by omega) (i + 1)
    repeat' first
      | refine W_seq ?_
      | refine W_block ?_
      | ((first | refine W_region (mu := []) ?_ | (refine W_region_any [] ⟨[], [], [], [], [], [], 0⟩ mixedOrders_ok (by kernel_rfl) ?_; intro nu hn1 hn2) | refine fn_ret ?_ | refine fn_normal ?_ | refine Hold_P ?_ | refine prun_go ?_ | refine drun_go ?_); simp -dsimp only [go_sem, Nat.reduceLT, Nat.reduceLeDiff, Nat.reduceEqDiff, Nat.reduceAdd, Nat.reduceMul, Int.reduceNeg, Nat.reduceBEq, reduceCtorEq, ↓reduceIte, hx, hd])
      | (refine W_cond rfl (fun h => ?_) (fun h => ?_) <;> (try (cases h; done)))
      | refine W_ret ?_
      | refine W_skip ?_
      | refine W_exit ?_
      | refine then_normal ?_
      | refine then_ret ?_
      | refine then_exit ?_
      | refine inBlock_normal ?_
      | refine inBlock_ret ?_
      | refine inBlock_exit ?_
      | refine inBlock_ne (by decide) ?_
      | refine Hold_E ?_
      | (refine And.intro ?_ ?_; omega)
      | ((first | (refine ite_goB (fun h => ?_) (fun h => ?_) <;> (try exact absurd ((h : _ = false).symm.trans (by assumption : _ = true)) (by decide)) <;> (try exact absurd ((by assumption : _ = false).symm.trans (h : _ = true)) (by decide))) | (refine ite_go (fun h => ?_) (fun h => ?_) <;> (try exact absurd h (by assumption)) <;> (try exact absurd (by assumption) h))) <;> (try refine Hold_P ?_) <;> (try simp -dsimp only [h, go_sem, Nat.reduceLT, Nat.reduceLeDiff, Nat.reduceEqDiff, Nat.reduceAdd, Nat.reduceMul, Int.reduceNeg, Nat.reduceBEq, reduceCtorEq, ↓reduceIte, hx, hd]))
      | refine Exists.intro _ (Exists.intro _ (And.intro (And.intro rfl rfl) ?_))
    · have hne : ¬ (rules a b).getD i 0 = 0 := by simpa using h
      rw [if_neg hne] at ho
      refine ⟨?_, hsub _ _ _ _⟩
      rw [hor, ho, wrap_succ (show i < 4611686018427387904 by omega)]
      rfl
    · have he : (rules a b).getD i 0 = 0 := by simpa using h
      rw [if_pos he] at ho
      exact ⟨i + 1, by omega, ⟨by omega, by rw [hor, ho]; rfl⟩, Env.Sub_of_has (by simp [Env.Has, Env.get, wrap_succ (show i < 4611686018427387904 by omega)]), Store.Sub.refl _⟩
  · have hd : decide ((i : Int) < (10 : Int)) = false := decF (by omega)
    have hi' : i = 10 := by omega
    subst hi'
    have h0 : decCmp a b = (0, 0) := by rw [hor, List.drop_eq_nil_of_le (by omega)]; rfl
    repeat' first
      | refine W_seq ?_
      | refine W_block ?_
      | ((first | refine W_region (mu := []) ?_ | (refine W_region_any [] ⟨[], [], [], [], [], [], 0⟩ mixedOrders_ok (by kernel_rfl) ?_; intro nu hn1 hn2) | refine fn_ret ?_ | refine fn_normal ?_ | refine Hold_P ?_ | refine prun_go ?_ | refine drun_go ?_); simp -dsimp only [go_sem, Nat.reduceLT, Nat.reduceLeDiff, Nat.reduceEqDiff, Nat.reduceAdd, Nat.reduceMul, Int.reduceNeg, Nat.reduceBEq, reduceCtorEq, ↓reduceIte, hd, h0])
      | (refine W_cond rfl (fun h => ?_) (fun h => ?_) <;> (try (cases h; done)))
      | refine W_ret ?_
      | refine W_skip ?_
      | refine W_exit ?_
      | refine then_normal ?_
      | refine then_ret ?_
      | refine then_exit ?_
      | refine inBlock_normal ?_
      | refine inBlock_ret ?_
      | refine inBlock_exit ?_
      | refine inBlock_ne (by decide) ?_
      | refine Hold_E ?_
      | (refine And.intro ?_ ?_; omega)
      | ((first | (refine ite_goB (fun h => ?_) (fun h => ?_) <;> (try exact absurd ((h : _ = false).symm.trans (by assumption : _ = true)) (by decide)) <;> (try exact absurd ((by assumption : _ = false).symm.trans (h : _ = true)) (by decide))) | (refine ite_go (fun h => ?_) (fun h => ?_) <;> (try exact absurd h (by assumption)) <;> (try exact absurd (by assumption) h))) <;> (try refine Hold_P ?_) <;> (try simp -dsimp only [h, go_sem, Nat.reduceLT, Nat.reduceLeDiff, Nat.reduceEqDiff, Nat.reduceAdd, Nat.reduceMul, Int.reduceNeg, Nat.reduceBEq, reduceCtorEq, ↓reduceIte, hd, h0]))
      | refine Exists.intro _ (Exists.intro _ (And.intro (And.intro rfl rfl) ?_))
    exact hsub _ _ _ _
end Go.Proofs.Ytlbhhoojbokblaa
