/- The law HeapSorts, as a contract of the abstract layer: its own walk. Conditions: none. -/
import Derived.Test.YtoekaigdacaghaaHs
set_option linter.unusedVariables false
set_option linter.unusedSimpArgs false
namespace Go.Proofs.Ytoekaigdacaghaa
open Go.Kern
set_option maxRecDepth 100000
set_option maxHeartbeats 4000000
attribute [local go_sem] drun_nil drun_cons prun_nil prun_cons dstOk ev ofConst leafOf Env.putO Env.get envOf readRs_nil oneRes nilSide SK.isNil isMu fillA partsFit boundA SK.cut SK.cutFull SK.fresh rowOk rowsOk_nil rowsOk_cons rowsOk_append rowsOk_ints splice oneOf keyKind zeroFits TK.agg AV.cells AV.known AV.one List.set_cons_zero List.set_cons_succ put_same put_put forall_const implies_true exists_eq_left exists_eq_left' exists_eq_right exists_eq Store.Sub.refl and_self Int.toNat_natCast length_ints List.length_map true_and and_true decide_true decide_false if_true if_false Bool.false_eq_true Bool.true_eq_false List.getElem?_cons_zero List.getElem?_cons_succ List.length_cons List.length_nil List.drop_zero List.drop_succ_cons List.take_succ_cons List.take_zero List.drop_nil List.take_nil List.append_nil List.map_cons List.map_nil List.cons_append List.nil_append beq_self_eq_true Bool.false_beq Bool.true_beq Bool.not_true Bool.not_false Option.map_some Option.map_none Option.bind_some ne_eq not_false_eq_true List.contains_cons List.contains_nil Bool.or_false Bool.or_true Bool.and_true Bool.and_false Bool.true_and Bool.false_and List.all_cons List.all_nil Nat.one_ne_zero Nat.zero_ne_one Option.isSome_some Option.isSome_none List.getElem?_toArray beq_true beq_false decide_eq_true_eq Int.toNat_zero forall_ints take_ints drop_ints Int.le_refl Int.natCast_nonneg Nat.zero_add Nat.add_zero or_true true_or false_or or_false
attribute [local go_sem ↓] allocN guardP OpSem callA readRs_cons readR binA intOpA strOpA nilOpA unA convA boxA allocA behind loadA buildA buildSliceA fieldAddrA fieldA indexAddrA indexA lenA sliceA extractA nilCheckA storeA lookupA mapSetA mapDelA makeSliceA appendA appendN apN
attribute [local irreducible] PCall W

theorem content_ok (ranks : List Int) (keys : List ByteArray) : ∀ i, i ≤ keys.length → Srt (content ranks keys i) ∧ (∀ t, t ∈ content ranks keys i → t.w ≤ ((content ranks keys i).length : Int)) ∧ (content ranks keys i).length ≤ i
  | 0, _ => ⟨.nil, nofun, Nat.le_refl _⟩
  | i + 1, h => by
    obtain ⟨h1, h2, h3⟩ := content_ok ranks keys i (by omega)
    rw [content_succ ranks (show i < keys.length by omega)]
    unfold addK
    split
    · exact ⟨h1, h2, by omega⟩
    · rename_i hk
      have hno : ∀ t, t ∈ content ranks keys i → t.k ≠ keys.getD i ⟨#[]⟩ := fun t ht e => hk (hasK_iff.2 ⟨t, ht, e⟩)
      refine ⟨?_, fun t ht => ?_, by simp; omega⟩
      · unfold Srt
        rw [List.pairwise_append]
        refine ⟨h1, List.pairwise_singleton _ _, fun a ha b hb => ?_⟩
        rw [List.mem_singleton] at hb
        subst hb
        exact ⟨by have := h2 a ha; simp only; omega, hno a ha⟩
      · rw [List.length_append, List.length_singleton]
        rcases List.mem_append.1 ht with ht | ht
        · have := h2 t ht; omega
        · rw [List.mem_singleton] at ht; subst ht; simp

theorem strs_take {keys : List ByteArray} {i : Nat} (h : i < keys.length) : strs (keys.take i) ++ [.str (keys.getD i ⟨#[]⟩)] = strs (keys.take (i + 1)) := by
  have hg : keys.getD i ⟨#[]⟩ = keys[i] := by simp [List.getD_eq_getElem?_getD, h]
  rw [List.take_succ_eq_append_getElem h, hg, ← strs_snoc]

theorem sorts_spec (kd k2 : SK) (keys : List ByteArray) (ranks : List Int) (σ : Store) : PCall Try.prog 4 [.sl kd (strs keys), .sl k2 (ints ranks)] σ (fun r t => r = .bool true ∧ t = σ) := by
  have getS : ∀ {l : List ByteArray} {i : Nat}, i < l.length → (strs l).getD i .any = .str (l.getD i ⟨#[]⟩) := fun h => getD_map AV.str ⟨#[]⟩ h
  refine PCall_w [.tmp 4] 72 Try.func4 (by rfl) rfl rfl rfl rfl ?_
  by_cases h60 : keys.length ≤ 60
  · have d0 : decide (60 < (keys.length : Int)) = false := decF (by omega)
    repeat' first
      | refine W_seq ?_
      | refine W_block ?_
      | ((first | refine W_region (mu := []) ?_ | (refine W_region_any [] ⟨[], [], [], [], []⟩ mixedOrders_ok (by kernel_rfl) ?_; intro nu hn1 hn2) | refine fn_ret ?_ | refine fn_normal ?_ | refine Hold_P ?_ | refine prun_go ?_ | refine drun_go ?_); simp -dsimp only [go_sem, Nat.reduceLT, Nat.reduceLeDiff, Nat.reduceEqDiff, Nat.reduceAdd, Nat.reduceMul, Int.reduceNeg, Nat.reduceBEq, reduceCtorEq, ↓reduceIte, length_strs, d0])
      | (refine W_cond rfl (fun h => ?_) (fun h => ?_) <;> (try (cases h; done)))
      | refine W_ret ?_
      | refine W_skip ?_
      | refine W_exit ?_
      | refine then_normal ?_
      | refine then_ret ?_
      | refine then_exit ?_
      | refine inBlock_normal ?_
      | refine inBlock_ret ?_
      | refine inBlock_exit ?_
      | refine inBlock_ne (by decide) ?_
      | refine Hold_E ?_
      | (refine And.intro ?_ ?_; omega)
      | ((first | (refine ite_goB (fun h => ?_) (fun h => ?_) <;> (try exact absurd ((h : _ = false).symm.trans (by assumption : _ = true)) (by decide)) <;> (try exact absurd ((by assumption : _ = false).symm.trans (h : _ = true)) (by decide))) | (refine ite_go (fun h => ?_) (fun h => ?_) <;> (try exact absurd h (by assumption)) <;> (try exact absurd (by assumption) h))) <;> (try refine Hold_P ?_) <;> (try simp -dsimp only [h, go_sem, Nat.reduceLT, Nat.reduceLeDiff, Nat.reduceEqDiff, Nat.reduceAdd, Nat.reduceMul, Int.reduceNeg, Nat.reduceBEq, reduceCtorEq, ↓reduceIte, length_strs, d0]))
      | refine Exists.intro _ (Exists.intro _ (And.intro (And.intro rfl rfl) ?_))
    refine W_loop_st (fun a : Nat × Nat × SK => [(0, .sl kd (strs keys)), (3, .ip (.sl k2 (ints ranks)) 0), (5, .sl a.2.2 (krs (content ranks keys a.1))), (6, if a.1 = 0 then .sl .nil [] else .sl (.tip a.2.1) (strs (keys.take a.1))), (7, .fn 20 [.ip (.sl k2 (ints ranks)) 0]), (8, .int .i64 a.1)]) (fun a => if a.1 = 0 then σ else σ.put a.2.1 (.tip a.1 9 1))
      (fun a => a.1 ≤ keys.length ∧ (a.1 ≠ 0 → σ a.2.1 = none) ∧ ∀ j, j < a.1 → (keys.getD j ⟨#[]⟩).size ≤ 200) (fun a => keys.length - a.1) (0, 0, .nil) ⟨Nat.zero_le _, fun h => absurd rfl h, fun j hj => by simp at hj⟩ (Env.Sub_of_has (by simp [Env.Has, Env.get, content, krs])) (Store.Sub.refl _) ?_
    rintro ⟨i, o, kl⟩ ⟨hi, ho, hsm⟩
    simp only at hi ho hsm
    obtain ⟨hsrt, hw, hcl⟩ := content_ok ranks keys i hi
    by_cases hlt : i < keys.length
    · have c0 : decide ((i : Int) < (keys.length : Int)) = true := decT (by omega)
      have q1 : ((i : Int) < (keys.length : Int)) = True := eq_true (by omega)
      have hx := getS hlt
      have hst := strs_take hlt
      have hcs := content_succ ranks hlt
      have hsc := wrap_succ (show i < 4611686018427387904 by omega)
      have hti : (keys.take i).length = i := by rw [List.length_take]; omega
      have hti1 : (keys.take (i + 1)).length = i + 1 := by rw [List.length_take]; omega
      by_cases h200 : (keys.getD i ⟨#[]⟩).size ≤ 200
      · have c1 : decide (200 < ((keys.getD i ⟨#[]⟩).size : Int)) = false := decF (by omega)
        have hat := at_spec kl (content ranks keys i) (by omega) (keys.getD i ⟨#[]⟩)
        have hall : ∀ j, j < i + 1 → (keys.getD j ⟨#[]⟩).size ≤ 200 := fun j hj => by
          by_cases q : j = i
          · rw [q]; exact h200
          · exact hsm j (by omega)
        have hrk := rank_spec k2 ranks (keys.getD i ⟨#[]⟩) h200
        have hset := rset_imm kl (content ranks keys i) (by omega) (Keys.of hsrt) (keys.getD i ⟨#[]⟩) (rankZ ranks (keys.getD i ⟨#[]⟩)) (((content ranks keys i).length : Int) + 1)
        by_cases hh : ∃ t, t ∈ content ranks keys i ∧ t.k = keys.getD i ⟨#[]⟩
        · obtain ⟨n, hn, e, hix⟩ := idxK_some (n := 0) hh
          rw [Int.zero_add] at hix
          rw [hix] at hat
          have c2 : decide ((n : Int) < 0) = false := decF (by omega)
          have hc2 : content ranks keys (i + 1) = content ranks keys i := by rw [hcs, addK, if_pos (hasK_iff.2 hh)]
          by_cases i0 : i = 0
          · subst i0
            simp [content] at hn
          · have i0' : (i = 0) = False := eq_false i0
            repeat' first
              | refine W_seq ?_
              | refine W_block ?_
              | ((first | refine W_region (mu := []) ?_ | (refine W_region_any [] ⟨[], [], [], [], []⟩ mixedOrders_ok (by kernel_rfl) ?_; intro nu hn1 hn2) | refine fn_ret ?_ | refine fn_normal ?_ | refine Hold_P ?_ | refine prun_go ?_ | refine drun_go ?_); simp -dsimp only [go_sem, Nat.reduceLT, Nat.reduceLeDiff, Nat.reduceEqDiff, Nat.reduceAdd, Nat.reduceMul, Int.reduceNeg, Nat.reduceBEq, reduceCtorEq, ↓reduceIte, length_strs, c0, c1, c2, q1, hx, i0', hti, hti1, hst, rowsOk_strs])
              | (refine W_cond rfl (fun h => ?_) (fun h => ?_) <;> (try (cases h; done)))
              | refine W_ret ?_
              | refine W_skip ?_
              | refine W_exit ?_
              | refine then_normal ?_
              | refine then_ret ?_
              | refine then_exit ?_
              | refine inBlock_normal ?_
              | refine inBlock_ret ?_
              | refine inBlock_exit ?_
              | refine inBlock_ne (by decide) ?_
              | refine Hold_E ?_
              | (refine And.intro ?_ ?_; omega)
              | ((first | (refine ite_goB (fun h => ?_) (fun h => ?_) <;> (try exact absurd ((h : _ = false).symm.trans (by assumption : _ = true)) (by decide)) <;> (try exact absurd ((by assumption : _ = false).symm.trans (h : _ = true)) (by decide))) | (refine ite_go (fun h => ?_) (fun h => ?_) <;> (try exact absurd h (by assumption)) <;> (try exact absurd (by assumption) h))) <;> (try refine Hold_P ?_) <;> (try simp -dsimp only [h, go_sem, Nat.reduceLT, Nat.reduceLeDiff, Nat.reduceEqDiff, Nat.reduceAdd, Nat.reduceMul, Int.reduceNeg, Nat.reduceBEq, reduceCtorEq, ↓reduceIte, length_strs, c0, c1, c2, q1, hx, i0', hti, hti1, hst, rowsOk_strs]))
              | refine Exists.intro _ (Exists.intro _ (And.intro (And.intro rfl rfl) ?_))
              | (refine PCall_use (hat _) ?_; rintro _ _ ⟨rfl, hq⟩; obtain rfl := hq.symm; clear hq)
              | (refine Exists.intro _ (And.intro (fun _ => hat _) ?_))
              | (refine Exists.intro _ (And.intro (hat _) ?_))
              | (refine Exists.intro _ (Exists.intro _ (And.intro (hat _) ?_)))
            exact ⟨(i + 1, o, kl), by simp only; omega, ⟨by simp only; omega, fun _ => ho i0, hall⟩, Env.Sub_of_has (by simp [Env.Has, Env.get, hsc, hc2]), by rw [if_neg (by simp)]; exact Store.Sub.refl _⟩
        · have hnk : ∀ t, t ∈ content ranks keys i → t.k ≠ keys.getD i ⟨#[]⟩ := fun t ht e => hh ⟨t, ht, e⟩
          rw [idxK_none hnk] at hat
          rw [without_none hnk] at hset
          have c2 : decide ((-1 : Int) < 0) = true := by decide
          have hc2 : content ranks keys (i + 1) = content ranks keys i ++ [⟨keys.getD i ⟨#[]⟩, rankZ ranks (keys.getD i ⟨#[]⟩), ((content ranks keys i).length : Int) + 1⟩] := by
            rw [hcs, addK, if_neg (fun h => hh (hasK_iff.1 h))]
          rw [← hc2] at hset
          by_cases i0 : i = 0
          · subst i0
            repeat' first
              | refine W_seq ?_
              | refine W_block ?_
              | ((first | refine W_region (mu := []) ?_ | (refine W_region_any [] ⟨[], [], [], [], []⟩ mixedOrders_ok (by kernel_rfl) ?_; intro nu hn1 hn2) | refine fn_ret ?_ | refine fn_normal ?_ | refine Hold_P ?_ | refine prun_go ?_ | refine drun_go ?_); simp -dsimp only [go_sem, Nat.reduceLT, Nat.reduceLeDiff, Nat.reduceEqDiff, Nat.reduceAdd, Nat.reduceMul, Int.reduceNeg, Nat.reduceBEq, reduceCtorEq, ↓reduceIte, length_strs, c0, c1, c2, q1, hx, rowsOk_strs])
              | (refine W_cond rfl (fun h => ?_) (fun h => ?_) <;> (try (cases h; done)))
              | refine W_ret ?_
              | refine W_skip ?_
              | refine W_exit ?_
              | refine then_normal ?_
              | refine then_ret ?_
              | refine then_exit ?_
              | refine inBlock_normal ?_
              | refine inBlock_ret ?_
              | refine inBlock_exit ?_
              | refine inBlock_ne (by decide) ?_
              | refine Hold_E ?_
              | (refine And.intro ?_ ?_; omega)
              | ((first | (refine ite_goB (fun h => ?_) (fun h => ?_) <;> (try exact absurd ((h : _ = false).symm.trans (by assumption : _ = true)) (by decide)) <;> (try exact absurd ((by assumption : _ = false).symm.trans (h : _ = true)) (by decide))) | (refine ite_go (fun h => ?_) (fun h => ?_) <;> (try exact absurd h (by assumption)) <;> (try exact absurd (by assumption) h))) <;> (try refine Hold_P ?_) <;> (try simp -dsimp only [h, go_sem, Nat.reduceLT, Nat.reduceLeDiff, Nat.reduceEqDiff, Nat.reduceAdd, Nat.reduceMul, Int.reduceNeg, Nat.reduceBEq, reduceCtorEq, ↓reduceIte, length_strs, c0, c1, c2, q1, hx, rowsOk_strs]))
              | refine Exists.intro _ (Exists.intro _ (And.intro (And.intro rfl rfl) ?_))
            intro o1 ho1
            repeat' first
              | refine W_seq ?_
              | refine W_block ?_
              | ((first | refine W_region (mu := []) ?_ | (refine W_region_any [] ⟨[], [], [], [], []⟩ mixedOrders_ok (by kernel_rfl) ?_; intro nu hn1 hn2) | refine fn_ret ?_ | refine fn_normal ?_ | refine Hold_P ?_ | refine prun_go ?_ | refine drun_go ?_); simp -dsimp only [go_sem, Nat.reduceLT, Nat.reduceLeDiff, Nat.reduceEqDiff, Nat.reduceAdd, Nat.reduceMul, Int.reduceNeg, Nat.reduceBEq, reduceCtorEq, ↓reduceIte, length_strs, c0, c1, c2, q1, hx, rowsOk_strs])
              | (refine W_cond rfl (fun h => ?_) (fun h => ?_) <;> (try (cases h; done)))
              | refine W_ret ?_
              | refine W_skip ?_
              | refine W_exit ?_
              | refine then_normal ?_
              | refine then_ret ?_
              | refine then_exit ?_
              | refine inBlock_normal ?_
              | refine inBlock_ret ?_
              | refine inBlock_exit ?_
              | refine inBlock_ne (by decide) ?_
              | refine Hold_E ?_
              | (refine And.intro ?_ ?_; omega)
              | ((first | (refine ite_goB (fun h => ?_) (fun h => ?_) <;> (try exact absurd ((h : _ = false).symm.trans (by assumption : _ = true)) (by decide)) <;> (try exact absurd ((by assumption : _ = false).symm.trans (h : _ = true)) (by decide))) | (refine ite_go (fun h => ?_) (fun h => ?_) <;> (try exact absurd h (by assumption)) <;> (try exact absurd (by assumption) h))) <;> (try refine Hold_P ?_) <;> (try simp -dsimp only [h, go_sem, Nat.reduceLT, Nat.reduceLeDiff, Nat.reduceEqDiff, Nat.reduceAdd, Nat.reduceMul, Int.reduceNeg, Nat.reduceBEq, reduceCtorEq, ↓reduceIte, length_strs, c0, c1, c2, q1, hx, rowsOk_strs]))
              | refine Exists.intro _ (Exists.intro _ (And.intro (And.intro rfl rfl) ?_))
              | (refine PCall_use (hat _) ?_; rintro _ _ ⟨rfl, hq⟩; obtain rfl := hq.symm; clear hq)
              | (refine Exists.intro _ (And.intro (fun _ => hat _) ?_))
              | (refine Exists.intro _ (And.intro (hat _) ?_))
              | (refine Exists.intro _ (Exists.intro _ (And.intro (hat _) ?_)))
              | (refine PCall_use (hrk _) ?_; rintro _ _ ⟨rfl, hq⟩; obtain rfl := hq.symm; clear hq)
              | (refine Exists.intro _ (And.intro (fun _ => hrk _) ?_))
              | (refine Exists.intro _ (And.intro (hrk _) ?_))
              | (refine Exists.intro _ (Exists.intro _ (And.intro (hrk _) ?_)))
              | (refine PCall_use (hset _) ?_; rintro _ _ ⟨rfl, hq⟩; obtain rfl := hq.symm; clear hq)
              | (refine Exists.intro _ (And.intro (fun _ => hset _) ?_))
              | (refine Exists.intro _ (And.intro (hset _) ?_))
              | (refine Exists.intro _ (Exists.intro _ (And.intro (hset _) ?_)))
            have h1 : strs (keys.take 1) = [.str (keys.getD 0 ⟨#[]⟩)] := by rw [← hst]; rfl
            exact ⟨(1, o1, .imm), by simp only; omega, ⟨by simp only; omega, fun _ => ho1, hall⟩, Env.Sub_of_has (by simp [Env.Has, Env.get, (by decide : IntKind.i64.wrap 1 = 1), h1]), Store.Sub.refl _⟩
          · have i0' : (i = 0) = False := eq_false i0
            repeat' first
              | refine W_seq ?_
              | refine W_block ?_
              | ((first | refine W_region (mu := []) ?_ | (refine W_region_any [] ⟨[], [], [], [], []⟩ mixedOrders_ok (by kernel_rfl) ?_; intro nu hn1 hn2) | refine fn_ret ?_ | refine fn_normal ?_ | refine Hold_P ?_ | refine prun_go ?_ | refine drun_go ?_); simp -dsimp only [go_sem, Nat.reduceLT, Nat.reduceLeDiff, Nat.reduceEqDiff, Nat.reduceAdd, Nat.reduceMul, Int.reduceNeg, Nat.reduceBEq, reduceCtorEq, ↓reduceIte, length_strs, c0, c1, c2, q1, hx, i0', hti, hti1, hst, rowsOk_strs])
              | (refine W_cond rfl (fun h => ?_) (fun h => ?_) <;> (try (cases h; done)))
              | refine W_ret ?_
              | refine W_skip ?_
              | refine W_exit ?_
              | refine then_normal ?_
              | refine then_ret ?_
              | refine then_exit ?_
              | refine inBlock_normal ?_
              | refine inBlock_ret ?_
              | refine inBlock_exit ?_
              | refine inBlock_ne (by decide) ?_
              | refine Hold_E ?_
              | (refine And.intro ?_ ?_; omega)
              | ((first | (refine ite_goB (fun h => ?_) (fun h => ?_) <;> (try exact absurd ((h : _ = false).symm.trans (by assumption : _ = true)) (by decide)) <;> (try exact absurd ((by assumption : _ = false).symm.trans (h : _ = true)) (by decide))) | (refine ite_go (fun h => ?_) (fun h => ?_) <;> (try exact absurd h (by assumption)) <;> (try exact absurd (by assumption) h))) <;> (try refine Hold_P ?_) <;> (try simp -dsimp only [h, go_sem, Nat.reduceLT, Nat.reduceLeDiff, Nat.reduceEqDiff, Nat.reduceAdd, Nat.reduceMul, Int.reduceNeg, Nat.reduceBEq, reduceCtorEq, ↓reduceIte, length_strs, c0, c1, c2, q1, hx, i0', hti, hti1, hst, rowsOk_strs]))
              | refine Exists.intro _ (Exists.intro _ (And.intro (And.intro rfl rfl) ?_))
              | (refine PCall_use (hat _) ?_; rintro _ _ ⟨rfl, hq⟩; obtain rfl := hq.symm; clear hq)
              | (refine Exists.intro _ (And.intro (fun _ => hat _) ?_))
              | (refine Exists.intro _ (And.intro (hat _) ?_))
              | (refine Exists.intro _ (Exists.intro _ (And.intro (hat _) ?_)))
              | (refine PCall_use (hrk _) ?_; rintro _ _ ⟨rfl, hq⟩; obtain rfl := hq.symm; clear hq)
              | (refine Exists.intro _ (And.intro (fun _ => hrk _) ?_))
              | (refine Exists.intro _ (And.intro (hrk _) ?_))
              | (refine Exists.intro _ (Exists.intro _ (And.intro (hrk _) ?_)))
              | (refine PCall_use (hset _) ?_; rintro _ _ ⟨rfl, hq⟩; obtain rfl := hq.symm; clear hq)
              | (refine Exists.intro _ (And.intro (fun _ => hset _) ?_))
              | (refine Exists.intro _ (And.intro (hset _) ?_))
              | (refine Exists.intro _ (Exists.intro _ (And.intro (hset _) ?_)))
            exact ⟨(i + 1, o, .imm), by simp only; omega, ⟨by simp only; omega, fun _ => ho i0, hall⟩, Env.Sub_of_has (by simp [Env.Has, Env.get, hsc]), by rw [if_neg (by simp)]; exact Store.Sub.refl _⟩
      · have c1 : decide (200 < ((keys.getD i ⟨#[]⟩).size : Int)) = true := decT (by omega)
        by_cases i0 : i = 0
        · subst i0
          repeat' first
            | refine W_seq ?_
            | refine W_block ?_
            | ((first | refine W_region (mu := []) ?_ | (refine W_region_any [] ⟨[], [], [], [], []⟩ mixedOrders_ok (by kernel_rfl) ?_; intro nu hn1 hn2) | refine fn_ret ?_ | refine fn_normal ?_ | refine Hold_P ?_ | refine prun_go ?_ | refine drun_go ?_); simp -dsimp only [go_sem, Nat.reduceLT, Nat.reduceLeDiff, Nat.reduceEqDiff, Nat.reduceAdd, Nat.reduceMul, Int.reduceNeg, Nat.reduceBEq, reduceCtorEq, ↓reduceIte, length_strs, c0, c1, q1, hx])
            | (refine W_cond rfl (fun h => ?_) (fun h => ?_) <;> (try (cases h; done)))
            | refine W_ret ?_
            | refine W_skip ?_
            | refine W_exit ?_
            | refine then_normal ?_
            | refine then_ret ?_
            | refine then_exit ?_
            | refine inBlock_normal ?_
            | refine inBlock_ret ?_
            | refine inBlock_exit ?_
            | refine inBlock_ne (by decide) ?_
            | refine Hold_E ?_
            | (refine And.intro ?_ ?_; omega)
            | ((first | (refine ite_goB (fun h => ?_) (fun h => ?_) <;> (try exact absurd ((h : _ = false).symm.trans (by assumption : _ = true)) (by decide)) <;> (try exact absurd ((by assumption : _ = false).symm.trans (h : _ = true)) (by decide))) | (refine ite_go (fun h => ?_) (fun h => ?_) <;> (try exact absurd h (by assumption)) <;> (try exact absurd (by assumption) h))) <;> (try refine Hold_P ?_) <;> (try simp -dsimp only [h, go_sem, Nat.reduceLT, Nat.reduceLeDiff, Nat.reduceEqDiff, Nat.reduceAdd, Nat.reduceMul, Int.reduceNeg, Nat.reduceBEq, reduceCtorEq, ↓reduceIte, length_strs, c0, c1, q1, hx]))
            | refine Exists.intro _ (Exists.intro _ (And.intro (And.intro rfl rfl) ?_))
            | (refine PCall_use (lives_spec _) ?_; rintro _ _ ⟨rfl, hq⟩; obtain rfl := hq.symm; clear hq)
            | (refine Exists.intro _ (And.intro (fun _ => lives_spec _) ?_))
            | (refine Exists.intro _ (And.intro (lives_spec _) ?_))
            | (refine Exists.intro _ (Exists.intro _ (And.intro (lives_spec _) ?_)))
        · have i0' : (i = 0) = False := eq_false i0
          repeat' first
            | refine W_seq ?_
            | refine W_block ?_
            | ((first | refine W_region (mu := []) ?_ | (refine W_region_any [] ⟨[], [], [], [], []⟩ mixedOrders_ok (by kernel_rfl) ?_; intro nu hn1 hn2) | refine fn_ret ?_ | refine fn_normal ?_ | refine Hold_P ?_ | refine prun_go ?_ | refine drun_go ?_); simp -dsimp only [go_sem, Nat.reduceLT, Nat.reduceLeDiff, Nat.reduceEqDiff, Nat.reduceAdd, Nat.reduceMul, Int.reduceNeg, Nat.reduceBEq, reduceCtorEq, ↓reduceIte, length_strs, c0, c1, q1, hx, i0'])
            | (refine W_cond rfl (fun h => ?_) (fun h => ?_) <;> (try (cases h; done)))
            | refine W_ret ?_
            | refine W_skip ?_
            | refine W_exit ?_
            | refine then_normal ?_
            | refine then_ret ?_
            | refine then_exit ?_
            | refine inBlock_normal ?_
            | refine inBlock_ret ?_
            | refine inBlock_exit ?_
            | refine inBlock_ne (by decide) ?_
            | refine Hold_E ?_
            | (refine And.intro ?_ ?_; omega)
            | ((first | (refine ite_goB (fun h => ?_) (fun h => ?_) <;> (try exact absurd ((h : _ = false).symm.trans (by assumption : _ = true)) (by decide)) <;> (try exact absurd ((by assumption : _ = false).symm.trans (h : _ = true)) (by decide))) | (refine ite_go (fun h => ?_) (fun h => ?_) <;> (try exact absurd h (by assumption)) <;> (try exact absurd (by assumption) h))) <;> (try refine Hold_P ?_) <;> (try simp -dsimp only [h, go_sem, Nat.reduceLT, Nat.reduceLeDiff, Nat.reduceEqDiff, Nat.reduceAdd, Nat.reduceMul, Int.reduceNeg, Nat.reduceBEq, reduceCtorEq, ↓reduceIte, length_strs, c0, c1, q1, hx, i0']))
            | refine Exists.intro _ (Exists.intro _ (And.intro (And.intro rfl rfl) ?_))
            | (refine PCall_use (lives_spec _) ?_; rintro _ _ ⟨rfl, hq⟩; obtain rfl := hq.symm; clear hq)
            | (refine Exists.intro _ (And.intro (fun _ => lives_spec _) ?_))
            | (refine Exists.intro _ (And.intro (lives_spec _) ?_))
            | (refine Exists.intro _ (Exists.intro _ (And.intro (lives_spec _) ?_)))
          exact Sub_put (Store.Sub.refl _) (ho i0) _
    · have c0 : decide ((i : Int) < (keys.length : Int)) = false := decF (by omega)
      have hi' : i = keys.length := by omega
      subst hi'
      by_cases i0 : keys.length = 0
      · have hk0 : keys = [] := List.eq_nil_of_length_eq_zero i0
        subst hk0
        repeat' first
          | refine W_seq ?_
          | refine W_block ?_
          | ((first | refine W_region (mu := []) ?_ | (refine W_region_any [] ⟨[], [], [], [], []⟩ mixedOrders_ok (by kernel_rfl) ?_; intro nu hn1 hn2) | refine fn_ret ?_ | refine fn_normal ?_ | refine Hold_P ?_ | refine prun_go ?_ | refine drun_go ?_); simp -dsimp only [go_sem, Nat.reduceLT, Nat.reduceLeDiff, Nat.reduceEqDiff, Nat.reduceAdd, Nat.reduceMul, Int.reduceNeg, Nat.reduceBEq, reduceCtorEq, ↓reduceIte, length_strs, c0])
          | (refine W_cond rfl (fun h => ?_) (fun h => ?_) <;> (try (cases h; done)))
          | refine W_ret ?_
          | refine W_skip ?_
          | refine W_exit ?_
          | refine then_normal ?_
          | refine then_ret ?_
          | refine then_exit ?_
          | refine inBlock_normal ?_
          | refine inBlock_ret ?_
          | refine inBlock_exit ?_
          | refine inBlock_ne (by decide) ?_
          | refine Hold_E ?_
          | (refine And.intro ?_ ?_; omega)
          | ((first | (refine ite_goB (fun h => ?_) (fun h => ?_) <;> (try exact absurd ((h : _ = false).symm.trans (by assumption : _ = true)) (by decide)) <;> (try exact absurd ((by assumption : _ = false).symm.trans (h : _ = true)) (by decide))) | (refine ite_go (fun h => ?_) (fun h => ?_) <;> (try exact absurd h (by assumption)) <;> (try exact absurd (by assumption) h))) <;> (try refine Hold_P ?_) <;> (try simp -dsimp only [h, go_sem, Nat.reduceLT, Nat.reduceLeDiff, Nat.reduceEqDiff, Nat.reduceAdd, Nat.reduceMul, Int.reduceNeg, Nat.reduceBEq, reduceCtorEq, ↓reduceIte, length_strs, c0]))
          | refine Exists.intro _ (Exists.intro _ (And.intro (And.intro rfl rfl) ?_))
        refine PCall_use (sort_spec kd k2 ranks [] (by simp) (fun j hj => by simp at hj) _) ?_
        rintro _ T ⟨⟨k3, lo, h1, rfl, hlo⟩, hq⟩
        obtain rfl := hq.symm
        clear hq
        repeat' first
          | refine W_seq ?_
          | refine W_block ?_
          | ((first | refine W_region (mu := []) ?_ | (refine W_region_any [] ⟨[], [], [], [], []⟩ mixedOrders_ok (by kernel_rfl) ?_; intro nu hn1 hn2) | refine fn_ret ?_ | refine fn_normal ?_ | refine Hold_P ?_ | refine prun_go ?_ | refine drun_go ?_); simp -dsimp only [go_sem, Nat.reduceLT, Nat.reduceLeDiff, Nat.reduceEqDiff, Nat.reduceAdd, Nat.reduceMul, Int.reduceNeg, Nat.reduceBEq, reduceCtorEq, ↓reduceIte])
          | (refine W_cond rfl (fun h => ?_) (fun h => ?_) <;> (try (cases h; done)))
          | refine W_ret ?_
          | refine W_skip ?_
          | refine W_exit ?_
          | refine then_normal ?_
          | refine then_ret ?_
          | refine then_exit ?_
          | refine inBlock_normal ?_
          | refine inBlock_ret ?_
          | refine inBlock_exit ?_
          | refine inBlock_ne (by decide) ?_
          | refine Hold_E ?_
          | (refine And.intro ?_ ?_; omega)
          | ((first | (refine ite_goB (fun h => ?_) (fun h => ?_) <;> (try exact absurd ((h : _ = false).symm.trans (by assumption : _ = true)) (by decide)) <;> (try exact absurd ((by assumption : _ = false).symm.trans (h : _ = true)) (by decide))) | (refine ite_go (fun h => ?_) (fun h => ?_) <;> (try exact absurd h (by assumption)) <;> (try exact absurd (by assumption) h))) <;> (try refine Hold_P ?_) <;> (try simp -dsimp only [h, go_sem, Nat.reduceLT, Nat.reduceLeDiff, Nat.reduceEqDiff, Nat.reduceAdd, Nat.reduceMul, Int.reduceNeg, Nat.reduceBEq, reduceCtorEq, ↓reduceIte]))
          | refine Exists.intro _ (Exists.intro _ (And.intro (And.intro rfl rfl) ?_))
        refine PCall_use (rall_spec kl _ (by omega) hsrt _) ?_
        rintro _ T ⟨⟨k4, l2, h2, rfl⟩, hq⟩
        obtain rfl := hq.symm
        clear hq
        have e := h1.one hsrt h2
        subst e
        repeat' first
          | refine W_seq ?_
          | refine W_block ?_
          | ((first | refine W_region (mu := []) ?_ | (refine W_region_any [] ⟨[], [], [], [], []⟩ mixedOrders_ok (by kernel_rfl) ?_; intro nu hn1 hn2) | refine fn_ret ?_ | refine fn_normal ?_ | refine Hold_P ?_ | refine prun_go ?_ | refine drun_go ?_); simp -dsimp only [go_sem, Nat.reduceLT, Nat.reduceLeDiff, Nat.reduceEqDiff, Nat.reduceAdd, Nat.reduceMul, Int.reduceNeg, Nat.reduceBEq, reduceCtorEq, ↓reduceIte])
          | (refine W_cond rfl (fun h => ?_) (fun h => ?_) <;> (try (cases h; done)))
          | refine W_ret ?_
          | refine W_skip ?_
          | refine W_exit ?_
          | refine then_normal ?_
          | refine then_ret ?_
          | refine then_exit ?_
          | refine inBlock_normal ?_
          | refine inBlock_ret ?_
          | refine inBlock_exit ?_
          | refine inBlock_ne (by decide) ?_
          | refine Hold_E ?_
          | (refine And.intro ?_ ?_; omega)
          | ((first | (refine ite_goB (fun h => ?_) (fun h => ?_) <;> (try exact absurd ((h : _ = false).symm.trans (by assumption : _ = true)) (by decide)) <;> (try exact absurd ((by assumption : _ = false).symm.trans (h : _ = true)) (by decide))) | (refine ite_go (fun h => ?_) (fun h => ?_) <;> (try exact absurd h (by assumption)) <;> (try exact absurd (by assumption) h))) <;> (try refine Hold_P ?_) <;> (try simp -dsimp only [h, go_sem, Nat.reduceLT, Nat.reduceLeDiff, Nat.reduceEqDiff, Nat.reduceAdd, Nat.reduceMul, Int.reduceNeg, Nat.reduceBEq, reduceCtorEq, ↓reduceIte]))
          | refine Exists.intro _ (Exists.intro _ (And.intro (And.intro rfl rfl) ?_))
          | (refine PCall_use (same_spec _ _ lo lo (by omega) _) ?_; rintro _ _ ⟨rfl, hq⟩; obtain rfl := hq.symm; clear hq)
          | (refine Exists.intro _ (And.intro (fun _ => same_spec _ _ lo lo (by omega) _) ?_))
          | (refine Exists.intro _ (And.intro (same_spec _ _ lo lo (by omega) _) ?_))
          | (refine Exists.intro _ (Exists.intro _ (And.intro (same_spec _ _ lo lo (by omega) _) ?_)))
          | (refine PCall_use (same_spec kd .nil [] [] (by simp) _) ?_; rintro _ _ ⟨rfl, hq⟩; obtain rfl := hq.symm; clear hq)
          | (refine Exists.intro _ (And.intro (fun _ => same_spec kd .nil [] [] (by simp) _) ?_))
          | (refine Exists.intro _ (And.intro (same_spec kd .nil [] [] (by simp) _) ?_))
          | (refine Exists.intro _ (Exists.intro _ (And.intro (same_spec kd .nil [] [] (by simp) _) ?_)))
          | (refine PCall_use (lives_spec _) ?_; rintro _ _ ⟨rfl, hq⟩; obtain rfl := hq.symm; clear hq)
          | (refine Exists.intro _ (And.intro (fun _ => lives_spec _) ?_))
          | (refine Exists.intro _ (And.intro (lives_spec _) ?_))
          | (refine Exists.intro _ (Exists.intro _ (And.intro (lives_spec _) ?_)))
      · have i0' : (keys.length = 0) = False := eq_false i0
        repeat' first
          | refine W_seq ?_
          | refine W_block ?_
          | ((first | refine W_region (mu := []) ?_ | (refine W_region_any [] ⟨[], [], [], [], []⟩ mixedOrders_ok (by kernel_rfl) ?_; intro nu hn1 hn2) | refine fn_ret ?_ | refine fn_normal ?_ | refine Hold_P ?_ | refine prun_go ?_ | refine drun_go ?_); simp -dsimp only [go_sem, Nat.reduceLT, Nat.reduceLeDiff, Nat.reduceEqDiff, Nat.reduceAdd, Nat.reduceMul, Int.reduceNeg, Nat.reduceBEq, reduceCtorEq, ↓reduceIte, length_strs, c0, i0', List.take_length])
          | (refine W_cond rfl (fun h => ?_) (fun h => ?_) <;> (try (cases h; done)))
          | refine W_ret ?_
          | refine W_skip ?_
          | refine W_exit ?_
          | refine then_normal ?_
          | refine then_ret ?_
          | refine then_exit ?_
          | refine inBlock_normal ?_
          | refine inBlock_ret ?_
          | refine inBlock_exit ?_
          | refine inBlock_ne (by decide) ?_
          | refine Hold_E ?_
          | (refine And.intro ?_ ?_; omega)
          | ((first | (refine ite_goB (fun h => ?_) (fun h => ?_) <;> (try exact absurd ((h : _ = false).symm.trans (by assumption : _ = true)) (by decide)) <;> (try exact absurd ((by assumption : _ = false).symm.trans (h : _ = true)) (by decide))) | (refine ite_go (fun h => ?_) (fun h => ?_) <;> (try exact absurd h (by assumption)) <;> (try exact absurd (by assumption) h))) <;> (try refine Hold_P ?_) <;> (try simp -dsimp only [h, go_sem, Nat.reduceLT, Nat.reduceLeDiff, Nat.reduceEqDiff, Nat.reduceAdd, Nat.reduceMul, Int.reduceNeg, Nat.reduceBEq, reduceCtorEq, ↓reduceIte, length_strs, c0, i0', List.take_length]))
          | refine Exists.intro _ (Exists.intro _ (And.intro (And.intro rfl rfl) ?_))
        refine PCall_use (sort_spec kd k2 ranks keys h60 hsm _) ?_
        rintro _ T ⟨⟨k3, lo, h1, rfl, hlo⟩, hq⟩
        obtain rfl := hq.symm
        clear hq
        repeat' first
          | refine W_seq ?_
          | refine W_block ?_
          | ((first | refine W_region (mu := []) ?_ | (refine W_region_any [] ⟨[], [], [], [], []⟩ mixedOrders_ok (by kernel_rfl) ?_; intro nu hn1 hn2) | refine fn_ret ?_ | refine fn_normal ?_ | refine Hold_P ?_ | refine prun_go ?_ | refine drun_go ?_); simp -dsimp only [go_sem, Nat.reduceLT, Nat.reduceLeDiff, Nat.reduceEqDiff, Nat.reduceAdd, Nat.reduceMul, Int.reduceNeg, Nat.reduceBEq, reduceCtorEq, ↓reduceIte])
          | (refine W_cond rfl (fun h => ?_) (fun h => ?_) <;> (try (cases h; done)))
          | refine W_ret ?_
          | refine W_skip ?_
          | refine W_exit ?_
          | refine then_normal ?_
          | refine then_ret ?_
          | refine then_exit ?_
          | refine inBlock_normal ?_
          | refine inBlock_ret ?_
          | refine inBlock_exit ?_
          | refine inBlock_ne (by decide) ?_
          | refine Hold_E ?_
          | (refine And.intro ?_ ?_; omega)
          | ((first | (refine ite_goB (fun h => ?_) (fun h => ?_) <;> (try exact absurd ((h : _ = false).symm.trans (by assumption : _ = true)) (by decide)) <;> (try exact absurd ((by assumption : _ = false).symm.trans (h : _ = true)) (by decide))) | (refine ite_go (fun h => ?_) (fun h => ?_) <;> (try exact absurd h (by assumption)) <;> (try exact absurd (by assumption) h))) <;> (try refine Hold_P ?_) <;> (try simp -dsimp only [h, go_sem, Nat.reduceLT, Nat.reduceLeDiff, Nat.reduceEqDiff, Nat.reduceAdd, Nat.reduceMul, Int.reduceNeg, Nat.reduceBEq, reduceCtorEq, ↓reduceIte]))
          | refine Exists.intro _ (Exists.intro _ (And.intro (And.intro rfl rfl) ?_))
        refine PCall_use (rall_spec kl _ (by omega) hsrt _) ?_
        rintro _ T ⟨⟨k4, l2, h2, rfl⟩, hq⟩
        obtain rfl := hq.symm
        clear hq
        have e := h1.one hsrt h2
        subst e
        repeat' first
          | refine W_seq ?_
          | refine W_block ?_
          | ((first | refine W_region (mu := []) ?_ | (refine W_region_any [] ⟨[], [], [], [], []⟩ mixedOrders_ok (by kernel_rfl) ?_; intro nu hn1 hn2) | refine fn_ret ?_ | refine fn_normal ?_ | refine Hold_P ?_ | refine prun_go ?_ | refine drun_go ?_); simp -dsimp only [go_sem, Nat.reduceLT, Nat.reduceLeDiff, Nat.reduceEqDiff, Nat.reduceAdd, Nat.reduceMul, Int.reduceNeg, Nat.reduceBEq, reduceCtorEq, ↓reduceIte])
          | (refine W_cond rfl (fun h => ?_) (fun h => ?_) <;> (try (cases h; done)))
          | refine W_ret ?_
          | refine W_skip ?_
          | refine W_exit ?_
          | refine then_normal ?_
          | refine then_ret ?_
          | refine then_exit ?_
          | refine inBlock_normal ?_
          | refine inBlock_ret ?_
          | refine inBlock_exit ?_
          | refine inBlock_ne (by decide) ?_
          | refine Hold_E ?_
          | (refine And.intro ?_ ?_; omega)
          | ((first | (refine ite_goB (fun h => ?_) (fun h => ?_) <;> (try exact absurd ((h : _ = false).symm.trans (by assumption : _ = true)) (by decide)) <;> (try exact absurd ((by assumption : _ = false).symm.trans (h : _ = true)) (by decide))) | (refine ite_go (fun h => ?_) (fun h => ?_) <;> (try exact absurd h (by assumption)) <;> (try exact absurd (by assumption) h))) <;> (try refine Hold_P ?_) <;> (try simp -dsimp only [h, go_sem, Nat.reduceLT, Nat.reduceLeDiff, Nat.reduceEqDiff, Nat.reduceAdd, Nat.reduceMul, Int.reduceNeg, Nat.reduceBEq, reduceCtorEq, ↓reduceIte]))
          | refine Exists.intro _ (Exists.intro _ (And.intro (And.intro rfl rfl) ?_))
          | (refine PCall_use (same_spec _ _ lo lo (by omega) _) ?_; rintro _ _ ⟨rfl, hq⟩; obtain rfl := hq.symm; clear hq)
          | (refine Exists.intro _ (And.intro (fun _ => same_spec _ _ lo lo (by omega) _) ?_))
          | (refine Exists.intro _ (And.intro (same_spec _ _ lo lo (by omega) _) ?_))
          | (refine Exists.intro _ (Exists.intro _ (And.intro (same_spec _ _ lo lo (by omega) _) ?_)))
          | (refine PCall_use (same_spec kd _ keys keys (by omega) _) ?_; rintro _ _ ⟨rfl, hq⟩; obtain rfl := hq.symm; clear hq)
          | (refine Exists.intro _ (And.intro (fun _ => same_spec kd _ keys keys (by omega) _) ?_))
          | (refine Exists.intro _ (And.intro (same_spec kd _ keys keys (by omega) _) ?_))
          | (refine Exists.intro _ (Exists.intro _ (And.intro (same_spec kd _ keys keys (by omega) _) ?_)))
          | (refine PCall_use (lives_spec _) ?_; rintro _ _ ⟨rfl, hq⟩; obtain rfl := hq.symm; clear hq)
          | (refine Exists.intro _ (And.intro (fun _ => lives_spec _) ?_))
          | (refine Exists.intro _ (And.intro (lives_spec _) ?_))
          | (refine Exists.intro _ (Exists.intro _ (And.intro (lives_spec _) ?_)))
        exact Sub_put (Store.Sub.refl _) (ho i0) _
  · have d0 : decide (60 < (keys.length : Int)) = true := decT (by omega)
    repeat' first
      | refine W_seq ?_
      | refine W_block ?_
      | ((first | refine W_region (mu := []) ?_ | (refine W_region_any [] ⟨[], [], [], [], []⟩ mixedOrders_ok (by kernel_rfl) ?_; intro nu hn1 hn2) | refine fn_ret ?_ | refine fn_normal ?_ | refine Hold_P ?_ | refine prun_go ?_ | refine drun_go ?_); simp -dsimp only [go_sem, Nat.reduceLT, Nat.reduceLeDiff, Nat.reduceEqDiff, Nat.reduceAdd, Nat.reduceMul, Int.reduceNeg, Nat.reduceBEq, reduceCtorEq, ↓reduceIte, length_strs, d0])
      | (refine W_cond rfl (fun h => ?_) (fun h => ?_) <;> (try (cases h; done)))
      | refine W_ret ?_
      | refine W_skip ?_
      | refine W_exit ?_
      | refine then_normal ?_
      | refine then_ret ?_
      | refine then_exit ?_
      | refine inBlock_normal ?_
      | refine inBlock_ret ?_
      | refine inBlock_exit ?_
      | refine inBlock_ne (by decide) ?_
      | refine Hold_E ?_
      | (refine And.intro ?_ ?_; omega)
      | ((first | (refine ite_goB (fun h => ?_) (fun h => ?_) <;> (try exact absurd ((h : _ = false).symm.trans (by assumption : _ = true)) (by decide)) <;> (try exact absurd ((by assumption : _ = false).symm.trans (h : _ = true)) (by decide))) | (refine ite_go (fun h => ?_) (fun h => ?_) <;> (try exact absurd h (by assumption)) <;> (try exact absurd (by assumption) h))) <;> (try refine Hold_P ?_) <;> (try simp -dsimp only [h, go_sem, Nat.reduceLT, Nat.reduceLeDiff, Nat.reduceEqDiff, Nat.reduceAdd, Nat.reduceMul, Int.reduceNeg, Nat.reduceBEq, reduceCtorEq, ↓reduceIte, length_strs, d0]))
      | refine Exists.intro _ (Exists.intro _ (And.intro (And.intro rfl rfl) ?_))
      | (refine PCall_use (lives_spec _) ?_; rintro _ _ ⟨rfl, hq⟩; obtain rfl := hq.symm; clear hq)
      | (refine Exists.intro _ (And.intro (fun _ => lives_spec _) ?_))
      | (refine Exists.intro _ (And.intro (lives_spec _) ?_))
      | (refine Exists.intro _ (Exists.intro _ (And.intro (lives_spec _) ?_)))
end Go.Proofs.Ytoekaigdacaghaa
