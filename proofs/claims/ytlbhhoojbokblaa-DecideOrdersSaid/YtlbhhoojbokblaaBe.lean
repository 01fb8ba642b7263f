/- Contract of symMerge where one of the two has one thing. Conditions: none. -/
import Derived.Test.YtlbhhoojbokblaaBc
set_option linter.unusedVariables false
set_option linter.unusedSimpArgs false
namespace Go.Proofs.Ytlbhhoojbokblaa
open Go.Kern
set_option maxRecDepth 100000
set_option maxHeartbeats 4000000
attribute [local go_sem] drun_nil drun_cons prun_nil prun_cons wrOk tqOk lateOp lateB dstOk ev ofConst leafOf Env.putO Env.get envOf readRs_nil oneRes nilSide SK.isNil isMu fillA partsFit boundA SK.cut SK.cutFull SK.fresh rowOk rowsOk_nil rowsOk_cons rowsOk_append rowsOk_ints splice oneOf keyKind cellsKind cellKind cellsB cellB zeroFits TK.agg AV.cells AV.known AV.one List.set_cons_zero List.set_cons_succ put_same put_put forall_const implies_true exists_eq_left exists_eq_left' exists_eq_right exists_eq Store.Sub.refl and_self Int.toNat_natCast length_ints List.length_map true_and and_true decide_true decide_false if_true if_false Bool.false_eq_true Bool.true_eq_false List.getElem?_cons_zero List.getElem?_cons_succ List.length_cons List.length_nil List.drop_zero List.drop_succ_cons List.take_succ_cons List.take_zero List.drop_nil List.take_nil List.append_nil List.map_cons List.map_nil List.cons_append List.nil_append beq_self_eq_true Bool.false_beq Bool.true_beq Bool.not_true Bool.not_false Option.map_some Option.map_none Option.bind_some ne_eq not_false_eq_true List.contains_cons List.contains_nil Bool.or_false Bool.or_true Bool.and_true Bool.and_false Bool.true_and Bool.false_and List.all_cons List.all_nil Nat.one_ne_zero Nat.zero_ne_one Option.isSome_some Option.isSome_none List.getElem?_toArray beq_true beq_false decide_eq_true_eq Int.toNat_zero forall_ints take_ints drop_ints Int.le_refl Int.natCast_nonneg Nat.zero_add Nat.add_zero or_true true_or false_or or_false
attribute [local go_sem ↓] allocN guardP OpSem callA readRs_cons readR binA intOpA strOpA nilOpA unA convA boxA allocA behind loadA buildA buildSliceA fieldAddrA fieldA indexAddrA indexA lenA sliceA extractA nilCheckA storeA lookupA mapSetA mapDelA makeSliceA appendA appendN apN
attribute [local irreducible] PCall W

theorem half_int {i j : Nat} (h : i + j < 4611686018427387904) : IntKind.i64.wrap ((IntKind.u64.wrap ((i + j : Nat) : Int)).fdiv (2 ^ min (Int.toNat 1) 64)) = (((i + j) / 2 : Nat) : Int) := by
  rw [IntWalk.u64_in _ ⟨by omega, by omega⟩, show (2 : Int) ^ min (Int.toNat 1) 64 = 2 from rfl, Int.fdiv_eq_ediv_of_nonneg _ (by omega), wrap64_id (by omega) (by omega)]
  omega

section
variable {fi : Nat} {cp : AV} {V : Int → Prop} {tl : Int → Int → Prop} {c : Int → Int → Int}

theorem symA_spec (hc : Cmp fi cp V c) (ho : Ord V tl c) (ls : List Int) (a b : Nat) (hab : a + 1 < b) (hb : b ≤ ls.length) (hbig : ls.length < 1000000) (hV : AllV V ls) (hR : SortedAt tl ls (a + 1) b) (hsep : ∀ q, a + 1 ≤ q → q < b → gd ls a < gd ls q) (o : Nat) (σ : Store) :
    PCall Try.prog 58 [.ms o 1 0 ls.length, .int .i64 a, .int .i64 ((a + 1 : Nat) : Int), .int .i64 b, .fn fi [cp]] (σ.put o (.arr (ints ls))) (fun r s => r = .tup [] ∧ ∃ l', s = σ.put o (.arr (ints l')) ∧ Res tl l' ls a b) := by
  have w0 : IntKind.i64.wrap (((a + 1 : Nat) : Int) - (a : Int)) = 1 := wsub (c := 1) (by omega) (by omega)
  have d0 : ((1 : Int) = 1) = True := by simp
  refine PCall_w [] 220 Try.func58 (by rfl) rfl rfl rfl rfl ?_
  repeat' first
    | refine W_seq ?_
    | refine W_block ?_
    | ((first | refine W_region (mu := []) ?_ | (refine W_region_any [] ⟨[], [], [], [], [], [], 0⟩ mixedOrders_ok (by kernel_rfl) ?_; intro nu hn1 hn2) | refine fn_ret ?_ | refine fn_normal ?_ | refine Hold_P ?_ | refine prun_go ?_ | refine drun_go ?_); simp -dsimp only [go_sem, Nat.reduceLT, Nat.reduceLeDiff, Nat.reduceEqDiff, Nat.reduceAdd, Nat.reduceMul, Int.reduceNeg, Nat.reduceBEq, reduceCtorEq, ↓reduceIte, w0])
    | (refine W_cond rfl (fun h => ?_) (fun h => ?_) <;> (try (cases h; done)))
    | refine W_ret ?_
    | refine W_skip ?_
    | refine W_exit ?_
    | refine then_normal ?_
    | refine then_ret ?_
    | refine then_exit ?_
    | refine inBlock_normal ?_
    | refine inBlock_ret ?_
    | refine inBlock_exit ?_
    | refine inBlock_ne (by decide) ?_
    | refine Hold_E ?_
    | (refine And.intro ?_ ?_; omega)
    | ((first | (refine ite_goB (fun h => ?_) (fun h => ?_) <;> (try exact absurd ((h : _ = false).symm.trans (by assumption : _ = true)) (by decide)) <;> (try exact absurd ((by assumption : _ = false).symm.trans (h : _ = true)) (by decide))) | (refine ite_go (fun h => ?_) (fun h => ?_) <;> (try exact absurd h (by assumption)) <;> (try exact absurd (by assumption) h))) <;> (try refine Hold_P ?_) <;> (try simp -dsimp only [h, go_sem, Nat.reduceLT, Nat.reduceLeDiff, Nat.reduceEqDiff, Nat.reduceAdd, Nat.reduceMul, Int.reduceNeg, Nat.reduceBEq, reduceCtorEq, ↓reduceIte, w0]))
    | refine Exists.intro _ (Exists.intro _ (And.intro (And.intro rfl rfl) ?_))
  refine W_loop_st (fun x : Nat × Nat => [(0, .ms o 1 0 ls.length), (1, .int .i64 a), (4, .fn fi [cp]), (10, .int .i64 x.1), (11, .int .i64 x.2)]) (fun _ => σ.put o (.arr (ints ls)))
    (fun x => a + 1 ≤ x.1 ∧ x.1 ≤ x.2 ∧ x.2 ≤ b ∧ (∀ k, a + 1 ≤ k → k < x.1 → tl (gd ls k) (gd ls a)) ∧ (∀ k, x.2 ≤ k → k < b → tl (gd ls a) (gd ls k))) (fun x => x.2 - x.1) (a + 1, b) ⟨Nat.le_refl _, by simp only; omega, Nat.le_refl _, fun k h1 (h2 : k < a + 1) => by omega, fun k (h1 : b ≤ k) h2 => by omega⟩ (Env.Sub_of_has (by simp [Env.Has, Env.get])) (Store.Sub.refl _) ?_
  rintro ⟨i, j⟩ ⟨hi, hij, hj, hlo, hhi⟩
  simp only at hi hij hj hlo hhi
  have hVa := hV a (by omega)
  by_cases hlt : i < j
  · have hd : decide ((i : Int) < (j : Int)) = true := decT (by omega)
    obtain ⟨z, hz⟩ : ∃ z, z = (i + j) / 2 := ⟨_, rfl⟩
    have w1 := wadd (a := i) (b := j) rfl (by omega)
    have w2 := half_int (i := i) (j := j) (by omega)
    rw [← hz] at w2
    have hhi2 : i ≤ z ∧ z < j := by omega
    have q1 : ((z : Int) < (ls.length : Int)) = True := eq_true (by omega)
    have q2 : ((a : Int) < (ls.length : Int)) = True := eq_true (by omega)
    have g1 := get_ints (ls := ls) (i := z) (by omega)
    have g2 := get_ints (ls := ls) (i := a) (by omega)
    have hVh := hV z (by omega)
    have hcs := hc (gd ls z) (gd ls a) hVh hVa
    have hord := hsep z (by omega) (by omega)
    by_cases hlt2 : c (gd ls z) (gd ls a) < 0
    · have e2 : decide (c (gd ls z) (gd ls a) < 0) = true := decT hlt2
      have htl := (ho.ahead _ _ hVa hVh hord).1 hlt2
      repeat' first
        | refine W_seq ?_
        | refine W_block ?_
        | ((first | refine W_region (mu := []) ?_ | (refine W_region_any (id := 5) [] ⟨[4,8,9], [], [], [], [], [], 0⟩ mixedOrders_ok (by kernel_rfl) ?_; intro nu hn1 hn2) | (refine W_region_any [] ⟨[], [], [], [], [], [], 0⟩ mixedOrders_ok (by kernel_rfl) ?_; intro nu hn1 hn2) | refine fn_ret ?_ | refine fn_normal ?_ | refine Hold_P ?_ | refine prun_go ?_ | refine drun_go ?_); simp -dsimp only [go_sem, Nat.reduceLT, Nat.reduceLeDiff, Nat.reduceEqDiff, Nat.reduceAdd, Nat.reduceMul, Int.reduceNeg, Nat.reduceBEq, reduceCtorEq, ↓reduceIte, hd, w1, w2, q1, q2, g1, g2, e2])
        | (refine W_cond rfl (fun h => ?_) (fun h => ?_) <;> (try (cases h; done)))
        | refine W_ret ?_
        | refine W_skip ?_
        | refine W_exit ?_
        | refine then_normal ?_
        | refine then_ret ?_
        | refine then_exit ?_
        | refine inBlock_normal ?_
        | refine inBlock_ret ?_
        | refine inBlock_exit ?_
        | refine inBlock_ne (by decide) ?_
        | refine Hold_E ?_
        | (refine And.intro ?_ ?_; omega)
        | ((first | (refine ite_goB (fun h => ?_) (fun h => ?_) <;> (try exact absurd ((h : _ = false).symm.trans (by assumption : _ = true)) (by decide)) <;> (try exact absurd ((by assumption : _ = false).symm.trans (h : _ = true)) (by decide))) | (refine ite_go (fun h => ?_) (fun h => ?_) <;> (try exact absurd h (by assumption)) <;> (try exact absurd (by assumption) h))) <;> (try refine Hold_P ?_) <;> (try simp -dsimp only [h, go_sem, Nat.reduceLT, Nat.reduceLeDiff, Nat.reduceEqDiff, Nat.reduceAdd, Nat.reduceMul, Int.reduceNeg, Nat.reduceBEq, reduceCtorEq, ↓reduceIte, hd, w1, w2, q1, q2, g1, g2, e2]))
        | refine Exists.intro _ (Exists.intro _ (And.intro (And.intro rfl rfl) ?_))
        | (refine PCall_use (hcs _) ?_; rintro _ _ ⟨rfl, hq⟩; obtain rfl := hq.symm; clear hq)
        | (refine Exists.intro _ (And.intro (fun _ => hcs _) ?_))
        | (refine Exists.intro _ (And.intro (hcs _) ?_))
        | (refine Exists.intro _ (Exists.intro _ (And.intro (hcs _) ?_)))
      refine ⟨(z + 1, j), by simp only; omega, ⟨by simp only; omega, by simp only; omega, hj, fun k hk1 hk2 => ?_, hhi⟩, Env.Sub_of_has (by simp [Env.Has, Env.get, wrap_succ (show z < 4611686018427387904 by omega)]), Store.Sub.refl _⟩
      simp only at hk2
      exact le_tl ho hV hVa hR hb hk1 (show k ≤ z by omega) (by omega) htl
    · have e2 : decide (c (gd ls z) (gd ls a) < 0) = false := decF hlt2
      have htl := ho.tot _ _ hVa hVh hord (fun h => hlt2 ((ho.ahead _ _ hVa hVh hord).2 h))
      repeat' first
        | refine W_seq ?_
        | refine W_block ?_
        | ((first | refine W_region (mu := []) ?_ | (refine W_region_any (id := 5) [] ⟨[4,8,9], [], [], [], [], [], 0⟩ mixedOrders_ok (by kernel_rfl) ?_; intro nu hn1 hn2) | (refine W_region_any [] ⟨[], [], [], [], [], [], 0⟩ mixedOrders_ok (by kernel_rfl) ?_; intro nu hn1 hn2) | refine fn_ret ?_ | refine fn_normal ?_ | refine Hold_P ?_ | refine prun_go ?_ | refine drun_go ?_); simp -dsimp only [go_sem, Nat.reduceLT, Nat.reduceLeDiff, Nat.reduceEqDiff, Nat.reduceAdd, Nat.reduceMul, Int.reduceNeg, Nat.reduceBEq, reduceCtorEq, ↓reduceIte, hd, w1, w2, q1, q2, g1, g2, e2])
        | (refine W_cond rfl (fun h => ?_) (fun h => ?_) <;> (try (cases h; done)))
        | refine W_ret ?_
        | refine W_skip ?_
        | refine W_exit ?_
        | refine then_normal ?_
        | refine then_ret ?_
        | refine then_exit ?_
        | refine inBlock_normal ?_
        | refine inBlock_ret ?_
        | refine inBlock_exit ?_
        | refine inBlock_ne (by decide) ?_
        | refine Hold_E ?_
        | (refine And.intro ?_ ?_; omega)
        | ((first | (refine ite_goB (fun h => ?_) (fun h => ?_) <;> (try exact absurd ((h : _ = false).symm.trans (by assumption : _ = true)) (by decide)) <;> (try exact absurd ((by assumption : _ = false).symm.trans (h : _ = true)) (by decide))) | (refine ite_go (fun h => ?_) (fun h => ?_) <;> (try exact absurd h (by assumption)) <;> (try exact absurd (by assumption) h))) <;> (try refine Hold_P ?_) <;> (try simp -dsimp only [h, go_sem, Nat.reduceLT, Nat.reduceLeDiff, Nat.reduceEqDiff, Nat.reduceAdd, Nat.reduceMul, Int.reduceNeg, Nat.reduceBEq, reduceCtorEq, ↓reduceIte, hd, w1, w2, q1, q2, g1, g2, e2]))
        | refine Exists.intro _ (Exists.intro _ (And.intro (And.intro rfl rfl) ?_))
        | (refine PCall_use (hcs _) ?_; rintro _ _ ⟨rfl, hq⟩; obtain rfl := hq.symm; clear hq)
        | (refine Exists.intro _ (And.intro (fun _ => hcs _) ?_))
        | (refine Exists.intro _ (And.intro (hcs _) ?_))
        | (refine Exists.intro _ (Exists.intro _ (And.intro (hcs _) ?_)))
      refine ⟨(i, z), by simp only; omega, ⟨hi, by simp only; omega, by simp only; omega, hlo, fun k hk1 hk2 => ?_⟩, Env.Sub_of_has (by simp [Env.Has, Env.get]), Store.Sub.refl _⟩
      simp only at hk1
      exact tl_le ho hV hVa hR hb (show a + 1 ≤ z by omega) hk1 hk2 htl
  · have hd : decide ((i : Int) < (j : Int)) = false := decF (by omega)
    have hje : j = i := by omega
    subst hje
    repeat' first
      | refine W_seq ?_
      | refine W_block ?_
      | ((first | refine W_region (mu := []) ?_ | (refine W_region_any [] ⟨[], [], [], [], [], [], 0⟩ mixedOrders_ok (by kernel_rfl) ?_; intro nu hn1 hn2) | refine fn_ret ?_ | refine fn_normal ?_ | refine Hold_P ?_ | refine prun_go ?_ | refine drun_go ?_); simp -dsimp only [go_sem, Nat.reduceLT, Nat.reduceLeDiff, Nat.reduceEqDiff, Nat.reduceAdd, Nat.reduceMul, Int.reduceNeg, Nat.reduceBEq, reduceCtorEq, ↓reduceIte, hd])
      | (refine W_cond rfl (fun h => ?_) (fun h => ?_) <;> (try (cases h; done)))
      | refine W_ret ?_
      | refine W_skip ?_
      | refine W_exit ?_
      | refine then_normal ?_
      | refine then_ret ?_
      | refine then_exit ?_
      | refine inBlock_normal ?_
      | refine inBlock_ret ?_
      | refine inBlock_exit ?_
      | refine inBlock_ne (by decide) ?_
      | refine Hold_E ?_
      | (refine And.intro ?_ ?_; omega)
      | ((first | (refine ite_goB (fun h => ?_) (fun h => ?_) <;> (try exact absurd ((h : _ = false).symm.trans (by assumption : _ = true)) (by decide)) <;> (try exact absurd ((by assumption : _ = false).symm.trans (h : _ = true)) (by decide))) | (refine ite_go (fun h => ?_) (fun h => ?_) <;> (try exact absurd h (by assumption)) <;> (try exact absurd (by assumption) h))) <;> (try refine Hold_P ?_) <;> (try simp -dsimp only [h, go_sem, Nat.reduceLT, Nat.reduceLeDiff, Nat.reduceEqDiff, Nat.reduceAdd, Nat.reduceMul, Int.reduceNeg, Nat.reduceBEq, reduceCtorEq, ↓reduceIte, hd]))
      | refine Exists.intro _ (Exists.intro _ (And.intro (And.intro rfl rfl) ?_))
    refine W_loop_st (fun k : Nat => [(0, .ms o 1 0 ls.length), (10, .int .i64 j), (13, .int .i64 k)]) (fun k => σ.put o (.arr (ints (rotT ls a (a + 1) (k + 1))))) (fun k => a ≤ k ∧ k + 1 ≤ j) (fun k => j - k) a ⟨Nat.le_refl _, by omega⟩ (Env.Sub_of_has (by simp [Env.Has, Env.get])) (by rw [rot_id (m := a + 1) a (.inr rfl) (by omega)]; exact Store.Sub.refl _) ?_
    rintro k ⟨hk1, hk2⟩
    have hrl := rotT_length ls a (a + 1) (k + 1)
    have w1 : IntKind.i64.wrap ((j : Int) - 1) = ((j - 1 : Nat) : Int) := wsub (b := 1) (by omega) (by omega)
    have w2 := wrap_succ (show k < 4611686018427387904 by omega)
    by_cases hlt : k < j - 1
    · have hd : decide ((k : Int) < ((j - 1 : Nat) : Int)) = true := decT (by omega)
      have q1 : ((k : Int) < (ls.length : Int)) = True := eq_true (by omega)
      have q2 : (((k + 1 : Nat) : Int) < (ls.length : Int)) = True := eq_true (by omega)
      have g1 := get_ints (ls := rotT ls a (a + 1) (k + 1)) (i := k) (by omega)
      have g2 := get_ints (ls := rotT ls a (a + 1) (k + 1)) (i := k + 1) (by omega)
      have g3 := get_ints (ls := (rotT ls a (a + 1) (k + 1)).set k (gd (rotT ls a (a + 1) (k + 1)) (k + 1))) (i := k + 1) (by rw [List.length_set]; omega)
      have hs := rot_up (ls := ls) (a := a) (k := k) hk1 (by omega)
      repeat' first
        | refine W_seq ?_
        | refine W_block ?_
        | ((first | refine W_region (mu := []) ?_ | (refine W_region_any (id := 11) [] ⟨[9,13], [15,17], [], [], [], [], 0⟩ mixedOrders_ok (by kernel_rfl) ?_; intro nu hn1 hn2) | (refine W_region_any [] ⟨[], [], [], [], [], [], 0⟩ mixedOrders_ok (by kernel_rfl) ?_; intro nu hn1 hn2) | refine fn_ret ?_ | refine fn_normal ?_ | refine Hold_P ?_ | refine prun_go ?_ | refine drun_go ?_); simp -dsimp only [go_sem, Nat.reduceLT, Nat.reduceLeDiff, Nat.reduceEqDiff, Nat.reduceAdd, Nat.reduceMul, Int.reduceNeg, Nat.reduceBEq, reduceCtorEq, ↓reduceIte, hd, w1, w2, q1, q2, g1, g2, g3, splice, set_ints, swp_eq, hs])
        | (refine W_cond rfl (fun h => ?_) (fun h => ?_) <;> (try (cases h; done)))
        | refine W_ret ?_
        | refine W_skip ?_
        | refine W_exit ?_
        | refine then_normal ?_
        | refine then_ret ?_
        | refine then_exit ?_
        | refine inBlock_normal ?_
        | refine inBlock_ret ?_
        | refine inBlock_exit ?_
        | refine inBlock_ne (by decide) ?_
        | refine Hold_E ?_
        | (refine And.intro ?_ ?_; omega)
        | ((first | (refine ite_goB (fun h => ?_) (fun h => ?_) <;> (try exact absurd ((h : _ = false).symm.trans (by assumption : _ = true)) (by decide)) <;> (try exact absurd ((by assumption : _ = false).symm.trans (h : _ = true)) (by decide))) | (refine ite_go (fun h => ?_) (fun h => ?_) <;> (try exact absurd h (by assumption)) <;> (try exact absurd (by assumption) h))) <;> (try refine Hold_P ?_) <;> (try simp -dsimp only [h, go_sem, Nat.reduceLT, Nat.reduceLeDiff, Nat.reduceEqDiff, Nat.reduceAdd, Nat.reduceMul, Int.reduceNeg, Nat.reduceBEq, reduceCtorEq, ↓reduceIte, hd, w1, w2, q1, q2, g1, g2, g3, splice, set_ints, swp_eq, hs]))
        | refine Exists.intro _ (Exists.intro _ (And.intro (And.intro rfl rfl) ?_))
      exact ⟨k + 1, by omega, ⟨by omega, by omega⟩, Env.Sub_of_has (by simp [Env.Has, Env.get, w2]), Store.Sub.refl _⟩
    · have hd : decide ((k : Int) < ((j - 1 : Nat) : Int)) = false := decF (by omega)
      have hke : k + 1 = j := by omega
      rw [hke]
      have hres : Res tl (rotT ls a (a + 1) j) ls a b := merge_all ho (by omega) (by omega) hi hj hb (fun p q _ _ _ => by omega) hR
        (fun p q hp hp2 hq hq2 => by have e : p = a := by omega
                                     subst e; exact hlo q hq hq2) (fun p q _ _ _ _ => by omega) (fun p q _ _ _ _ => by omega)
        (fun p q hp hp2 hq hq2 => by have e : p = a := by omega
                                     subst e; exact hhi q hq hq2)
      repeat' first
        | refine W_seq ?_
        | refine W_block ?_
        | ((first | refine W_region (mu := []) ?_ | (refine W_region_any [] ⟨[], [], [], [], [], [], 0⟩ mixedOrders_ok (by kernel_rfl) ?_; intro nu hn1 hn2) | refine fn_ret ?_ | refine fn_normal ?_ | refine Hold_P ?_ | refine prun_go ?_ | refine drun_go ?_); simp -dsimp only [go_sem, Nat.reduceLT, Nat.reduceLeDiff, Nat.reduceEqDiff, Nat.reduceAdd, Nat.reduceMul, Int.reduceNeg, Nat.reduceBEq, reduceCtorEq, ↓reduceIte, hd, w1])
        | (refine W_cond rfl (fun h => ?_) (fun h => ?_) <;> (try (cases h; done)))
        | refine W_ret ?_
        | refine W_skip ?_
        | refine W_exit ?_
        | refine then_normal ?_
        | refine then_ret ?_
        | refine then_exit ?_
        | refine inBlock_normal ?_
        | refine inBlock_ret ?_
        | refine inBlock_exit ?_
        | refine inBlock_ne (by decide) ?_
        | refine Hold_E ?_
        | (refine And.intro ?_ ?_; omega)
        | ((first | (refine ite_goB (fun h => ?_) (fun h => ?_) <;> (try exact absurd ((h : _ = false).symm.trans (by assumption : _ = true)) (by decide)) <;> (try exact absurd ((by assumption : _ = false).symm.trans (h : _ = true)) (by decide))) | (refine ite_go (fun h => ?_) (fun h => ?_) <;> (try exact absurd h (by assumption)) <;> (try exact absurd (by assumption) h))) <;> (try refine Hold_P ?_) <;> (try simp -dsimp only [h, go_sem, Nat.reduceLT, Nat.reduceLeDiff, Nat.reduceEqDiff, Nat.reduceAdd, Nat.reduceMul, Int.reduceNeg, Nat.reduceBEq, reduceCtorEq, ↓reduceIte, hd, w1]))
        | refine Exists.intro _ (Exists.intro _ (And.intro (And.intro rfl rfl) ?_))
      exact ⟨_, Store.Sub.refl _, _, rfl, hres⟩

theorem symB_spec (hc : Cmp fi cp V c) (ho : Ord V tl c) (ls : List Int) (a m : Nat) (ham : a + 1 < m) (hb : m + 1 ≤ ls.length) (hbig : ls.length < 1000000) (hV : AllV V ls) (hL : SortedAt tl ls a m) (hsep : ∀ p, a ≤ p → p < m → gd ls p < gd ls m) (o : Nat) (σ : Store) :
    PCall Try.prog 58 [.ms o 1 0 ls.length, .int .i64 a, .int .i64 m, .int .i64 ((m + 1 : Nat) : Int), .fn fi [cp]] (σ.put o (.arr (ints ls))) (fun r s => r = .tup [] ∧ ∃ l', s = σ.put o (.arr (ints l')) ∧ Res tl l' ls a (m + 1)) := by
  have w0 := wsub (a := m) (b := a) (c := m - a) (by omega) (by omega)
  have d0 : (((m - a : Nat) : Int) = 1) = False := eq_false (by omega)
  have w9 : IntKind.i64.wrap (((m + 1 : Nat) : Int) - (m : Int)) = 1 := wsub (c := 1) (by omega) (by omega)
  refine PCall_w [] 220 Try.func58 (by rfl) rfl rfl rfl rfl ?_
  repeat' first
    | refine W_seq ?_
    | refine W_block ?_
    | ((first | refine W_region (mu := []) ?_ | (refine W_region_any [] ⟨[], [], [], [], [], [], 0⟩ mixedOrders_ok (by kernel_rfl) ?_; intro nu hn1 hn2) | refine fn_ret ?_ | refine fn_normal ?_ | refine Hold_P ?_ | refine prun_go ?_ | refine drun_go ?_); simp -dsimp only [go_sem, Nat.reduceLT, Nat.reduceLeDiff, Nat.reduceEqDiff, Nat.reduceAdd, Nat.reduceMul, Int.reduceNeg, Nat.reduceBEq, reduceCtorEq, ↓reduceIte, w0, d0, w9])
    | (refine W_cond rfl (fun h => ?_) (fun h => ?_) <;> (try (cases h; done)))
    | refine W_ret ?_
    | refine W_skip ?_
    | refine W_exit ?_
    | refine then_normal ?_
    | refine then_ret ?_
    | refine then_exit ?_
    | refine inBlock_normal ?_
    | refine inBlock_ret ?_
    | refine inBlock_exit ?_
    | refine inBlock_ne (by decide) ?_
    | refine Hold_E ?_
    | (refine And.intro ?_ ?_; omega)
    | ((first | (refine ite_goB (fun h => ?_) (fun h => ?_) <;> (try exact absurd ((h : _ = false).symm.trans (by assumption : _ = true)) (by decide)) <;> (try exact absurd ((by assumption : _ = false).symm.trans (h : _ = true)) (by decide))) | (refine ite_go (fun h => ?_) (fun h => ?_) <;> (try exact absurd h (by assumption)) <;> (try exact absurd (by assumption) h))) <;> (try refine Hold_P ?_) <;> (try simp -dsimp only [h, go_sem, Nat.reduceLT, Nat.reduceLeDiff, Nat.reduceEqDiff, Nat.reduceAdd, Nat.reduceMul, Int.reduceNeg, Nat.reduceBEq, reduceCtorEq, ↓reduceIte, w0, d0, w9]))
    | refine Exists.intro _ (Exists.intro _ (And.intro (And.intro rfl rfl) ?_))
  refine W_loop_st (fun x : Nat × Nat => [(0, .ms o 1 0 ls.length), (2, .int .i64 m), (4, .fn fi [cp]), (14, .int .i64 x.1), (15, .int .i64 x.2)]) (fun _ => σ.put o (.arr (ints ls)))
    (fun x => a ≤ x.1 ∧ x.1 ≤ x.2 ∧ x.2 ≤ m ∧ (∀ k, a ≤ k → k < x.1 → tl (gd ls k) (gd ls m)) ∧ (∀ k, x.2 ≤ k → k < m → tl (gd ls m) (gd ls k))) (fun x => x.2 - x.1) (a, m) ⟨Nat.le_refl _, by simp only; omega, Nat.le_refl _, fun k h1 (h2 : k < a) => by omega, fun k (h1 : m ≤ k) h2 => by omega⟩ (Env.Sub_of_has (by simp [Env.Has, Env.get])) (Store.Sub.refl _) ?_
  rintro ⟨i, j⟩ ⟨hi, hij, hj, hlo, hhi⟩
  simp only at hi hij hj hlo hhi
  have hVm := hV m (by omega)
  by_cases hlt : i < j
  · have hd : decide ((i : Int) < (j : Int)) = true := decT (by omega)
    obtain ⟨z, hz⟩ : ∃ z, z = (i + j) / 2 := ⟨_, rfl⟩
    have w1 := wadd (a := i) (b := j) rfl (by omega)
    have w2 := half_int (i := i) (j := j) (by omega)
    rw [← hz] at w2
    have hhi2 : i ≤ z ∧ z < j := by omega
    have q1 : ((z : Int) < (ls.length : Int)) = True := eq_true (by omega)
    have q2 : ((m : Int) < (ls.length : Int)) = True := eq_true (by omega)
    have g1 := get_ints (ls := ls) (i := z) (by omega)
    have g2 := get_ints (ls := ls) (i := m) (by omega)
    have hVh := hV z (by omega)
    have hcs := hc (gd ls m) (gd ls z) hVm hVh
    have hord := hsep z (by omega) (by omega)
    by_cases hlt2 : c (gd ls m) (gd ls z) < 0
    · have e2 : decide (c (gd ls m) (gd ls z) < 0) = true := decT hlt2
      have htl := (ho.ahead _ _ hVh hVm hord).1 hlt2
      repeat' first
        | refine W_seq ?_
        | refine W_block ?_
        | ((first | refine W_region (mu := []) ?_ | (refine W_region_any (id := 17) [] ⟨[4,8,9], [], [], [], [], [], 0⟩ mixedOrders_ok (by kernel_rfl) ?_; intro nu hn1 hn2) | (refine W_region_any [] ⟨[], [], [], [], [], [], 0⟩ mixedOrders_ok (by kernel_rfl) ?_; intro nu hn1 hn2) | refine fn_ret ?_ | refine fn_normal ?_ | refine Hold_P ?_ | refine prun_go ?_ | refine drun_go ?_); simp -dsimp only [go_sem, Nat.reduceLT, Nat.reduceLeDiff, Nat.reduceEqDiff, Nat.reduceAdd, Nat.reduceMul, Int.reduceNeg, Nat.reduceBEq, reduceCtorEq, ↓reduceIte, hd, w1, w2, q1, q2, g1, g2, e2])
        | (refine W_cond rfl (fun h => ?_) (fun h => ?_) <;> (try (cases h; done)))
        | refine W_ret ?_
        | refine W_skip ?_
        | refine W_exit ?_
        | refine then_normal ?_
        | refine then_ret ?_
        | refine then_exit ?_
        | refine inBlock_normal ?_
        | refine inBlock_ret ?_
        | refine inBlock_exit ?_
        | refine inBlock_ne (by decide) ?_
        | refine Hold_E ?_
        | (refine And.intro ?_ ?_; omega)
        | ((first | (refine ite_goB (fun h => ?_) (fun h => ?_) <;> (try exact absurd ((h : _ = false).symm.trans (by assumption : _ = true)) (by decide)) <;> (try exact absurd ((by assumption : _ = false).symm.trans (h : _ = true)) (by decide))) | (refine ite_go (fun h => ?_) (fun h => ?_) <;> (try exact absurd h (by assumption)) <;> (try exact absurd (by assumption) h))) <;> (try refine Hold_P ?_) <;> (try simp -dsimp only [h, go_sem, Nat.reduceLT, Nat.reduceLeDiff, Nat.reduceEqDiff, Nat.reduceAdd, Nat.reduceMul, Int.reduceNeg, Nat.reduceBEq, reduceCtorEq, ↓reduceIte, hd, w1, w2, q1, q2, g1, g2, e2]))
        | refine Exists.intro _ (Exists.intro _ (And.intro (And.intro rfl rfl) ?_))
        | (refine PCall_use (hcs _) ?_; rintro _ _ ⟨rfl, hq⟩; obtain rfl := hq.symm; clear hq)
        | (refine Exists.intro _ (And.intro (fun _ => hcs _) ?_))
        | (refine Exists.intro _ (And.intro (hcs _) ?_))
        | (refine Exists.intro _ (Exists.intro _ (And.intro (hcs _) ?_)))
      refine ⟨(i, z), by simp only; omega, ⟨hi, by simp only; omega, by simp only; omega, hlo, fun k hk1 hk2 => ?_⟩, Env.Sub_of_has (by simp [Env.Has, Env.get]), Store.Sub.refl _⟩
      simp only at hk1
      exact tl_le ho hV hVm hL (by omega) (show a ≤ z by omega) hk1 hk2 htl
    · have e2 : decide (c (gd ls m) (gd ls z) < 0) = false := decF hlt2
      have htl := ho.tot _ _ hVh hVm hord (fun h => hlt2 ((ho.ahead _ _ hVh hVm hord).2 h))
      repeat' first
        | refine W_seq ?_
        | refine W_block ?_
        | ((first | refine W_region (mu := []) ?_ | (refine W_region_any (id := 17) [] ⟨[4,8,9], [], [], [], [], [], 0⟩ mixedOrders_ok (by kernel_rfl) ?_; intro nu hn1 hn2) | (refine W_region_any [] ⟨[], [], [], [], [], [], 0⟩ mixedOrders_ok (by kernel_rfl) ?_; intro nu hn1 hn2) | refine fn_ret ?_ | refine fn_normal ?_ | refine Hold_P ?_ | refine prun_go ?_ | refine drun_go ?_); simp -dsimp only [go_sem, Nat.reduceLT, Nat.reduceLeDiff, Nat.reduceEqDiff, Nat.reduceAdd, Nat.reduceMul, Int.reduceNeg, Nat.reduceBEq, reduceCtorEq, ↓reduceIte, hd, w1, w2, q1, q2, g1, g2, e2])
        | (refine W_cond rfl (fun h => ?_) (fun h => ?_) <;> (try (cases h; done)))
        | refine W_ret ?_
        | refine W_skip ?_
        | refine W_exit ?_
        | refine then_normal ?_
        | refine then_ret ?_
        | refine then_exit ?_
        | refine inBlock_normal ?_
        | refine inBlock_ret ?_
        | refine inBlock_exit ?_
        | refine inBlock_ne (by decide) ?_
        | refine Hold_E ?_
        | (refine And.intro ?_ ?_; omega)
        | ((first | (refine ite_goB (fun h => ?_) (fun h => ?_) <;> (try exact absurd ((h : _ = false).symm.trans (by assumption : _ = true)) (by decide)) <;> (try exact absurd ((by assumption : _ = false).symm.trans (h : _ = true)) (by decide))) | (refine ite_go (fun h => ?_) (fun h => ?_) <;> (try exact absurd h (by assumption)) <;> (try exact absurd (by assumption) h))) <;> (try refine Hold_P ?_) <;> (try simp -dsimp only [h, go_sem, Nat.reduceLT, Nat.reduceLeDiff, Nat.reduceEqDiff, Nat.reduceAdd, Nat.reduceMul, Int.reduceNeg, Nat.reduceBEq, reduceCtorEq, ↓reduceIte, hd, w1, w2, q1, q2, g1, g2, e2]))
        | refine Exists.intro _ (Exists.intro _ (And.intro (And.intro rfl rfl) ?_))
        | (refine PCall_use (hcs _) ?_; rintro _ _ ⟨rfl, hq⟩; obtain rfl := hq.symm; clear hq)
        | (refine Exists.intro _ (And.intro (fun _ => hcs _) ?_))
        | (refine Exists.intro _ (And.intro (hcs _) ?_))
        | (refine Exists.intro _ (Exists.intro _ (And.intro (hcs _) ?_)))
      refine ⟨(z + 1, j), by simp only; omega, ⟨by simp only; omega, by simp only; omega, hj, fun k hk1 hk2 => ?_, hhi⟩, Env.Sub_of_has (by simp [Env.Has, Env.get, wrap_succ (show z < 4611686018427387904 by omega)]), Store.Sub.refl _⟩
      simp only at hk2
      exact le_tl ho hV hVm hL (by omega) hk1 (show k ≤ z by omega) (by omega) htl
  · have hd : decide ((i : Int) < (j : Int)) = false := decF (by omega)
    have hje : j = i := by omega
    subst hje
    repeat' first
      | refine W_seq ?_
      | refine W_block ?_
      | ((first | refine W_region (mu := []) ?_ | (refine W_region_any [] ⟨[], [], [], [], [], [], 0⟩ mixedOrders_ok (by kernel_rfl) ?_; intro nu hn1 hn2) | refine fn_ret ?_ | refine fn_normal ?_ | refine Hold_P ?_ | refine prun_go ?_ | refine drun_go ?_); simp -dsimp only [go_sem, Nat.reduceLT, Nat.reduceLeDiff, Nat.reduceEqDiff, Nat.reduceAdd, Nat.reduceMul, Int.reduceNeg, Nat.reduceBEq, reduceCtorEq, ↓reduceIte, hd])
      | (refine W_cond rfl (fun h => ?_) (fun h => ?_) <;> (try (cases h; done)))
      | refine W_ret ?_
      | refine W_skip ?_
      | refine W_exit ?_
      | refine then_normal ?_
      | refine then_ret ?_
      | refine then_exit ?_
      | refine inBlock_normal ?_
      | refine inBlock_ret ?_
      | refine inBlock_exit ?_
      | refine inBlock_ne (by decide) ?_
      | refine Hold_E ?_
      | (refine And.intro ?_ ?_; omega)
      | ((first | (refine ite_goB (fun h => ?_) (fun h => ?_) <;> (try exact absurd ((h : _ = false).symm.trans (by assumption : _ = true)) (by decide)) <;> (try exact absurd ((by assumption : _ = false).symm.trans (h : _ = true)) (by decide))) | (refine ite_go (fun h => ?_) (fun h => ?_) <;> (try exact absurd h (by assumption)) <;> (try exact absurd (by assumption) h))) <;> (try refine Hold_P ?_) <;> (try simp -dsimp only [h, go_sem, Nat.reduceLT, Nat.reduceLeDiff, Nat.reduceEqDiff, Nat.reduceAdd, Nat.reduceMul, Int.reduceNeg, Nat.reduceBEq, reduceCtorEq, ↓reduceIte, hd]))
      | refine Exists.intro _ (Exists.intro _ (And.intro (And.intro rfl rfl) ?_))
    refine W_loop_st (fun k : Nat => [(0, .ms o 1 0 ls.length), (14, .int .i64 j), (17, .int .i64 k)]) (fun k => σ.put o (.arr (ints (rotT ls k m (m + 1))))) (fun k => j ≤ k ∧ k ≤ m) (fun k => k) m ⟨hj, Nat.le_refl _⟩ (Env.Sub_of_has (by simp [Env.Has, Env.get])) (by rw [rot_id m (.inl rfl) (by omega)]; exact Store.Sub.refl _) ?_
    rintro k ⟨hk1, hk2⟩
    have hrl := rotT_length ls k m (m + 1)
    have w1 : 0 < k → IntKind.i64.wrap ((k : Int) - 1) = ((k - 1 : Nat) : Int) := fun _ => wsub (b := 1) (by omega) (by omega)
    by_cases hlt : j < k
    · have hd : decide ((j : Int) < (k : Int)) = true := decT (by omega)
      have w1 := w1 (by omega)
      have q1 : ((k : Int) < (ls.length : Int)) = True := eq_true (by omega)
      have q2 : (((k - 1 : Nat) : Int) < (ls.length : Int)) = True := eq_true (by omega)
      have g1 := get_ints (ls := rotT ls k m (m + 1)) (i := k) (by omega)
      have g2 := get_ints (ls := rotT ls k m (m + 1)) (i := k - 1) (by omega)
      have g3 := get_ints (ls := (rotT ls k m (m + 1)).set k (gd (rotT ls k m (m + 1)) (k - 1))) (i := k - 1) (by rw [List.length_set]; omega)
      have hs := rot_down (ls := ls) (k := k) (m := m) (by omega) hk2 (by omega)
      repeat' first
        | refine W_seq ?_
        | refine W_block ?_
        | ((first | refine W_region (mu := []) ?_ | (refine W_region_any (id := 23) [] ⟨[9,13], [15,17], [], [], [], [], 0⟩ mixedOrders_ok (by kernel_rfl) ?_; intro nu hn1 hn2) | (refine W_region_any [] ⟨[], [], [], [], [], [], 0⟩ mixedOrders_ok (by kernel_rfl) ?_; intro nu hn1 hn2) | refine fn_ret ?_ | refine fn_normal ?_ | refine Hold_P ?_ | refine prun_go ?_ | refine drun_go ?_); simp -dsimp only [go_sem, Nat.reduceLT, Nat.reduceLeDiff, Nat.reduceEqDiff, Nat.reduceAdd, Nat.reduceMul, Int.reduceNeg, Nat.reduceBEq, reduceCtorEq, ↓reduceIte, hd, w1, q1, q2, g1, g2, g3, splice, set_ints, swp_eq, hs])
        | (refine W_cond rfl (fun h => ?_) (fun h => ?_) <;> (try (cases h; done)))
        | refine W_ret ?_
        | refine W_skip ?_
        | refine W_exit ?_
        | refine then_normal ?_
        | refine then_ret ?_
        | refine then_exit ?_
        | refine inBlock_normal ?_
        | refine inBlock_ret ?_
        | refine inBlock_exit ?_
        | refine inBlock_ne (by decide) ?_
        | refine Hold_E ?_
        | (refine And.intro ?_ ?_; omega)
        | ((first | (refine ite_goB (fun h => ?_) (fun h => ?_) <;> (try exact absurd ((h : _ = false).symm.trans (by assumption : _ = true)) (by decide)) <;> (try exact absurd ((by assumption : _ = false).symm.trans (h : _ = true)) (by decide))) | (refine ite_go (fun h => ?_) (fun h => ?_) <;> (try exact absurd h (by assumption)) <;> (try exact absurd (by assumption) h))) <;> (try refine Hold_P ?_) <;> (try simp -dsimp only [h, go_sem, Nat.reduceLT, Nat.reduceLeDiff, Nat.reduceEqDiff, Nat.reduceAdd, Nat.reduceMul, Int.reduceNeg, Nat.reduceBEq, reduceCtorEq, ↓reduceIte, hd, w1, q1, q2, g1, g2, g3, splice, set_ints, swp_eq, hs]))
        | refine Exists.intro _ (Exists.intro _ (And.intro (And.intro rfl rfl) ?_))
      exact ⟨k - 1, by omega, ⟨by omega, by omega⟩, Env.Sub_of_has (by simp [Env.Has, Env.get, w1]), Store.Sub.refl _⟩
    · have hd : decide ((j : Int) < (k : Int)) = false := decF (by omega)
      have hke : k = j := by omega
      subst hke
      have hres : Res tl (rotT ls k m (m + 1)) ls a (m + 1) := merge_all ho hi hj (by omega) (Nat.le_refl _) hb hL (fun p q _ _ _ => by omega)
        (fun p q hp hp2 hq hq2 => by have e : q = m := by omega
                                     subst e; exact hhi p hp hp2) (fun p q _ _ _ _ => by omega)
        (fun p q hp hp2 hq hq2 => by have e : q = m := by omega
                                     subst e; exact hlo p hp hp2) (fun p q _ _ _ _ => by omega)
      repeat' first
        | refine W_seq ?_
        | refine W_block ?_
        | ((first | refine W_region (mu := []) ?_ | (refine W_region_any [] ⟨[], [], [], [], [], [], 0⟩ mixedOrders_ok (by kernel_rfl) ?_; intro nu hn1 hn2) | refine fn_ret ?_ | refine fn_normal ?_ | refine Hold_P ?_ | refine prun_go ?_ | refine drun_go ?_); simp -dsimp only [go_sem, Nat.reduceLT, Nat.reduceLeDiff, Nat.reduceEqDiff, Nat.reduceAdd, Nat.reduceMul, Int.reduceNeg, Nat.reduceBEq, reduceCtorEq, ↓reduceIte, hd])
        | (refine W_cond rfl (fun h => ?_) (fun h => ?_) <;> (try (cases h; done)))
        | refine W_ret ?_
        | refine W_skip ?_
        | refine W_exit ?_
        | refine then_normal ?_
        | refine then_ret ?_
        | refine then_exit ?_
        | refine inBlock_normal ?_
        | refine inBlock_ret ?_
        | refine inBlock_exit ?_
        | refine inBlock_ne (by decide) ?_
        | refine Hold_E ?_
        | (refine And.intro ?_ ?_; omega)
        | ((first | (refine ite_goB (fun h => ?_) (fun h => ?_) <;> (try exact absurd ((h : _ = false).symm.trans (by assumption : _ = true)) (by decide)) <;> (try exact absurd ((by assumption : _ = false).symm.trans (h : _ = true)) (by decide))) | (refine ite_go (fun h => ?_) (fun h => ?_) <;> (try exact absurd h (by assumption)) <;> (try exact absurd (by assumption) h))) <;> (try refine Hold_P ?_) <;> (try simp -dsimp only [h, go_sem, Nat.reduceLT, Nat.reduceLeDiff, Nat.reduceEqDiff, Nat.reduceAdd, Nat.reduceMul, Int.reduceNeg, Nat.reduceBEq, reduceCtorEq, ↓reduceIte, hd]))
        | refine Exists.intro _ (Exists.intro _ (And.intro (And.intro rfl rfl) ?_))
      exact ⟨_, Store.Sub.refl _, _, rfl, hres⟩
end
end Go.Proofs.Ytlbhhoojbokblaa
