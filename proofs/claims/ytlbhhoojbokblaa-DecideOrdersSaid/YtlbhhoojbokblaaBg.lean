/- Contract of the stable sort of up to 40 things. Conditions: none. -/
import Derived.Test.YtlbhhoojbokblaaBd
import Derived.Test.YtlbhhoojbokblaaBf
set_option linter.unusedVariables false
set_option linter.unusedSimpArgs false
namespace Go.Proofs.Ytlbhhoojbokblaa
open Go.Kern
set_option maxRecDepth 100000
set_option maxHeartbeats 4000000
attribute [local go_sem] drun_nil drun_cons prun_nil prun_cons wrOk tqOk lateOp lateB dstOk ev ofConst leafOf Env.putO Env.get envOf readRs_nil oneRes nilSide SK.isNil isMu fillA partsFit boundA SK.cut SK.cutFull SK.fresh rowOk rowsOk_nil rowsOk_cons rowsOk_append rowsOk_ints splice oneOf keyKind cellsKind cellKind cellsB cellB zeroFits TK.agg AV.cells AV.known AV.one List.set_cons_zero List.set_cons_succ put_same put_put forall_const implies_true exists_eq_left exists_eq_left' exists_eq_right exists_eq Store.Sub.refl and_self Int.toNat_natCast length_ints List.length_map true_and and_true decide_true decide_false if_true if_false Bool.false_eq_true Bool.true_eq_false List.getElem?_cons_zero List.getElem?_cons_succ List.length_cons List.length_nil List.drop_zero List.drop_succ_cons List.take_succ_cons List.take_zero List.drop_nil List.take_nil List.append_nil List.map_cons List.map_nil List.cons_append List.nil_append beq_self_eq_true Bool.false_beq Bool.true_beq Bool.not_true Bool.not_false Option.map_some Option.map_none Option.bind_some ne_eq not_false_eq_true List.contains_cons List.contains_nil Bool.or_false Bool.or_true Bool.and_true Bool.and_false Bool.true_and Bool.false_and List.all_cons List.all_nil Nat.one_ne_zero Nat.zero_ne_one Option.isSome_some Option.isSome_none List.getElem?_toArray beq_true beq_false decide_eq_true_eq Int.toNat_zero forall_ints take_ints drop_ints Int.le_refl Int.natCast_nonneg Nat.zero_add Nat.add_zero or_true true_or false_or or_false
attribute [local go_sem ↓] allocN guardP OpSem callA readRs_cons readR binA intOpA strOpA nilOpA unA convA boxA allocA behind loadA buildA buildSliceA fieldAddrA fieldA indexAddrA indexA lenA sliceA extractA nilCheckA storeA lookupA mapSetA mapDelA makeSliceA appendA appendN apN
attribute [local irreducible] PCall W

section
variable {fi : Nat} {cp : AV} {V : Int → Prop} {tl : Int → Int → Prop} {c : Int → Int → Int}

/-- What stands in a half stood there. -/
def Half (l ls : List Int) : Prop := (∀ p, p < 20 → p < ls.length → ∃ q, q < 20 ∧ q < ls.length ∧ gd l p = gd ls q) ∧ (∀ p, 20 ≤ p → p < ls.length → ∃ q, 20 ≤ q ∧ q < ls.length ∧ gd l p = gd ls q)
theorem Half.refl (ls : List Int) : Half ls ls := ⟨fun p h1 h2 => ⟨p, h1, h2, rfl⟩, fun p h1 h2 => ⟨p, h1, h2, rfl⟩⟩
theorem Half.step {l l' ls : List Int} {a b : Nat} (h : Half l ls) (hs : SegIn l' l a b) (hm : Same l' l a b) (hb : b ≤ ls.length) (hab : b ≤ 20 ∨ 20 ≤ a) : Half l' ls := by
  refine ⟨fun p h1 h2 => ?_, fun p h1 h2 => ?_⟩
  · by_cases e : a ≤ p ∧ p < b
    · obtain ⟨q, q1, q2, q3⟩ := hs p e.1 e.2
      rw [q3]; exact h.1 q (by omega) (by omega)
    · rw [hm p (by omega)]; exact h.1 p h1 h2
  · by_cases e : a ≤ p ∧ p < b
    · obtain ⟨q, q1, q2, q3⟩ := hs p e.1 e.2
      rw [q3]; exact h.2 q (by omega) (by omega)
    · rw [hm p (by omega)]; exact h.2 p h1 h2

structure Inv1 (tl : Int → Int → Prop) (ls l : List Int) (a : Nat) : Prop where
  at_ : a = 0 ∨ a = 20 ∨ a = 40
  le : a ≤ ls.length
  len : l.length = ls.length
  perm : l.Perm ls
  same : Same l ls 0 a
  s1 : SortedAt tl l 0 (min a 20)
  s2 : SortedAt tl l 20 a
  half : Half l ls

theorem Inv1.inc {ls l : List Int} {a : Nat} (h : Inv1 tl ls l a) (hinc : ∀ p q, p < q → q < ls.length → gd ls p < gd ls q) : ∀ p q, a ≤ p → p < q → q < ls.length → gd l p < gd l q := fun p q h1 h2 h3 => by
  rw [h.same p (.inr h1), h.same q (.inr (by omega))]; exact hinc p q h2 h3

theorem Inv1.step {ls l l' : List Int} {a : Nat} (h : Inv1 tl ls l a) (hn : ls.length ≤ 40) (hb : a + 20 ≤ ls.length) (hr : Res tl l' l a (a + 20)) : Inv1 tl ls l' (a + 20) := by
  refine ⟨by have := h.at_; omega, hb, hr.len.trans h.len, hr.perm.trans h.perm, fun k hk => ?_, ?_, ?_, h.half.step hr.seg hr.same hb (by have := h.at_; omega)⟩
  · rw [hr.same k (by omega)]; exact h.same k (by omega)
  · rcases h.at_ with e | e | e
    · subst e; exact hr.srt
    · subst e
      exact h.s1.of_same fun k _ hk => hr.same k (.inl (by omega))
    · omega
  · rcases h.at_ with e | e | e
    · subst e; intro i j h1 h2 h3; omega
    · subst e; exact hr.srt
    · omega

structure Inv2 (tl : Int → Int → Prop) (ls l : List Int) : Prop where
  len : l.length = ls.length
  perm : l.Perm ls
  s1 : SortedAt tl l 0 (min ls.length 20)
  s2 : SortedAt tl l 20 ls.length
  half : Half l ls

theorem Inv1.fin {ls l l' : List Int} {a : Nat} (h : Inv1 tl ls l a) (hn : ls.length ≤ 40) (hb : ls.length < a + 20) (hr : Res tl l' l a ls.length) : Inv2 tl ls l' := by
  refine ⟨hr.len.trans h.len, hr.perm.trans h.perm, ?_, ?_, h.half.step hr.seg hr.same (Nat.le_refl _) (by have := h.at_; omega)⟩
  · rcases h.at_ with e | e | e
    · subst e; exact hr.srt.sub (Nat.le_refl _) (Nat.min_le_left _ _)
    · subst e
      have := h.le
      exact (h.s1.of_same fun k _ hk => hr.same k (.inl (by omega))).sub (Nat.le_refl _) (by omega)
    · subst e
      have := h.le
      exact (h.s1.of_same fun k _ hk => hr.same k (.inl (by omega))).sub (Nat.le_refl _) (by omega)
  · rcases h.at_ with e | e | e
    · subst e; intro i j h1 h2 h3; omega
    · subst e; exact hr.srt
    · subst e
      have := h.le
      exact (h.s2.of_same fun k _ hk => hr.same k (.inl (by omega))).sub (Nat.le_refl _) (by omega)

theorem stable_spec (hc : Cmp fi cp V c) (ho : Ord V tl c) (ls : List Int) (hn : ls.length ≤ 40) (hV : AllV V ls) (hinc : ∀ p q, p < q → q < ls.length → gd ls p < gd ls q) (o : Nat) (σ : Store) :
    PCall Try.prog 43 [.ms o 1 0 ls.length, .int .i64 ls.length, .fn fi [cp]] (σ.put o (.arr (ints ls))) (fun r s => r = .tup [] ∧ ∃ l', s = σ.put o (.arr (ints l')) ∧ l'.Perm ls ∧ SortedAt tl l' 0 ls.length) := by
  obtain ⟨n, hnn⟩ : ∃ n, n = ls.length := ⟨_, rfl⟩
  have i0 : Inv1 tl ls ls 0 := ⟨.inl rfl, Nat.zero_le _, rfl, List.Perm.refl _, Same.refl _ _ _, fun i j _ h2 h3 => by omega, fun i j h1 h2 h3 => by omega, Half.refl _⟩
  refine PCall_w [] 63 Try.func43 (by rfl) rfl rfl rfl rfl ?_
  repeat' first
    | refine W_seq ?_
    | refine W_block ?_
    | ((first | refine W_region (mu := []) ?_ | (refine W_region_any [] ⟨[], [], [], [], [], [], 0⟩ mixedOrders_ok (by kernel_rfl) ?_; intro nu hn1 hn2) | refine fn_ret ?_ | refine fn_normal ?_ | refine Hold_P ?_ | refine prun_go ?_ | refine drun_go ?_); simp -dsimp only [go_sem, Nat.reduceLT, Nat.reduceLeDiff, Nat.reduceEqDiff, Nat.reduceAdd, Nat.reduceMul, Int.reduceNeg, Nat.reduceBEq, reduceCtorEq, ↓reduceIte])
    | (refine W_cond rfl (fun h => ?_) (fun h => ?_) <;> (try (cases h; done)))
    | refine W_ret ?_
    | refine W_skip ?_
    | refine W_exit ?_
    | refine then_normal ?_
    | refine then_ret ?_
    | refine then_exit ?_
    | refine inBlock_normal ?_
    | refine inBlock_ret ?_
    | refine inBlock_exit ?_
    | refine inBlock_ne (by decide) ?_
    | refine Hold_E ?_
    | (refine And.intro ?_ ?_; omega)
    | ((first | (refine ite_goB (fun h => ?_) (fun h => ?_) <;> (try exact absurd ((h : _ = false).symm.trans (by assumption : _ = true)) (by decide)) <;> (try exact absurd ((by assumption : _ = false).symm.trans (h : _ = true)) (by decide))) | (refine ite_go (fun h => ?_) (fun h => ?_) <;> (try exact absurd h (by assumption)) <;> (try exact absurd (by assumption) h))) <;> (try refine Hold_P ?_) <;> (try simp -dsimp only [h, go_sem, Nat.reduceLT, Nat.reduceLeDiff, Nat.reduceEqDiff, Nat.reduceAdd, Nat.reduceMul, Int.reduceNeg, Nat.reduceBEq, reduceCtorEq, ↓reduceIte]))
    | refine Exists.intro _ (Exists.intro _ (And.intro (And.intro rfl rfl) ?_))
  refine W_loop_st (fun x : List Int × Nat => [(0, .ms o 1 0 ls.length), (1, .int .i64 ls.length), (2, .fn fi [cp]), (6, .int .i64 20), (7, .int .i64 x.2), (8, .int .i64 ((x.2 + 20 : Nat) : Int))]) (fun x => σ.put o (.arr (ints x.1))) (fun x => Inv1 tl ls x.1 x.2) (fun x => 60 - x.2) (ls, 0) i0 (Env.Sub_of_has (by simp [Env.Has, Env.get, Env.putO])) (Store.Sub.refl _) ?_
  rintro ⟨l, a⟩ hi
  simp only at hi
  have hll := hi.len
  have hVl : AllV V l := hV.perm hi.perm
  have hle := hi.le
  by_cases hlt : a + 20 ≤ ls.length
  · have hd : decide (((a + 20 : Nat) : Int) ≤ (ls.length : Int)) = true := decT (by omega)
    have w1 : IntKind.i64.wrap (((a + 20 : Nat) : Int) + 20) = ((a + 20 + 20 : Nat) : Int) := wadd (b := 20) rfl (by omega)
    have hins := ins_spec hc ho l a (a + 20) (by omega) (by omega) (by omega) hVl (fun p q h1 h2 h3 => hi.inc hinc p q h1 h2 (by omega)) o σ
    rw [hll] at hins
    repeat' first
      | refine W_seq ?_
      | refine W_block ?_
      | ((first | refine W_region (mu := []) ?_ | (refine W_region_any [] ⟨[], [], [], [], [], [], 0⟩ mixedOrders_ok (by kernel_rfl) ?_; intro nu hn1 hn2) | refine fn_ret ?_ | refine fn_normal ?_ | refine Hold_P ?_ | refine prun_go ?_ | refine drun_go ?_); simp -dsimp only [go_sem, Nat.reduceLT, Nat.reduceLeDiff, Nat.reduceEqDiff, Nat.reduceAdd, Nat.reduceMul, Int.reduceNeg, Nat.reduceBEq, reduceCtorEq, ↓reduceIte, hd])
      | (refine W_cond rfl (fun h => ?_) (fun h => ?_) <;> (try (cases h; done)))
      | refine W_ret ?_
      | refine W_skip ?_
      | refine W_exit ?_
      | refine then_normal ?_
      | refine then_ret ?_
      | refine then_exit ?_
      | refine inBlock_normal ?_
      | refine inBlock_ret ?_
      | refine inBlock_exit ?_
      | refine inBlock_ne (by decide) ?_
      | refine Hold_E ?_
      | (refine And.intro ?_ ?_; omega)
      | ((first | (refine ite_goB (fun h => ?_) (fun h => ?_) <;> (try exact absurd ((h : _ = false).symm.trans (by assumption : _ = true)) (by decide)) <;> (try exact absurd ((by assumption : _ = false).symm.trans (h : _ = true)) (by decide))) | (refine ite_go (fun h => ?_) (fun h => ?_) <;> (try exact absurd h (by assumption)) <;> (try exact absurd (by assumption) h))) <;> (try refine Hold_P ?_) <;> (try simp -dsimp only [h, go_sem, Nat.reduceLT, Nat.reduceLeDiff, Nat.reduceEqDiff, Nat.reduceAdd, Nat.reduceMul, Int.reduceNeg, Nat.reduceBEq, reduceCtorEq, ↓reduceIte, hd]))
      | refine Exists.intro _ (Exists.intro _ (And.intro (And.intro rfl rfl) ?_))
    refine PCall_use hins ?_
    rintro _ _ ⟨rfl, l2, rfl, hres⟩
    repeat' first
      | refine W_seq ?_
      | refine W_block ?_
      | ((first | refine W_region (mu := []) ?_ | (refine W_region_any [] ⟨[], [], [], [], [], [], 0⟩ mixedOrders_ok (by kernel_rfl) ?_; intro nu hn1 hn2) | refine fn_ret ?_ | refine fn_normal ?_ | refine Hold_P ?_ | refine prun_go ?_ | refine drun_go ?_); simp -dsimp only [go_sem, Nat.reduceLT, Nat.reduceLeDiff, Nat.reduceEqDiff, Nat.reduceAdd, Nat.reduceMul, Int.reduceNeg, Nat.reduceBEq, reduceCtorEq, ↓reduceIte, hd, w1])
      | (refine W_cond rfl (fun h => ?_) (fun h => ?_) <;> (try (cases h; done)))
      | refine W_ret ?_
      | refine W_skip ?_
      | refine W_exit ?_
      | refine then_normal ?_
      | refine then_ret ?_
      | refine then_exit ?_
      | refine inBlock_normal ?_
      | refine inBlock_ret ?_
      | refine inBlock_exit ?_
      | refine inBlock_ne (by decide) ?_
      | refine Hold_E ?_
      | (refine And.intro ?_ ?_; omega)
      | ((first | (refine ite_goB (fun h => ?_) (fun h => ?_) <;> (try exact absurd ((h : _ = false).symm.trans (by assumption : _ = true)) (by decide)) <;> (try exact absurd ((by assumption : _ = false).symm.trans (h : _ = true)) (by decide))) | (refine ite_go (fun h => ?_) (fun h => ?_) <;> (try exact absurd h (by assumption)) <;> (try exact absurd (by assumption) h))) <;> (try refine Hold_P ?_) <;> (try simp -dsimp only [h, go_sem, Nat.reduceLT, Nat.reduceLeDiff, Nat.reduceEqDiff, Nat.reduceAdd, Nat.reduceMul, Int.reduceNeg, Nat.reduceBEq, reduceCtorEq, ↓reduceIte, hd, w1]))
      | refine Exists.intro _ (Exists.intro _ (And.intro (And.intro rfl rfl) ?_))
    exact ⟨(l2, a + 20), by simp only; omega, hi.step hn hlt hres, Env.Sub_of_has (by simp [Env.Has, Env.get, Env.putO]), Store.Sub.refl _⟩
  have hd : decide (((a + 20 : Nat) : Int) ≤ (ls.length : Int)) = false := decF (by omega)
  have hins := ins_spec hc ho l a ls.length (by omega) (by omega) (by omega) hVl (fun p q h1 h2 h3 => hi.inc hinc p q h1 h2 (by omega)) o σ
  rw [hll] at hins
  repeat' first
    | refine W_seq ?_
    | refine W_block ?_
    | ((first | refine W_region (mu := []) ?_ | (refine W_region_any [] ⟨[], [], [], [], [], [], 0⟩ mixedOrders_ok (by kernel_rfl) ?_; intro nu hn1 hn2) | refine fn_ret ?_ | refine fn_normal ?_ | refine Hold_P ?_ | refine prun_go ?_ | refine drun_go ?_); simp -dsimp only [go_sem, Nat.reduceLT, Nat.reduceLeDiff, Nat.reduceEqDiff, Nat.reduceAdd, Nat.reduceMul, Int.reduceNeg, Nat.reduceBEq, reduceCtorEq, ↓reduceIte, hd])
    | (refine W_cond rfl (fun h => ?_) (fun h => ?_) <;> (try (cases h; done)))
    | refine W_ret ?_
    | refine W_skip ?_
    | refine W_exit ?_
    | refine then_normal ?_
    | refine then_ret ?_
    | refine then_exit ?_
    | refine inBlock_normal ?_
    | refine inBlock_ret ?_
    | refine inBlock_exit ?_
    | refine inBlock_ne (by decide) ?_
    | refine Hold_E ?_
    | (refine And.intro ?_ ?_; omega)
    | ((first | (refine ite_goB (fun h => ?_) (fun h => ?_) <;> (try exact absurd ((h : _ = false).symm.trans (by assumption : _ = true)) (by decide)) <;> (try exact absurd ((by assumption : _ = false).symm.trans (h : _ = true)) (by decide))) | (refine ite_go (fun h => ?_) (fun h => ?_) <;> (try exact absurd h (by assumption)) <;> (try exact absurd (by assumption) h))) <;> (try refine Hold_P ?_) <;> (try simp -dsimp only [h, go_sem, Nat.reduceLT, Nat.reduceLeDiff, Nat.reduceEqDiff, Nat.reduceAdd, Nat.reduceMul, Int.reduceNeg, Nat.reduceBEq, reduceCtorEq, ↓reduceIte, hd]))
    | refine Exists.intro _ (Exists.intro _ (And.intro (And.intro rfl rfl) ?_))
  refine PCall_use hins ?_
  rintro _ _ ⟨rfl, l2, rfl, hres⟩
  have hj := hi.fin hn (by omega) hres
  have hlj := hj.len
  have hVj : AllV V l2 := hV.perm hj.perm
  have hmerge : 20 < ls.length → PCall Try.prog 58 [.ms o 1 0 ls.length, .int .i64 ((0 : Nat) : Int), .int .i64 ((20 : Nat) : Int), .int .i64 ls.length, .fn fi [cp]] (σ.put o (.arr (ints l2))) (fun r s => r = .tup [] ∧ ∃ l', s = σ.put o (.arr (ints l')) ∧ l'.Perm ls ∧ SortedAt tl l' 0 ls.length) := fun h20 => by
    have := sym_spec hc ho o σ ls.length l2 0 20 ls.length (by omega) (by omega) h20 (by omega) (by omega) hVj (hj.s1.sub (Nat.le_refl _) (by omega)) hj.s2 (fun p q h1 h2 h3 h4 => by
      obtain ⟨p', a1, a2, a3⟩ := hj.half.1 p h2 (by omega)
      obtain ⟨q', b1, b2, b3⟩ := hj.half.2 q h3 h4
      rw [a3, b3]; exact hinc p' q' (by omega) b2)
    rw [hlj] at this
    exact this.mono fun r s ⟨h1, l', h2, h3⟩ => ⟨h1, l', h2, h3.perm.trans hj.perm, h3.srt⟩
  repeat' first
    | refine W_seq ?_
    | refine W_block ?_
    | ((first | refine W_region (mu := []) ?_ | (refine W_region_any [] ⟨[], [], [], [], [], [], 0⟩ mixedOrders_ok (by kernel_rfl) ?_; intro nu hn1 hn2) | refine fn_ret ?_ | refine fn_normal ?_ | refine Hold_P ?_ | refine prun_go ?_ | refine drun_go ?_); simp -dsimp only [go_sem, Nat.reduceLT, Nat.reduceLeDiff, Nat.reduceEqDiff, Nat.reduceAdd, Nat.reduceMul, Int.reduceNeg, Nat.reduceBEq, reduceCtorEq, ↓reduceIte])
    | (refine W_cond rfl (fun h => ?_) (fun h => ?_) <;> (try (cases h; done)))
    | refine W_ret ?_
    | refine W_skip ?_
    | refine W_exit ?_
    | refine then_normal ?_
    | refine then_ret ?_
    | refine then_exit ?_
    | refine inBlock_normal ?_
    | refine inBlock_ret ?_
    | refine inBlock_exit ?_
    | refine inBlock_ne (by decide) ?_
    | refine Hold_E ?_
    | (refine And.intro ?_ ?_; omega)
    | ((first | (refine ite_goB (fun h => ?_) (fun h => ?_) <;> (try exact absurd ((h : _ = false).symm.trans (by assumption : _ = true)) (by decide)) <;> (try exact absurd ((by assumption : _ = false).symm.trans (h : _ = true)) (by decide))) | (refine ite_go (fun h => ?_) (fun h => ?_) <;> (try exact absurd h (by assumption)) <;> (try exact absurd (by assumption) h))) <;> (try refine Hold_P ?_) <;> (try simp -dsimp only [h, go_sem, Nat.reduceLT, Nat.reduceLeDiff, Nat.reduceEqDiff, Nat.reduceAdd, Nat.reduceMul, Int.reduceNeg, Nat.reduceBEq, reduceCtorEq, ↓reduceIte]))
    | refine Exists.intro _ (Exists.intro _ (And.intro (And.intro rfl rfl) ?_))
  refine W_loop_st (fun x : List Int × Nat => [(0, .ms o 1 0 ls.length), (1, .int .i64 ls.length), (2, .fn fi [cp]), (6, .int .i64 x.2)]) (fun x => σ.put o (.arr (ints x.1))) (fun x => (x.2 = 20 ∧ x.1 = l2) ∨ (x.2 = 40 ∧ x.1.Perm ls ∧ SortedAt tl x.1 0 ls.length)) (fun x => 60 - x.2) (l2, 20) (.inl ⟨rfl, rfl⟩) (Env.Sub_of_has (by simp [Env.Has, Env.get, Env.putO])) (Store.Sub.refl _) ?_
  rintro ⟨l, bs⟩ hi2
  simp only at hi2
  by_cases hlt2 : bs < ls.length
  · have hd2 : decide ((bs : Int) < (ls.length : Int)) = true := decT (by omega)
    obtain ⟨rfl, rfl⟩ : bs = 20 ∧ l = l2 := by
      rcases hi2 with h | h
      · exact h
      · omega
    have hmerge := hmerge hlt2
    have w2 : IntKind.i64.wrap (2 * ((20 : Nat) : Int)) = ((40 : Nat) : Int) := by decide
    have w3 : IntKind.i64.wrap (((20 : Nat) : Int) * 2) = ((40 : Nat) : Int) := by decide
    repeat' first
      | refine W_seq ?_
      | refine W_block ?_
      | ((first | refine W_region (mu := []) ?_ | (refine W_region_any [] ⟨[], [], [], [], [], [], 0⟩ mixedOrders_ok (by kernel_rfl) ?_; intro nu hn1 hn2) | refine fn_ret ?_ | refine fn_normal ?_ | refine Hold_P ?_ | refine prun_go ?_ | refine drun_go ?_); simp -dsimp only [go_sem, Nat.reduceLT, Nat.reduceLeDiff, Nat.reduceEqDiff, Nat.reduceAdd, Nat.reduceMul, Int.reduceNeg, Nat.reduceBEq, reduceCtorEq, ↓reduceIte, hd2, w2])
      | (refine W_cond rfl (fun h => ?_) (fun h => ?_) <;> (try (cases h; done)))
      | refine W_ret ?_
      | refine W_skip ?_
      | refine W_exit ?_
      | refine then_normal ?_
      | refine then_ret ?_
      | refine then_exit ?_
      | refine inBlock_normal ?_
      | refine inBlock_ret ?_
      | refine inBlock_exit ?_
      | refine inBlock_ne (by decide) ?_
      | refine Hold_E ?_
      | (refine And.intro ?_ ?_; omega)
      | ((first | (refine ite_goB (fun h => ?_) (fun h => ?_) <;> (try exact absurd ((h : _ = false).symm.trans (by assumption : _ = true)) (by decide)) <;> (try exact absurd ((by assumption : _ = false).symm.trans (h : _ = true)) (by decide))) | (refine ite_go (fun h => ?_) (fun h => ?_) <;> (try exact absurd h (by assumption)) <;> (try exact absurd (by assumption) h))) <;> (try refine Hold_P ?_) <;> (try simp -dsimp only [h, go_sem, Nat.reduceLT, Nat.reduceLeDiff, Nat.reduceEqDiff, Nat.reduceAdd, Nat.reduceMul, Int.reduceNeg, Nat.reduceBEq, reduceCtorEq, ↓reduceIte, hd2, w2]))
      | refine Exists.intro _ (Exists.intro _ (And.intro (And.intro rfl rfl) ?_))
    refine W_loop_st (fun x : List Int × Nat => [(0, .ms o 1 0 ls.length), (1, .int .i64 ls.length), (2, .fn fi [cp]), (6, .int .i64 ((20 : Nat) : Int)), (7, .int .i64 x.2), (8, .int .i64 ((x.2 + 40 : Nat) : Int))]) (fun x => σ.put o (.arr (ints x.1))) (fun x => (x.2 = 0 ∧ x.1 = l) ∨ (x.2 = 40 ∧ ls.length = 40 ∧ x.1.Perm ls ∧ SortedAt tl x.1 0 ls.length)) (fun x => 60 - x.2) (l, 0) (.inl ⟨rfl, rfl⟩) (Env.Sub_of_has (by simp [Env.Has, Env.get, Env.putO])) (Store.Sub.refl _) ?_
    rintro ⟨l3, a3⟩ hi3
    simp only at hi3
    by_cases hlt3 : a3 + 40 ≤ ls.length
    · have hd3 : decide (((a3 + 40 : Nat) : Int) ≤ (ls.length : Int)) = true := decT (by omega)
      obtain ⟨rfl, rfl⟩ : a3 = 0 ∧ l3 = l := by
        rcases hi3 with h | h
        · exact h
        · omega
      have h40 : ls.length = 40 := by omega
      have w4 : IntKind.i64.wrap (((0 : Nat) : Int) + ((20 : Nat) : Int)) = ((20 : Nat) : Int) := by decide
      have w5 : IntKind.i64.wrap (((0 + 40 : Nat) : Int) + ((40 : Nat) : Int)) = ((80 : Nat) : Int) := by decide
      have hm2 := hmerge
      rw [show ((ls.length : Nat) : Int) = ((0 + 40 : Nat) : Int) by rw [h40]] at hm2
      repeat' first
        | refine W_seq ?_
        | refine W_block ?_
        | ((first | refine W_region (mu := []) ?_ | (refine W_region_any [] ⟨[], [], [], [], [], [], 0⟩ mixedOrders_ok (by kernel_rfl) ?_; intro nu hn1 hn2) | refine fn_ret ?_ | refine fn_normal ?_ | refine Hold_P ?_ | refine prun_go ?_ | refine drun_go ?_); simp -dsimp only [go_sem, Nat.reduceLT, Nat.reduceLeDiff, Nat.reduceEqDiff, Nat.reduceAdd, Nat.reduceMul, Int.reduceNeg, Nat.reduceBEq, reduceCtorEq, ↓reduceIte, hd3, w4])
        | (refine W_cond rfl (fun h => ?_) (fun h => ?_) <;> (try (cases h; done)))
        | refine W_ret ?_
        | refine W_skip ?_
        | refine W_exit ?_
        | refine then_normal ?_
        | refine then_ret ?_
        | refine then_exit ?_
        | refine inBlock_normal ?_
        | refine inBlock_ret ?_
        | refine inBlock_exit ?_
        | refine inBlock_ne (by decide) ?_
        | refine Hold_E ?_
        | (refine And.intro ?_ ?_; omega)
        | ((first | (refine ite_goB (fun h => ?_) (fun h => ?_) <;> (try exact absurd ((h : _ = false).symm.trans (by assumption : _ = true)) (by decide)) <;> (try exact absurd ((by assumption : _ = false).symm.trans (h : _ = true)) (by decide))) | (refine ite_go (fun h => ?_) (fun h => ?_) <;> (try exact absurd h (by assumption)) <;> (try exact absurd (by assumption) h))) <;> (try refine Hold_P ?_) <;> (try simp -dsimp only [h, go_sem, Nat.reduceLT, Nat.reduceLeDiff, Nat.reduceEqDiff, Nat.reduceAdd, Nat.reduceMul, Int.reduceNeg, Nat.reduceBEq, reduceCtorEq, ↓reduceIte, hd3, w4]))
        | refine Exists.intro _ (Exists.intro _ (And.intro (And.intro rfl rfl) ?_))
      refine PCall_use hm2 ?_
      rintro _ _ ⟨rfl, l4, rfl, hp4, hs4⟩
      repeat' first
        | refine W_seq ?_
        | refine W_block ?_
        | ((first | refine W_region (mu := []) ?_ | (refine W_region_any [] ⟨[], [], [], [], [], [], 0⟩ mixedOrders_ok (by kernel_rfl) ?_; intro nu hn1 hn2) | refine fn_ret ?_ | refine fn_normal ?_ | refine Hold_P ?_ | refine prun_go ?_ | refine drun_go ?_); simp -dsimp only [go_sem, Nat.reduceLT, Nat.reduceLeDiff, Nat.reduceEqDiff, Nat.reduceAdd, Nat.reduceMul, Int.reduceNeg, Nat.reduceBEq, reduceCtorEq, ↓reduceIte, hd3, w2, w5])
        | (refine W_cond rfl (fun h => ?_) (fun h => ?_) <;> (try (cases h; done)))
        | refine W_ret ?_
        | refine W_skip ?_
        | refine W_exit ?_
        | refine then_normal ?_
        | refine then_ret ?_
        | refine then_exit ?_
        | refine inBlock_normal ?_
        | refine inBlock_ret ?_
        | refine inBlock_exit ?_
        | refine inBlock_ne (by decide) ?_
        | refine Hold_E ?_
        | (refine And.intro ?_ ?_; omega)
        | ((first | (refine ite_goB (fun h => ?_) (fun h => ?_) <;> (try exact absurd ((h : _ = false).symm.trans (by assumption : _ = true)) (by decide)) <;> (try exact absurd ((by assumption : _ = false).symm.trans (h : _ = true)) (by decide))) | (refine ite_go (fun h => ?_) (fun h => ?_) <;> (try exact absurd h (by assumption)) <;> (try exact absurd (by assumption) h))) <;> (try refine Hold_P ?_) <;> (try simp -dsimp only [h, go_sem, Nat.reduceLT, Nat.reduceLeDiff, Nat.reduceEqDiff, Nat.reduceAdd, Nat.reduceMul, Int.reduceNeg, Nat.reduceBEq, reduceCtorEq, ↓reduceIte, hd3, w2, w5]))
        | refine Exists.intro _ (Exists.intro _ (And.intro (And.intro rfl rfl) ?_))
      exact ⟨(l4, 40), by simp only; omega, .inr ⟨rfl, h40, hp4, hs4⟩, Env.Sub_of_has (by simp [Env.Has, Env.get, Env.putO]), Store.Sub.refl _⟩
    have hd3 : decide (((a3 + 40 : Nat) : Int) ≤ (ls.length : Int)) = false := decF (by omega)
    rcases hi3 with ⟨rfl, rfl⟩ | ⟨rfl, h40, hp4, hs4⟩
    · have w4 : IntKind.i64.wrap (((0 : Nat) : Int) + ((20 : Nat) : Int)) = ((20 : Nat) : Int) := by decide
      have d4 : decide (((20 : Nat) : Int) < (ls.length : Int)) = true := decT (by omega)
      repeat' first
        | refine W_seq ?_
        | refine W_block ?_
        | ((first | refine W_region (mu := []) ?_ | (refine W_region_any [] ⟨[], [], [], [], [], [], 0⟩ mixedOrders_ok (by kernel_rfl) ?_; intro nu hn1 hn2) | refine fn_ret ?_ | refine fn_normal ?_ | refine Hold_P ?_ | refine prun_go ?_ | refine drun_go ?_); simp -dsimp only [go_sem, Nat.reduceLT, Nat.reduceLeDiff, Nat.reduceEqDiff, Nat.reduceAdd, Nat.reduceMul, Int.reduceNeg, Nat.reduceBEq, reduceCtorEq, ↓reduceIte, hd3, w4, d4])
        | (refine W_cond rfl (fun h => ?_) (fun h => ?_) <;> (try (cases h; done)))
        | refine W_ret ?_
        | refine W_skip ?_
        | refine W_exit ?_
        | refine then_normal ?_
        | refine then_ret ?_
        | refine then_exit ?_
        | refine inBlock_normal ?_
        | refine inBlock_ret ?_
        | refine inBlock_exit ?_
        | refine inBlock_ne (by decide) ?_
        | refine Hold_E ?_
        | (refine And.intro ?_ ?_; omega)
        | ((first | (refine ite_goB (fun h => ?_) (fun h => ?_) <;> (try exact absurd ((h : _ = false).symm.trans (by assumption : _ = true)) (by decide)) <;> (try exact absurd ((by assumption : _ = false).symm.trans (h : _ = true)) (by decide))) | (refine ite_go (fun h => ?_) (fun h => ?_) <;> (try exact absurd h (by assumption)) <;> (try exact absurd (by assumption) h))) <;> (try refine Hold_P ?_) <;> (try simp -dsimp only [h, go_sem, Nat.reduceLT, Nat.reduceLeDiff, Nat.reduceEqDiff, Nat.reduceAdd, Nat.reduceMul, Int.reduceNeg, Nat.reduceBEq, reduceCtorEq, ↓reduceIte, hd3, w4, d4]))
        | refine Exists.intro _ (Exists.intro _ (And.intro (And.intro rfl rfl) ?_))
      refine PCall_use hmerge ?_
      rintro _ _ ⟨rfl, l4, rfl, hp4, hs4⟩
      repeat' first
        | refine W_seq ?_
        | refine W_block ?_
        | ((first | refine W_region (mu := []) ?_ | (refine W_region_any [] ⟨[], [], [], [], [], [], 0⟩ mixedOrders_ok (by kernel_rfl) ?_; intro nu hn1 hn2) | refine fn_ret ?_ | refine fn_normal ?_ | refine Hold_P ?_ | refine prun_go ?_ | refine drun_go ?_); simp -dsimp only [go_sem, Nat.reduceLT, Nat.reduceLeDiff, Nat.reduceEqDiff, Nat.reduceAdd, Nat.reduceMul, Int.reduceNeg, Nat.reduceBEq, reduceCtorEq, ↓reduceIte, w3])
        | (refine W_cond rfl (fun h => ?_) (fun h => ?_) <;> (try (cases h; done)))
        | refine W_ret ?_
        | refine W_skip ?_
        | refine W_exit ?_
        | refine then_normal ?_
        | refine then_ret ?_
        | refine then_exit ?_
        | refine inBlock_normal ?_
        | refine inBlock_ret ?_
        | refine inBlock_exit ?_
        | refine inBlock_ne (by decide) ?_
        | refine Hold_E ?_
        | (refine And.intro ?_ ?_; omega)
        | ((first | (refine ite_goB (fun h => ?_) (fun h => ?_) <;> (try exact absurd ((h : _ = false).symm.trans (by assumption : _ = true)) (by decide)) <;> (try exact absurd ((by assumption : _ = false).symm.trans (h : _ = true)) (by decide))) | (refine ite_go (fun h => ?_) (fun h => ?_) <;> (try exact absurd h (by assumption)) <;> (try exact absurd (by assumption) h))) <;> (try refine Hold_P ?_) <;> (try simp -dsimp only [h, go_sem, Nat.reduceLT, Nat.reduceLeDiff, Nat.reduceEqDiff, Nat.reduceAdd, Nat.reduceMul, Int.reduceNeg, Nat.reduceBEq, reduceCtorEq, ↓reduceIte, w3]))
        | refine Exists.intro _ (Exists.intro _ (And.intro (And.intro rfl rfl) ?_))
      exact ⟨(l4, 40), by simp only; omega, .inr ⟨rfl, hp4, hs4⟩, Env.Sub_of_has (by simp [Env.Has, Env.get, Env.putO]), Store.Sub.refl _⟩
    · have w4 : IntKind.i64.wrap (((40 : Nat) : Int) + ((20 : Nat) : Int)) = ((60 : Nat) : Int) := by decide
      have d4 : decide (((60 : Nat) : Int) < (ls.length : Int)) = false := decF (by omega)
      repeat' first
        | refine W_seq ?_
        | refine W_block ?_
        | ((first | refine W_region (mu := []) ?_ | (refine W_region_any [] ⟨[], [], [], [], [], [], 0⟩ mixedOrders_ok (by kernel_rfl) ?_; intro nu hn1 hn2) | refine fn_ret ?_ | refine fn_normal ?_ | refine Hold_P ?_ | refine prun_go ?_ | refine drun_go ?_); simp -dsimp only [go_sem, Nat.reduceLT, Nat.reduceLeDiff, Nat.reduceEqDiff, Nat.reduceAdd, Nat.reduceMul, Int.reduceNeg, Nat.reduceBEq, reduceCtorEq, ↓reduceIte, hd3, w4, d4, w3])
        | (refine W_cond rfl (fun h => ?_) (fun h => ?_) <;> (try (cases h; done)))
        | refine W_ret ?_
        | refine W_skip ?_
        | refine W_exit ?_
        | refine then_normal ?_
        | refine then_ret ?_
        | refine then_exit ?_
        | refine inBlock_normal ?_
        | refine inBlock_ret ?_
        | refine inBlock_exit ?_
        | refine inBlock_ne (by decide) ?_
        | refine Hold_E ?_
        | (refine And.intro ?_ ?_; omega)
        | ((first | (refine ite_goB (fun h => ?_) (fun h => ?_) <;> (try exact absurd ((h : _ = false).symm.trans (by assumption : _ = true)) (by decide)) <;> (try exact absurd ((by assumption : _ = false).symm.trans (h : _ = true)) (by decide))) | (refine ite_go (fun h => ?_) (fun h => ?_) <;> (try exact absurd h (by assumption)) <;> (try exact absurd (by assumption) h))) <;> (try refine Hold_P ?_) <;> (try simp -dsimp only [h, go_sem, Nat.reduceLT, Nat.reduceLeDiff, Nat.reduceEqDiff, Nat.reduceAdd, Nat.reduceMul, Int.reduceNeg, Nat.reduceBEq, reduceCtorEq, ↓reduceIte, hd3, w4, d4, w3]))
        | refine Exists.intro _ (Exists.intro _ (And.intro (And.intro rfl rfl) ?_))
      exact ⟨(l3, 40), by simp only; omega, .inr ⟨rfl, hp4, hs4⟩, Env.Sub_of_has (by simp [Env.Has, Env.get, Env.putO]), Store.Sub.refl _⟩
  · have hd2 : decide ((bs : Int) < (ls.length : Int)) = false := decF (by omega)
    have hfin : l.Perm ls ∧ SortedAt tl l 0 ls.length := by
      rcases hi2 with ⟨rfl, rfl⟩ | ⟨rfl, hp, hs⟩
      · exact ⟨hj.perm, hj.s1.sub (Nat.le_refl _) (by omega)⟩
      · exact ⟨hp, hs⟩
    repeat' first
      | refine W_seq ?_
      | refine W_block ?_
      | ((first | refine W_region (mu := []) ?_ | (refine W_region_any [] ⟨[], [], [], [], [], [], 0⟩ mixedOrders_ok (by kernel_rfl) ?_; intro nu hn1 hn2) | refine fn_ret ?_ | refine fn_normal ?_ | refine Hold_P ?_ | refine prun_go ?_ | refine drun_go ?_); simp -dsimp only [go_sem, Nat.reduceLT, Nat.reduceLeDiff, Nat.reduceEqDiff, Nat.reduceAdd, Nat.reduceMul, Int.reduceNeg, Nat.reduceBEq, reduceCtorEq, ↓reduceIte, hd2])
      | (refine W_cond rfl (fun h => ?_) (fun h => ?_) <;> (try (cases h; done)))
      | refine W_ret ?_
      | refine W_skip ?_
      | refine W_exit ?_
      | refine then_normal ?_
      | refine then_ret ?_
      | refine then_exit ?_
      | refine inBlock_normal ?_
      | refine inBlock_ret ?_
      | refine inBlock_exit ?_
      | refine inBlock_ne (by decide) ?_
      | refine Hold_E ?_
      | (refine And.intro ?_ ?_; omega)
      | ((first | (refine ite_goB (fun h => ?_) (fun h => ?_) <;> (try exact absurd ((h : _ = false).symm.trans (by assumption : _ = true)) (by decide)) <;> (try exact absurd ((by assumption : _ = false).symm.trans (h : _ = true)) (by decide))) | (refine ite_go (fun h => ?_) (fun h => ?_) <;> (try exact absurd h (by assumption)) <;> (try exact absurd (by assumption) h))) <;> (try refine Hold_P ?_) <;> (try simp -dsimp only [h, go_sem, Nat.reduceLT, Nat.reduceLeDiff, Nat.reduceEqDiff, Nat.reduceAdd, Nat.reduceMul, Int.reduceNeg, Nat.reduceBEq, reduceCtorEq, ↓reduceIte, hd2]))
      | refine Exists.intro _ (Exists.intro _ (And.intro (And.intro rfl rfl) ?_))
    exact ⟨_, Store.Sub.refl _, l, rfl, hfin⟩

theorem sortStable_spec (hc : Cmp fi cp V c) (ho : Ord V tl c) (ls : List Int) (hn : ls.length ≤ 40) (hV : AllV V ls) (hinc : ∀ p q, p < q → q < ls.length → gd ls p < gd ls q) (o : Nat) (σ : Store) :
    PCall Try.prog 29 [.ms o 1 0 ls.length, .fn fi [cp]] (σ.put o (.arr (ints ls))) (fun r s => r = .tup [] ∧ ∃ l', s = σ.put o (.arr (ints l')) ∧ l'.Perm ls ∧ SortedAt tl l' 0 ls.length) := by
  refine PCall_w [] 9 Try.func29 (by rfl) rfl rfl rfl rfl ?_
  repeat' first
    | refine W_seq ?_
    | refine W_block ?_
    | ((first | refine W_region (mu := []) ?_ | (refine W_region_any [] ⟨[], [], [], [], [], [], 0⟩ mixedOrders_ok (by kernel_rfl) ?_; intro nu hn1 hn2) | refine fn_ret ?_ | refine fn_normal ?_ | refine Hold_P ?_ | refine prun_go ?_ | refine drun_go ?_); simp -dsimp only [go_sem, Nat.reduceLT, Nat.reduceLeDiff, Nat.reduceEqDiff, Nat.reduceAdd, Nat.reduceMul, Int.reduceNeg, Nat.reduceBEq, reduceCtorEq, ↓reduceIte])
    | (refine W_cond rfl (fun h => ?_) (fun h => ?_) <;> (try (cases h; done)))
    | refine W_ret ?_
    | refine W_skip ?_
    | refine W_exit ?_
    | refine then_normal ?_
    | refine then_ret ?_
    | refine then_exit ?_
    | refine inBlock_normal ?_
    | refine inBlock_ret ?_
    | refine inBlock_exit ?_
    | refine inBlock_ne (by decide) ?_
    | refine Hold_E ?_
    | (refine And.intro ?_ ?_; omega)
    | ((first | (refine ite_goB (fun h => ?_) (fun h => ?_) <;> (try exact absurd ((h : _ = false).symm.trans (by assumption : _ = true)) (by decide)) <;> (try exact absurd ((by assumption : _ = false).symm.trans (h : _ = true)) (by decide))) | (refine ite_go (fun h => ?_) (fun h => ?_) <;> (try exact absurd h (by assumption)) <;> (try exact absurd (by assumption) h))) <;> (try refine Hold_P ?_) <;> (try simp -dsimp only [h, go_sem, Nat.reduceLT, Nat.reduceLeDiff, Nat.reduceEqDiff, Nat.reduceAdd, Nat.reduceMul, Int.reduceNeg, Nat.reduceBEq, reduceCtorEq, ↓reduceIte]))
    | refine Exists.intro _ (Exists.intro _ (And.intro (And.intro rfl rfl) ?_))
  refine PCall_use (stable_spec hc ho ls hn hV hinc o σ) ?_
  rintro _ _ ⟨rfl, l', rfl, h1, h2⟩
  repeat' first
    | refine W_seq ?_
    | refine W_block ?_
    | ((first | refine W_region (mu := []) ?_ | (refine W_region_any [] ⟨[], [], [], [], [], [], 0⟩ mixedOrders_ok (by kernel_rfl) ?_; intro nu hn1 hn2) | refine fn_ret ?_ | refine fn_normal ?_ | refine Hold_P ?_ | refine prun_go ?_ | refine drun_go ?_); simp -dsimp only [go_sem, Nat.reduceLT, Nat.reduceLeDiff, Nat.reduceEqDiff, Nat.reduceAdd, Nat.reduceMul, Int.reduceNeg, Nat.reduceBEq, reduceCtorEq, ↓reduceIte])
    | (refine W_cond rfl (fun h => ?_) (fun h => ?_) <;> (try (cases h; done)))
    | refine W_ret ?_
    | refine W_skip ?_
    | refine W_exit ?_
    | refine then_normal ?_
    | refine then_ret ?_
    | refine then_exit ?_
    | refine inBlock_normal ?_
    | refine inBlock_ret ?_
    | refine inBlock_exit ?_
    | refine inBlock_ne (by decide) ?_
    | refine Hold_E ?_
    | (refine And.intro ?_ ?_; omega)
    | ((first | (refine ite_goB (fun h => ?_) (fun h => ?_) <;> (try exact absurd ((h : _ = false).symm.trans (by assumption : _ = true)) (by decide)) <;> (try exact absurd ((by assumption : _ = false).symm.trans (h : _ = true)) (by decide))) | (refine ite_go (fun h => ?_) (fun h => ?_) <;> (try exact absurd h (by assumption)) <;> (try exact absurd (by assumption) h))) <;> (try refine Hold_P ?_) <;> (try simp -dsimp only [h, go_sem, Nat.reduceLT, Nat.reduceLeDiff, Nat.reduceEqDiff, Nat.reduceAdd, Nat.reduceMul, Int.reduceNeg, Nat.reduceBEq, reduceCtorEq, ↓reduceIte]))
    | refine Exists.intro _ (Exists.intro _ (And.intro (And.intro rfl rfl) ?_))
  exact ⟨_, Store.Sub.refl _, l', rfl, h1, h2⟩
end
end Go.Proofs.Ytlbhhoojbokblaa
