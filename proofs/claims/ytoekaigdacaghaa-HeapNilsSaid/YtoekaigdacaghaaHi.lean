/- Contracts of the document's First and All, and of Same. Conditions: none. -/
import Derived.Test.YtoekaigdacaghaaHh
set_option linter.unusedVariables false
set_option linter.unusedSimpArgs false
namespace Go.Proofs.Ytoekaigdacaghaa
open Go.Kern
set_option maxRecDepth 100000
set_option maxHeartbeats 4000000
attribute [local go_sem] drun_nil drun_cons prun_nil prun_cons wrOk tqOk lateOp lateB dstOk ev ofConst leafOf Env.putO Env.get envOf readRs_nil oneRes nilSide SK.isNil isMu fillA partsFit boundA SK.cut SK.cutFull SK.fresh rowOk rowsOk_nil rowsOk_cons rowsOk_append rowsOk_ints splice oneOf keyKind cellsKind cellKind cellsB cellB zeroFits TK.agg AV.cells AV.known AV.one List.set_cons_zero List.set_cons_succ put_same put_put forall_const implies_true exists_eq_left exists_eq_left' exists_eq_right exists_eq Store.Sub.refl and_self Int.toNat_natCast length_ints List.length_map true_and and_true decide_true decide_false if_true if_false Bool.false_eq_true Bool.true_eq_false List.getElem?_cons_zero List.getElem?_cons_succ List.length_cons List.length_nil List.drop_zero List.drop_succ_cons List.take_succ_cons List.take_zero List.drop_nil List.take_nil List.append_nil List.map_cons List.map_nil List.cons_append List.nil_append beq_self_eq_true Bool.false_beq Bool.true_beq Bool.not_true Bool.not_false Option.map_some Option.map_none Option.bind_some ne_eq not_false_eq_true List.contains_cons List.contains_nil Bool.or_false Bool.or_true Bool.and_true Bool.and_false Bool.true_and Bool.false_and List.all_cons List.all_nil Nat.one_ne_zero Nat.zero_ne_one Option.isSome_some Option.isSome_none List.getElem?_toArray beq_true beq_false decide_eq_true_eq Int.toNat_zero forall_ints take_ints drop_ints Int.le_refl Int.natCast_nonneg Nat.zero_add Nat.add_zero or_true true_or false_or or_false
attribute [local go_sem ↓] allocN guardP OpSem callA readRs_cons readR binA intOpA strOpA nilOpA unA convA boxA allocA behind loadA buildA buildSliceA fieldAddrA fieldA indexAddrA indexA lenA sliceA extractA nilCheckA storeA lookupA mapSetA mapDelA makeSliceA appendA appendN apN
attribute [local irreducible] PCall W

def Srt (c : List Th) : Prop := c.Pairwise fun a b => a.w < b.w ∧ a.k ≠ b.k
theorem Srt.lt {c : List Th} (h : Srt c) {i j : Nat} (hij : i < j) (hj : j < c.length) : (c.getD i noTh).w < (c.getD j noTh).w ∧ (c.getD i noTh).k ≠ (c.getD j noTh).k := by
  rw [getD_th hj, getD_th (by omega)]
  exact List.pairwise_iff_getElem.1 h i j (by omega) hj hij

/-- The first i: b is the first of those with the least rank. -/
def FirstOf (c : List Th) (i : Nat) (b : Int) : Prop := (i = 0 ∧ b = -1) ∨ (∃ n : Nat, b = n ∧ n < i ∧ (∀ j, j < n → (c.getD n noTh).r < (c.getD j noTh).r) ∧ (∀ j, n ≤ j → j < i → (c.getD n noTh).r ≤ (c.getD j noTh).r))

theorem rfirst_spec (kd : SK) (c : List Th) (hc : c.length < 1000000) : ∃ b : Int, FirstOf c c.length b ∧ ∀ σ : Store, PCall Try.prog 27 [.sl kd (krs c)] σ (fun r t => r = .int .i64 b ∧ t = σ) := by
  have hex : ∀ i, i ≤ c.length → ∃ b : Int, FirstOf c i b := by
    intro i
    induction i with
    | zero => exact fun _ => ⟨-1, .inl ⟨rfl, rfl⟩⟩
    | succ i ih =>
      intro hi
      obtain ⟨b, hb⟩ := ih (by omega)
      rcases hb with ⟨h1, h2⟩ | ⟨n, h1, h2, h3, h4⟩
      · exact ⟨i, .inr ⟨i, rfl, by omega, fun j hj => by omega, fun j hj hji => by rw [show j = i by omega]; exact Int.le_refl _⟩⟩
      · by_cases hl : (c.getD i noTh).r < (c.getD n noTh).r
        · refine ⟨i, .inr ⟨i, rfl, by omega, fun j hj => ?_, fun j hj hji => by rw [show j = i by omega]; exact Int.le_refl _⟩⟩
          by_cases q : j < n
          · have := h3 j q; omega
          · have := h4 j (by omega) hj; omega
        · refine ⟨n, .inr ⟨n, rfl, by omega, h3, fun j hj hji => ?_⟩⟩
          by_cases q : j = i
          · rw [q]; omega
          · exact h4 j hj (by omega)
  have huni : ∀ {i : Nat} {a b : Int}, FirstOf c i a → FirstOf c i b → a = b := by
    rintro i a b (⟨h1, h2⟩ | ⟨n, h1, h2, h3, h4⟩) (⟨g1, g2⟩ | ⟨m, g1, g2, g3, g4⟩)
    · omega
    · omega
    · omega
    · rcases Nat.lt_trichotomy n m with q | q | q
      · have e1 := g3 n q; have e2 := h4 m (by omega) g2; omega
      · omega
      · have e1 := h3 m q; have e2 := g4 n (by omega) h2; omega
  obtain ⟨b, hb⟩ := hex c.length (Nat.le_refl _)
  refine ⟨b, hb, fun σ => ?_⟩
  refine PCall_q [.tmp 2] 28 Try.func27 (by rfl) rfl rfl rfl rfl ?_
  repeat' first
    | refine W_seq ?_
    | refine W_block ?_
    | ((first | refine W_region (mu := []) ?_ | (refine W_region_any [] ⟨[], [], [], [], [], [], 0⟩ mixedOrders_ok (by kernel_rfl) ?_; intro nu hn1 hn2) | refine fn_ret ?_ | refine fn_normal ?_ | refine Hold_P ?_ | refine prun_go ?_ | refine drun_go ?_); simp -dsimp only [go_sem, Nat.reduceLT, Nat.reduceLeDiff, Nat.reduceEqDiff, Nat.reduceAdd, Nat.reduceMul, Int.reduceNeg, Nat.reduceBEq, reduceCtorEq, ↓reduceIte])
    | (refine W_cond rfl (fun h => ?_) (fun h => ?_) <;> (try (cases h; done)))
    | refine W_ret ?_
    | refine W_skip ?_
    | refine W_exit ?_
    | refine then_normal ?_
    | refine then_ret ?_
    | refine then_exit ?_
    | refine inBlock_normal ?_
    | refine inBlock_ret ?_
    | refine inBlock_exit ?_
    | refine inBlock_ne (by decide) ?_
    | refine Hold_E ?_
    | (refine And.intro ?_ ?_; omega)
    | ((first | (refine ite_goB (fun h => ?_) (fun h => ?_) <;> (try exact absurd ((h : _ = false).symm.trans (by assumption : _ = true)) (by decide)) <;> (try exact absurd ((by assumption : _ = false).symm.trans (h : _ = true)) (by decide))) | (refine ite_go (fun h => ?_) (fun h => ?_) <;> (try exact absurd h (by assumption)) <;> (try exact absurd (by assumption) h))) <;> (try refine Hold_P ?_) <;> (try simp -dsimp only [h, go_sem, Nat.reduceLT, Nat.reduceLeDiff, Nat.reduceEqDiff, Nat.reduceAdd, Nat.reduceMul, Int.reduceNeg, Nat.reduceBEq, reduceCtorEq, ↓reduceIte]))
    | refine Exists.intro _ (Exists.intro _ (And.intro (And.intro rfl rfl) ?_))
  refine W_loop_st (fun x : Nat × Int => [(0, .sl kd (krs c)), (3, .int .i64 x.2), (4, .int .i64 x.1)]) (fun _ => σ) (fun x => x.1 ≤ c.length ∧ FirstOf c x.1 x.2) (fun x => c.length - x.1) (0, -1) ⟨Nat.zero_le _, .inl ⟨rfl, rfl⟩⟩ (Env.Sub_of_has (by simp [Env.Has, Env.get])) (Store.Sub.refl _) ?_
  rintro ⟨i, a⟩ ⟨hi, ha⟩
  simp only at hi ha
  by_cases hlt : i < c.length
  · have hx := getD_krs hlt
    have hd : decide ((i : Int) < (c.length : Int)) = true := decT (by omega)
    have hlt' : ((i : Int) < (c.length : Int)) = True := eq_true (by omega)
    have hw := wrap_succ (show i < 4611686018427387904 by omega)
    rcases ha with ⟨h1, h2⟩ | ⟨n, h1, h2, h3, h4⟩
    · have c0 : decide (a < 0) = true := decT (by omega)
      repeat' first
        | refine W_seq ?_
        | refine W_block ?_
        | ((first | refine W_region (mu := []) ?_ | (refine W_region_any [] ⟨[], [], [], [], [], [], 0⟩ mixedOrders_ok (by kernel_rfl) ?_; intro nu hn1 hn2) | refine fn_ret ?_ | refine fn_normal ?_ | refine Hold_P ?_ | refine prun_go ?_ | refine drun_go ?_); simp -dsimp only [go_sem, Nat.reduceLT, Nat.reduceLeDiff, Nat.reduceEqDiff, Nat.reduceAdd, Nat.reduceMul, Int.reduceNeg, Nat.reduceBEq, reduceCtorEq, ↓reduceIte, length_krs, hd, c0])
        | (refine W_cond rfl (fun h => ?_) (fun h => ?_) <;> (try (cases h; done)))
        | refine W_ret ?_
        | refine W_skip ?_
        | refine W_exit ?_
        | refine then_normal ?_
        | refine then_ret ?_
        | refine then_exit ?_
        | refine inBlock_normal ?_
        | refine inBlock_ret ?_
        | refine inBlock_exit ?_
        | refine inBlock_ne (by decide) ?_
        | refine Hold_E ?_
        | (refine And.intro ?_ ?_; omega)
        | ((first | (refine ite_goB (fun h => ?_) (fun h => ?_) <;> (try exact absurd ((h : _ = false).symm.trans (by assumption : _ = true)) (by decide)) <;> (try exact absurd ((by assumption : _ = false).symm.trans (h : _ = true)) (by decide))) | (refine ite_go (fun h => ?_) (fun h => ?_) <;> (try exact absurd h (by assumption)) <;> (try exact absurd (by assumption) h))) <;> (try refine Hold_P ?_) <;> (try simp -dsimp only [h, go_sem, Nat.reduceLT, Nat.reduceLeDiff, Nat.reduceEqDiff, Nat.reduceAdd, Nat.reduceMul, Int.reduceNeg, Nat.reduceBEq, reduceCtorEq, ↓reduceIte, length_krs, hd, c0]))
        | refine Exists.intro _ (Exists.intro _ (And.intro (And.intro rfl rfl) ?_))
      exact ⟨(i + 1, i), by simp only; omega, ⟨by simp only; omega, .inr ⟨i, rfl, by simp only; omega, fun j hj => by omega, fun j hj hji => by rw [show j = i by simp only at hji; omega]; exact Int.le_refl _⟩⟩, Env.Sub_of_has (by simp [Env.Has, Env.get, hw]), Store.Sub.refl _⟩
    · subst h1
      have c0 : decide ((n : Int) < 0) = false := decF (by omega)
      have hxn := getD_krs (show n < c.length by omega)
      have hn' : ((n : Int) < (c.length : Int)) = True := eq_true (by omega)
      by_cases hl : (c.getD i noTh).r < (c.getD n noTh).r
      · have c1 := decT hl
        repeat' first
          | refine W_seq ?_
          | refine W_block ?_
          | ((first | refine W_region (mu := []) ?_ | (refine W_region_any [] ⟨[], [], [], [], [], [], 0⟩ mixedOrders_ok (by kernel_rfl) ?_; intro nu hn1 hn2) | refine fn_ret ?_ | refine fn_normal ?_ | refine Hold_P ?_ | refine prun_go ?_ | refine drun_go ?_); simp -dsimp only [go_sem, Nat.reduceLT, Nat.reduceLeDiff, Nat.reduceEqDiff, Nat.reduceAdd, Nat.reduceMul, Int.reduceNeg, Nat.reduceBEq, reduceCtorEq, ↓reduceIte, length_krs, hd, c0, hx, hxn, hlt', hn', c1])
          | (refine W_cond rfl (fun h => ?_) (fun h => ?_) <;> (try (cases h; done)))
          | refine W_ret ?_
          | refine W_skip ?_
          | refine W_exit ?_
          | refine then_normal ?_
          | refine then_ret ?_
          | refine then_exit ?_
          | refine inBlock_normal ?_
          | refine inBlock_ret ?_
          | refine inBlock_exit ?_
          | refine inBlock_ne (by decide) ?_
          | refine Hold_E ?_
          | (refine And.intro ?_ ?_; omega)
          | ((first | (refine ite_goB (fun h => ?_) (fun h => ?_) <;> (try exact absurd ((h : _ = false).symm.trans (by assumption : _ = true)) (by decide)) <;> (try exact absurd ((by assumption : _ = false).symm.trans (h : _ = true)) (by decide))) | (refine ite_go (fun h => ?_) (fun h => ?_) <;> (try exact absurd h (by assumption)) <;> (try exact absurd (by assumption) h))) <;> (try refine Hold_P ?_) <;> (try simp -dsimp only [h, go_sem, Nat.reduceLT, Nat.reduceLeDiff, Nat.reduceEqDiff, Nat.reduceAdd, Nat.reduceMul, Int.reduceNeg, Nat.reduceBEq, reduceCtorEq, ↓reduceIte, length_krs, hd, c0, hx, hxn, hlt', hn', c1]))
          | refine Exists.intro _ (Exists.intro _ (And.intro (And.intro rfl rfl) ?_))
        refine ⟨(i + 1, i), by simp only; omega, ⟨by simp only; omega, .inr ⟨i, rfl, by simp only; omega, fun j hj => ?_, fun j hj hji => by rw [show j = i by simp only at hji; omega]; exact Int.le_refl _⟩⟩, Env.Sub_of_has (by simp [Env.Has, Env.get, hw]), Store.Sub.refl _⟩
        by_cases q : j < n
        · have := h3 j q; omega
        · have := h4 j (by omega) hj; omega
      · have c1 := decF hl
        repeat' first
          | refine W_seq ?_
          | refine W_block ?_
          | ((first | refine W_region (mu := []) ?_ | (refine W_region_any [] ⟨[], [], [], [], [], [], 0⟩ mixedOrders_ok (by kernel_rfl) ?_; intro nu hn1 hn2) | refine fn_ret ?_ | refine fn_normal ?_ | refine Hold_P ?_ | refine prun_go ?_ | refine drun_go ?_); simp -dsimp only [go_sem, Nat.reduceLT, Nat.reduceLeDiff, Nat.reduceEqDiff, Nat.reduceAdd, Nat.reduceMul, Int.reduceNeg, Nat.reduceBEq, reduceCtorEq, ↓reduceIte, length_krs, hd, c0, hx, hxn, hlt', hn', c1])
          | (refine W_cond rfl (fun h => ?_) (fun h => ?_) <;> (try (cases h; done)))
          | refine W_ret ?_
          | refine W_skip ?_
          | refine W_exit ?_
          | refine then_normal ?_
          | refine then_ret ?_
          | refine then_exit ?_
          | refine inBlock_normal ?_
          | refine inBlock_ret ?_
          | refine inBlock_exit ?_
          | refine inBlock_ne (by decide) ?_
          | refine Hold_E ?_
          | (refine And.intro ?_ ?_; omega)
          | ((first | (refine ite_goB (fun h => ?_) (fun h => ?_) <;> (try exact absurd ((h : _ = false).symm.trans (by assumption : _ = true)) (by decide)) <;> (try exact absurd ((by assumption : _ = false).symm.trans (h : _ = true)) (by decide))) | (refine ite_go (fun h => ?_) (fun h => ?_) <;> (try exact absurd h (by assumption)) <;> (try exact absurd (by assumption) h))) <;> (try refine Hold_P ?_) <;> (try simp -dsimp only [h, go_sem, Nat.reduceLT, Nat.reduceLeDiff, Nat.reduceEqDiff, Nat.reduceAdd, Nat.reduceMul, Int.reduceNeg, Nat.reduceBEq, reduceCtorEq, ↓reduceIte, length_krs, hd, c0, hx, hxn, hlt', hn', c1]))
          | refine Exists.intro _ (Exists.intro _ (And.intro (And.intro rfl rfl) ?_))
        refine ⟨(i + 1, n), by simp only; omega, ⟨by simp only; omega, .inr ⟨n, rfl, by simp only; omega, h3, fun j hj hji => ?_⟩⟩, Env.Sub_of_has (by simp [Env.Has, Env.get, hw]), Store.Sub.refl _⟩
        by_cases q : j = i
        · rw [q]; omega
        · exact h4 j hj (by simp only at hji; omega)
  · have hd : decide ((i : Int) < (c.length : Int)) = false := decF (by omega)
    have hi' : i = c.length := by omega
    subst hi'
    have := huni ha hb
    subst this
    repeat' first
      | refine W_seq ?_
      | refine W_block ?_
      | ((first | refine W_region (mu := []) ?_ | (refine W_region_any [] ⟨[], [], [], [], [], [], 0⟩ mixedOrders_ok (by kernel_rfl) ?_; intro nu hn1 hn2) | refine fn_ret ?_ | refine fn_normal ?_ | refine Hold_P ?_ | refine prun_go ?_ | refine drun_go ?_); simp -dsimp only [go_sem, Nat.reduceLT, Nat.reduceLeDiff, Nat.reduceEqDiff, Nat.reduceAdd, Nat.reduceMul, Int.reduceNeg, Nat.reduceBEq, reduceCtorEq, ↓reduceIte, length_krs, hd])
      | (refine W_cond rfl (fun h => ?_) (fun h => ?_) <;> (try (cases h; done)))
      | refine W_ret ?_
      | refine W_skip ?_
      | refine W_exit ?_
      | refine then_normal ?_
      | refine then_ret ?_
      | refine then_exit ?_
      | refine inBlock_normal ?_
      | refine inBlock_ret ?_
      | refine inBlock_exit ?_
      | refine inBlock_ne (by decide) ?_
      | refine Hold_E ?_
      | (refine And.intro ?_ ?_; omega)
      | ((first | (refine ite_goB (fun h => ?_) (fun h => ?_) <;> (try exact absurd ((h : _ = false).symm.trans (by assumption : _ = true)) (by decide)) <;> (try exact absurd ((by assumption : _ = false).symm.trans (h : _ = true)) (by decide))) | (refine ite_go (fun h => ?_) (fun h => ?_) <;> (try exact absurd h (by assumption)) <;> (try exact absurd (by assumption) h))) <;> (try refine Hold_P ?_) <;> (try simp -dsimp only [h, go_sem, Nat.reduceLT, Nat.reduceLeDiff, Nat.reduceEqDiff, Nat.reduceAdd, Nat.reduceMul, Int.reduceNeg, Nat.reduceBEq, reduceCtorEq, ↓reduceIte, length_krs, hd]))
      | refine Exists.intro _ (Exists.intro _ (And.intro (And.intro rfl rfl) ?_))

/-- It is the least one by rank and time. -/
theorem FirstOf.least {c : List Th} (hs : Srt c) {n : Nat} (h : FirstOf c c.length (n : Int)) : n < c.length ∧ c.getD n noTh ∈ c ∧ ∀ u, u ∈ c → ¬ lex (fun r => r) u (c.getD n noTh) := by
  rcases h with ⟨h1, h2⟩ | ⟨m, h1, h2, h3, h4⟩
  · omega
  · have : m = n := by omega
    subst this
    refine ⟨h2, by rw [getD_th h2]; exact List.getElem_mem h2, fun u hu hl => ?_⟩
    obtain ⟨j, hj, rfl⟩ := List.getElem_of_mem hu
    rw [← getD_th hj] at hl
    simp only [lex] at hl
    by_cases q : j < m
    · have := h3 j q; omega
    · have := h4 j (by omega) hj
      by_cases q2 : j = m
      · rw [q2] at hl; omega
      · have := (hs.lt (show m < j by omega) hj).1; omega

theorem same_spec (k1 k2 : SK) (a b : List ByteArray) (ha : a.length < 1000000) (σ : Store) :
    PCall Try.prog 24 [.sl k1 (strs a), .sl k2 (strs b)] σ (fun r t => r = .bool (decide (a = b)) ∧ t = σ) := by
  have getS : ∀ {l : List ByteArray} {i : Nat}, i < l.length → (strs l).getD i .any = .str (l.getD i ⟨#[]⟩) := fun h => getD_map AV.str ⟨#[]⟩ h
  refine PCall_q [.tmp 4] 26 Try.func24 (by rfl) rfl rfl rfl rfl ?_
  by_cases hl : a.length = b.length
  · have hl' : ((a.length : Int) = (b.length : Int)) = True := eq_true (by omega)
    repeat' first
      | refine W_seq ?_
      | refine W_block ?_
      | ((first | refine W_region (mu := []) ?_ | (refine W_region_any [] ⟨[], [], [], [], [], [], 0⟩ mixedOrders_ok (by kernel_rfl) ?_; intro nu hn1 hn2) | refine fn_ret ?_ | refine fn_normal ?_ | refine Hold_P ?_ | refine prun_go ?_ | refine drun_go ?_); simp -dsimp only [go_sem, Nat.reduceLT, Nat.reduceLeDiff, Nat.reduceEqDiff, Nat.reduceAdd, Nat.reduceMul, Int.reduceNeg, Nat.reduceBEq, reduceCtorEq, ↓reduceIte, length_strs, hl'])
      | (refine W_cond rfl (fun h => ?_) (fun h => ?_) <;> (try (cases h; done)))
      | refine W_ret ?_
      | refine W_skip ?_
      | refine W_exit ?_
      | refine then_normal ?_
      | refine then_ret ?_
      | refine then_exit ?_
      | refine inBlock_normal ?_
      | refine inBlock_ret ?_
      | refine inBlock_exit ?_
      | refine inBlock_ne (by decide) ?_
      | refine Hold_E ?_
      | (refine And.intro ?_ ?_; omega)
      | ((first | (refine ite_goB (fun h => ?_) (fun h => ?_) <;> (try exact absurd ((h : _ = false).symm.trans (by assumption : _ = true)) (by decide)) <;> (try exact absurd ((by assumption : _ = false).symm.trans (h : _ = true)) (by decide))) | (refine ite_go (fun h => ?_) (fun h => ?_) <;> (try exact absurd h (by assumption)) <;> (try exact absurd (by assumption) h))) <;> (try refine Hold_P ?_) <;> (try simp -dsimp only [h, go_sem, Nat.reduceLT, Nat.reduceLeDiff, Nat.reduceEqDiff, Nat.reduceAdd, Nat.reduceMul, Int.reduceNeg, Nat.reduceBEq, reduceCtorEq, ↓reduceIte, length_strs, hl']))
      | refine Exists.intro _ (Exists.intro _ (And.intro (And.intro rfl rfl) ?_))
    refine W_loop_st (fun i : Nat => [(0, .sl k1 (strs a)), (1, .sl k2 (strs b)), (5, .int .i64 i)]) (fun _ => σ) (fun i => i ≤ a.length ∧ ∀ j, j < i → a.getD j ⟨#[]⟩ = b.getD j ⟨#[]⟩) (fun i => a.length - i) 0 ⟨Nat.zero_le _, fun j hj => by omega⟩ (Env.Sub_of_has (by simp [Env.Has, Env.get])) (Store.Sub.refl _) ?_
    rintro i ⟨hi, hall⟩
    by_cases hlt : i < a.length
    · have hx := getS hlt
      have hy := getS (show i < b.length by omega)
      have hd : decide ((i : Int) < (a.length : Int)) = true := decT (by omega)
      have q1 : ((i : Int) < (a.length : Int)) = True := eq_true (by omega)
      have q2 : ((i : Int) < (b.length : Int)) = True := eq_true (by omega)
      by_cases he : a.getD i ⟨#[]⟩ = b.getD i ⟨#[]⟩
      · have he' := eq_true he
        repeat' first
          | refine W_seq ?_
          | refine W_block ?_
          | ((first | refine W_region (mu := []) ?_ | (refine W_region_any [] ⟨[], [], [], [], [], [], 0⟩ mixedOrders_ok (by kernel_rfl) ?_; intro nu hn1 hn2) | refine fn_ret ?_ | refine fn_normal ?_ | refine Hold_P ?_ | refine prun_go ?_ | refine drun_go ?_); simp -dsimp only [go_sem, Nat.reduceLT, Nat.reduceLeDiff, Nat.reduceEqDiff, Nat.reduceAdd, Nat.reduceMul, Int.reduceNeg, Nat.reduceBEq, reduceCtorEq, ↓reduceIte, length_strs, hx, hy, hd, q1, q2, he'])
          | (refine W_cond rfl (fun h => ?_) (fun h => ?_) <;> (try (cases h; done)))
          | refine W_ret ?_
          | refine W_skip ?_
          | refine W_exit ?_
          | refine then_normal ?_
          | refine then_ret ?_
          | refine then_exit ?_
          | refine inBlock_normal ?_
          | refine inBlock_ret ?_
          | refine inBlock_exit ?_
          | refine inBlock_ne (by decide) ?_
          | refine Hold_E ?_
          | (refine And.intro ?_ ?_; omega)
          | ((first | (refine ite_goB (fun h => ?_) (fun h => ?_) <;> (try exact absurd ((h : _ = false).symm.trans (by assumption : _ = true)) (by decide)) <;> (try exact absurd ((by assumption : _ = false).symm.trans (h : _ = true)) (by decide))) | (refine ite_go (fun h => ?_) (fun h => ?_) <;> (try exact absurd h (by assumption)) <;> (try exact absurd (by assumption) h))) <;> (try refine Hold_P ?_) <;> (try simp -dsimp only [h, go_sem, Nat.reduceLT, Nat.reduceLeDiff, Nat.reduceEqDiff, Nat.reduceAdd, Nat.reduceMul, Int.reduceNeg, Nat.reduceBEq, reduceCtorEq, ↓reduceIte, length_strs, hx, hy, hd, q1, q2, he']))
          | refine Exists.intro _ (Exists.intro _ (And.intro (And.intro rfl rfl) ?_))
        refine ⟨i + 1, by omega, ⟨by omega, fun j hj => ?_⟩, Env.Sub_of_has (by simp [Env.Has, Env.get, wrap_succ (show i < 4611686018427387904 by omega)]), Store.Sub.refl _⟩
        by_cases q : j = i
        · rw [q]; exact he
        · exact hall j (by omega)
      · have he' := eq_false he
        have hne : ¬ a = b := fun e => he (by rw [e])
        repeat' first
          | refine W_seq ?_
          | refine W_block ?_
          | ((first | refine W_region (mu := []) ?_ | (refine W_region_any [] ⟨[], [], [], [], [], [], 0⟩ mixedOrders_ok (by kernel_rfl) ?_; intro nu hn1 hn2) | refine fn_ret ?_ | refine fn_normal ?_ | refine Hold_P ?_ | refine prun_go ?_ | refine drun_go ?_); simp -dsimp only [go_sem, Nat.reduceLT, Nat.reduceLeDiff, Nat.reduceEqDiff, Nat.reduceAdd, Nat.reduceMul, Int.reduceNeg, Nat.reduceBEq, reduceCtorEq, ↓reduceIte, length_strs, hx, hy, hd, q1, q2, he'])
          | (refine W_cond rfl (fun h => ?_) (fun h => ?_) <;> (try (cases h; done)))
          | refine W_ret ?_
          | refine W_skip ?_
          | refine W_exit ?_
          | refine then_normal ?_
          | refine then_ret ?_
          | refine then_exit ?_
          | refine inBlock_normal ?_
          | refine inBlock_ret ?_
          | refine inBlock_exit ?_
          | refine inBlock_ne (by decide) ?_
          | refine Hold_E ?_
          | (refine And.intro ?_ ?_; omega)
          | ((first | (refine ite_goB (fun h => ?_) (fun h => ?_) <;> (try exact absurd ((h : _ = false).symm.trans (by assumption : _ = true)) (by decide)) <;> (try exact absurd ((by assumption : _ = false).symm.trans (h : _ = true)) (by decide))) | (refine ite_go (fun h => ?_) (fun h => ?_) <;> (try exact absurd h (by assumption)) <;> (try exact absurd (by assumption) h))) <;> (try refine Hold_P ?_) <;> (try simp -dsimp only [h, go_sem, Nat.reduceLT, Nat.reduceLeDiff, Nat.reduceEqDiff, Nat.reduceAdd, Nat.reduceMul, Int.reduceNeg, Nat.reduceBEq, reduceCtorEq, ↓reduceIte, length_strs, hx, hy, hd, q1, q2, he']))
          | refine Exists.intro _ (Exists.intro _ (And.intro (And.intro rfl rfl) ?_))
        rw [decF hne]
    · have hd : decide ((i : Int) < (a.length : Int)) = false := decF (by omega)
      have hi' : i = a.length := by omega
      subst hi'
      have hab : a = b := by
        apply List.ext_getElem hl
        intro j h1 h2
        have := hall j h1
        simpa [List.getD_eq_getElem?_getD, h1, h2] using this
      repeat' first
        | refine W_seq ?_
        | refine W_block ?_
        | ((first | refine W_region (mu := []) ?_ | (refine W_region_any [] ⟨[], [], [], [], [], [], 0⟩ mixedOrders_ok (by kernel_rfl) ?_; intro nu hn1 hn2) | refine fn_ret ?_ | refine fn_normal ?_ | refine Hold_P ?_ | refine prun_go ?_ | refine drun_go ?_); simp -dsimp only [go_sem, Nat.reduceLT, Nat.reduceLeDiff, Nat.reduceEqDiff, Nat.reduceAdd, Nat.reduceMul, Int.reduceNeg, Nat.reduceBEq, reduceCtorEq, ↓reduceIte, length_strs, hd])
        | (refine W_cond rfl (fun h => ?_) (fun h => ?_) <;> (try (cases h; done)))
        | refine W_ret ?_
        | refine W_skip ?_
        | refine W_exit ?_
        | refine then_normal ?_
        | refine then_ret ?_
        | refine then_exit ?_
        | refine inBlock_normal ?_
        | refine inBlock_ret ?_
        | refine inBlock_exit ?_
        | refine inBlock_ne (by decide) ?_
        | refine Hold_E ?_
        | (refine And.intro ?_ ?_; omega)
        | ((first | (refine ite_goB (fun h => ?_) (fun h => ?_) <;> (try exact absurd ((h : _ = false).symm.trans (by assumption : _ = true)) (by decide)) <;> (try exact absurd ((by assumption : _ = false).symm.trans (h : _ = true)) (by decide))) | (refine ite_go (fun h => ?_) (fun h => ?_) <;> (try exact absurd h (by assumption)) <;> (try exact absurd (by assumption) h))) <;> (try refine Hold_P ?_) <;> (try simp -dsimp only [h, go_sem, Nat.reduceLT, Nat.reduceLeDiff, Nat.reduceEqDiff, Nat.reduceAdd, Nat.reduceMul, Int.reduceNeg, Nat.reduceBEq, reduceCtorEq, ↓reduceIte, length_strs, hd]))
        | refine Exists.intro _ (Exists.intro _ (And.intro (And.intro rfl rfl) ?_))
      rw [decT hab]
  · have hl' : ((a.length : Int) = (b.length : Int)) = False := eq_false (by omega)
    have hne : ¬ a = b := fun e => hl (by rw [e])
    repeat' first
      | refine W_seq ?_
      | refine W_block ?_
      | ((first | refine W_region (mu := []) ?_ | (refine W_region_any [] ⟨[], [], [], [], [], [], 0⟩ mixedOrders_ok (by kernel_rfl) ?_; intro nu hn1 hn2) | refine fn_ret ?_ | refine fn_normal ?_ | refine Hold_P ?_ | refine prun_go ?_ | refine drun_go ?_); simp -dsimp only [go_sem, Nat.reduceLT, Nat.reduceLeDiff, Nat.reduceEqDiff, Nat.reduceAdd, Nat.reduceMul, Int.reduceNeg, Nat.reduceBEq, reduceCtorEq, ↓reduceIte, length_strs, hl'])
      | (refine W_cond rfl (fun h => ?_) (fun h => ?_) <;> (try (cases h; done)))
      | refine W_ret ?_
      | refine W_skip ?_
      | refine W_exit ?_
      | refine then_normal ?_
      | refine then_ret ?_
      | refine then_exit ?_
      | refine inBlock_normal ?_
      | refine inBlock_ret ?_
      | refine inBlock_exit ?_
      | refine inBlock_ne (by decide) ?_
      | refine Hold_E ?_
      | (refine And.intro ?_ ?_; omega)
      | ((first | (refine ite_goB (fun h => ?_) (fun h => ?_) <;> (try exact absurd ((h : _ = false).symm.trans (by assumption : _ = true)) (by decide)) <;> (try exact absurd ((by assumption : _ = false).symm.trans (h : _ = true)) (by decide))) | (refine ite_go (fun h => ?_) (fun h => ?_) <;> (try exact absurd h (by assumption)) <;> (try exact absurd (by assumption) h))) <;> (try refine Hold_P ?_) <;> (try simp -dsimp only [h, go_sem, Nat.reduceLT, Nat.reduceLeDiff, Nat.reduceEqDiff, Nat.reduceAdd, Nat.reduceMul, Int.reduceNeg, Nat.reduceBEq, reduceCtorEq, ↓reduceIte, length_strs, hl']))
      | refine Exists.intro _ (Exists.intro _ (And.intro (And.intro rfl rfl) ?_))
    rw [decF hne]

theorem PopSeq.len {ρ : Int → Int} {c : List Th} {l : List ByteArray} (h : PopSeq ρ c l) (hs : Srt c) : l.length = c.length := by
  induction h with
  | nil => rfl
  | cons ht hl h ih =>
    have := without_len hs ⟨_, ht, rfl⟩
    have := ih (without_srt hs _)
    simp only [List.length_cons]; omega
theorem least_one {ρ : Int → Int} {c : List Th} (hs : Srt c) {t u : Th} (ht : t ∈ c) (hu : u ∈ c) (h1 : ∀ x, x ∈ c → ¬ lex ρ x t) (h2 : ∀ x, x ∈ c → ¬ lex ρ x u) : t = u := by
  have a1 := h1 u hu
  have a2 := h2 t ht
  simp only [lex] at a1 a2
  obtain ⟨i, hi, rfl⟩ := List.getElem_of_mem ht
  obtain ⟨j, hj, rfl⟩ := List.getElem_of_mem hu
  rcases Nat.lt_trichotomy i j with q | q | q
  · have := (hs.lt q hj).1
    rw [getD_th hi, getD_th hj] at this
    omega
  · subst q; rfl
  · have := (hs.lt q hi).1
    rw [getD_th hi, getD_th hj] at this
    omega
theorem PopSeq.one {ρ : Int → Int} {c : List Th} {l : List ByteArray} (h : PopSeq ρ c l) : ∀ {m : List ByteArray}, Srt c → PopSeq ρ c m → l = m := by
  induction h with
  | nil =>
    intro m _ h2
    cases h2 with
    | nil => rfl
    | cons ht _ _ => cases ht
  | cons ht hl h ih =>
    intro m hs h2
    cases h2 with
    | nil => cases ht
    | cons ht2 hl2 h2 =>
      have e := least_one hs ht ht2 hl hl2
      subst e
      rw [ih (without_srt hs _) h2]
end Go.Proofs.Ytoekaigdacaghaa
