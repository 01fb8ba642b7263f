/- Contracts of the document's Order and Best. Conditions: none. -/
import Derived.Test.YtlbhhoojbokblaaBk
import Derived.Test.YtlbhhoojbokblaaBi
import Derived.Test.YtlbhhoojbokblaaAm
set_option linter.unusedVariables false
set_option linter.unusedSimpArgs false
namespace Go.Proofs.Ytlbhhoojbokblaa
open Go.Kern
set_option maxRecDepth 100000
set_option maxHeartbeats 4000000
attribute [local go_sem] drun_nil drun_cons prun_nil prun_cons wrOk tqOk lateOp lateB dstOk ev ofConst leafOf Env.putO Env.get envOf readRs_nil oneRes nilSide SK.isNil isMu fillA partsFit boundA SK.cut SK.cutFull SK.fresh rowOk rowsOk_nil rowsOk_cons rowsOk_append rowsOk_ints splice oneOf keyKind cellsKind cellKind cellsB cellB zeroFits TK.agg AV.cells AV.known AV.one List.set_cons_zero List.set_cons_succ put_same put_put forall_const implies_true exists_eq_left exists_eq_left' exists_eq_right exists_eq Store.Sub.refl and_self Int.toNat_natCast length_ints List.length_map true_and and_true decide_true decide_false if_true if_false Bool.false_eq_true Bool.true_eq_false List.getElem?_cons_zero List.getElem?_cons_succ List.length_cons List.length_nil List.drop_zero List.drop_succ_cons List.take_succ_cons List.take_zero List.drop_nil List.take_nil List.append_nil List.map_cons List.map_nil List.cons_append List.nil_append beq_self_eq_true Bool.false_beq Bool.true_beq Bool.not_true Bool.not_false Option.map_some Option.map_none Option.bind_some ne_eq not_false_eq_true List.contains_cons List.contains_nil Bool.or_false Bool.or_true Bool.and_true Bool.and_false Bool.true_and Bool.false_and List.all_cons List.all_nil Nat.one_ne_zero Nat.zero_ne_one Option.isSome_some Option.isSome_none List.getElem?_toArray beq_true beq_false decide_eq_true_eq Int.toNat_zero forall_ints take_ints drop_ints Int.le_refl Int.natCast_nonneg Nat.zero_add Nat.add_zero or_true true_or false_or or_false
attribute [local go_sem ↓] allocN guardP OpSem callA readRs_cons readR binA intOpA strOpA nilOpA unA convA boxA allocA behind loadA buildA buildSliceA fieldAddrA fieldA indexAddrA indexA lenA sliceA extractA nilCheckA storeA lookupA mapSetA mapDelA makeSliceA appendA appendN apN
attribute [local irreducible] PCall W

def bools (l : List Bool) : List AV := l.map fun b => .bool b
theorem length_bools (l : List Bool) : (bools l).length = l.length := by simp [bools]
theorem get_bools {l : List Bool} {i : Nat} (h : i < l.length) : (bools l)[i]? = some (.bool (l.getD i false)) := by simp [bools, List.getD_eq_getElem?_getD, h]
theorem set_bools (l : List Bool) (i : Nat) (b : Bool) : (bools l).set i (.bool b) = bools (l.set i b) := by unfold bools; rw [List.map_set]
theorem repl_bools (n : Nat) : List.replicate n (AV.bool false) = bools (List.replicate n false) := by simp [bools]

/-- What is still to be had. -/
def avail (l : List Cand) (u : List Bool) (j : Nat) : Prop := u.getD j false = false ∧ candFit (l.getD j noCand) = true
/-- The best so far. -/
def BSt (l : List Cand) (u : List Bool) (i : Nat) (b : Int) : Prop :=
  (b = -1 ∧ ∀ j, j < i → ¬ avail l u j) ∨ (∃ n : Nat, b = n ∧ n < i ∧ avail l u n ∧ ∀ j, j < i → avail l u j → j ≠ n → tlC l n j)
theorem BSt.skip {l : List Cand} {u : List Bool} {i : Nat} {b : Int} (h : BSt l u i b) (hn : ¬ avail l u i) : BSt l u (i + 1) b := by
  rcases h with ⟨h1, h2⟩ | ⟨n, h1, h2, h3, h4⟩
  · refine .inl ⟨h1, fun j hj => ?_⟩
    by_cases e : j = i
    · subst e; exact hn
    · exact h2 j (by omega)
  · refine .inr ⟨n, h1, by omega, h3, fun j hj ha => ?_⟩
    by_cases e : j = i
    · subst e; exact (hn ha).elim
    · exact h4 j (by omega) ha
theorem BSt.first {l : List Cand} {u : List Bool} {i : Nat} {b : Int} (h : BSt l u i b) (hb : b < 0) (ha : avail l u i) : BSt l u (i + 1) i := by
  rcases h with ⟨h1, h2⟩ | ⟨n, h1, h2, h3, h4⟩
  · refine .inr ⟨i, rfl, by omega, ha, fun j hj hj2 hne => (h2 j (by omega) hj2).elim⟩
  · omega
theorem BSt.new {l : List Cand} {u : List Bool} {i n : Nat} (h : BSt l u i n) (ha : avail l u i) (hc : cC l i n < 0) : BSt l u (i + 1) i := by
  rcases h with ⟨h1, h2⟩ | ⟨m, h1, h2, h3, h4⟩
  · omega
  · obtain rfl : n = m := by omega
    refine .inr ⟨i, rfl, by omega, ha, fun j hj hj2 hne => ?_⟩
    by_cases e : j = n
    · subst e; exact .inl hc
    · exact tlC_trans l (.inl hc) (h4 j (by omega) hj2 e)
theorem BSt.keep {l : List Cand} {u : List Bool} {i n : Nat} (h : BSt l u i n) (hc : ¬ cC l i n < 0) : BSt l u (i + 1) n := by
  rcases h with ⟨h1, h2⟩ | ⟨m, h1, h2, h3, h4⟩
  · omega
  · obtain rfl : n = m := by omega
    refine .inr ⟨n, rfl, by omega, h3, fun j hj hj2 hne => ?_⟩
    by_cases e : j = i
    · subst e
      have := cC_anti l j n
      by_cases e2 : cC l n j = 0
      · exact .inr ⟨e2, by omega⟩
      · exact .inl (by omega)
    · exact h4 j (by omega) hj2 hne

/-- What has been taken so far. -/
structure OInv (l : List Cand) (u : List Bool) (out : List Int) : Prop where
  len : u.length = l.length
  mem : ∀ j, j < l.length → (u.getD j false = true ↔ (j : Int) ∈ out)
  fit : ∀ x, x ∈ out → ∃ j : Nat, x = j ∧ j < l.length ∧ candFit (l.getD j noCand) = true
  srt : out.Pairwise (tlC l)
  rest : ∀ j, j < l.length → avail l u j → ∀ x, x ∈ out → tlC l x j
theorem OInv.done {l : List Cand} {u : List Bool} {out : List Int} (h : OInv l u out) (hb : ∀ j, j < l.length → ¬ avail l u j) : IsOrder l out := by
  refine ⟨?_, h.srt⟩
  have nd : out.Nodup := h.srt.imp fun {a b} hab e => by subst e; exact tlC_asymm l hab hab
  refine (List.perm_ext_iff_of_nodup nd (fitsTo_nodup l _)).2 fun x => ?_
  rw [mem_fitsTo]
  constructor
  · exact h.fit x
  · rintro ⟨j, rfl, h1, h2⟩
    refine (h.mem j h1).1 ?_
    cases hu : u.getD j false with
    | true => rfl
    | false => exact (hb j h1 ⟨hu, h2⟩).elim
theorem getD_set {u : List Bool} {i : Nat} (hi : i < u.length) (x : Bool) (j : Nat) : (u.set i x).getD j false = if i = j then x else u.getD j false := by
  simp only [List.getD_eq_getElem?_getD, List.getElem?_set]
  split
  · simp [hi]
  · rfl
theorem OInv.take {l : List Cand} {u : List Bool} {out : List Int} {n : Nat} (h : OInv l u out) (hn : n < l.length) (ha : avail l u n) (hb : ∀ j, j < l.length → avail l u j → j ≠ n → tlC l n j) : OInv l (u.set n true) (out ++ [(n : Int)]) := by
  have hu : n < u.length := by rw [h.len]; exact hn
  refine ⟨by simp [h.len], fun j hj => ?_, fun x hx => ?_, ?_, fun j hj ⟨hj1, hj2⟩ x hx => ?_⟩
  · rw [getD_set hu, List.mem_append, List.mem_singleton]
    by_cases e : n = j
    · subst e; simp
    · rw [if_neg e, h.mem j hj]
      constructor
      · exact .inl
      · rintro (h | h)
        · exact h
        · omega
  · rcases List.mem_append.1 hx with hx | hx
    · exact h.fit x hx
    · rw [List.mem_singleton] at hx; exact ⟨n, hx, hn, ha.2⟩
  · rw [List.pairwise_append]
    refine ⟨h.srt, List.pairwise_singleton _ _, fun a ha2 b hb2 => ?_⟩
    rw [List.mem_singleton] at hb2
    subst hb2
    exact h.rest n hn ha a ha2
  · rw [getD_set hu] at hj1
    by_cases e : n = j
    · rw [if_pos e] at hj1; cases hj1
    · rw [if_neg e] at hj1
      rcases List.mem_append.1 hx with hx | hx
      · exact h.rest j hj ⟨hj1, hj2⟩ x hx
      · rw [List.mem_singleton] at hx; subst hx
        exact hb j hj ⟨hj1, hj2⟩ (fun e2 => e e2.symm)
theorem OInv.short {l : List Cand} {u : List Bool} {out : List Int} (h : OInv l u out) : out.length ≤ l.length := by
  have nd : out.Nodup := h.srt.imp fun {a b} hab e => by subst e; exact tlC_asymm l hab hab
  have h2 : (out.map Int.toNat).Nodup := by
    rw [List.Nodup, List.pairwise_map]
    refine List.Pairwise.imp_of_mem ?_ nd
    intro a b ha hb hne
    obtain ⟨i, rfl, _⟩ := h.fit a ha
    obtain ⟨j, rfl, _⟩ := h.fit b hb
    intro e
    simp only [Int.toNat_natCast] at e
    exact hne (by rw [e])
  have h3 : out.map Int.toNat ⊆ List.range l.length := by
    intro x hx
    obtain ⟨a, ha, rfl⟩ := List.mem_map.1 hx
    obtain ⟨j, rfl, hj, _⟩ := h.fit a ha
    simpa using hj
  have := h2.length_le_of_subset h3
  simpa using this

theorem refOrderNil_spec (k : SK) (σ : Store) : PCall Try.prog 19 [.sl k (cands [])] σ (fun r s => r = .sl .nil [] ∧ s = σ) := by
  have z0 : (((0 : Nat) : Int) = 0) = True := by simp
  refine PCall_w [.tmp 2] 58 Try.func19 (by rfl) rfl rfl rfl rfl ?_
  repeat' first
    | refine W_seq ?_
    | refine W_block ?_
    | ((first | refine W_region (mu := []) ?_ | (refine W_region_any [] ⟨[], [], [], [], [], [], 0⟩ mixedOrders_ok (by kernel_rfl) ?_; intro nu hn1 hn2) | refine fn_ret ?_ | refine fn_normal ?_ | refine Hold_P ?_ | refine prun_go ?_ | refine drun_go ?_); simp -dsimp only [go_sem, Nat.reduceLT, Nat.reduceLeDiff, Nat.reduceEqDiff, Nat.reduceAdd, Nat.reduceMul, Int.reduceNeg, Nat.reduceBEq, reduceCtorEq, ↓reduceIte, length_cands, z0])
    | (refine W_cond rfl (fun h => ?_) (fun h => ?_) <;> (try (cases h; done)))
    | refine W_ret ?_
    | refine W_skip ?_
    | refine W_exit ?_
    | refine then_normal ?_
    | refine then_ret ?_
    | refine then_exit ?_
    | refine inBlock_normal ?_
    | refine inBlock_ret ?_
    | refine inBlock_exit ?_
    | refine inBlock_ne (by decide) ?_
    | refine Hold_E ?_
    | (refine And.intro ?_ ?_; omega)
    | ((first | (refine ite_goB (fun h => ?_) (fun h => ?_) <;> (try exact absurd ((h : _ = false).symm.trans (by assumption : _ = true)) (by decide)) <;> (try exact absurd ((by assumption : _ = false).symm.trans (h : _ = true)) (by decide))) | (refine ite_go (fun h => ?_) (fun h => ?_) <;> (try exact absurd h (by assumption)) <;> (try exact absurd (by assumption) h))) <;> (try refine Hold_P ?_) <;> (try simp -dsimp only [h, go_sem, Nat.reduceLT, Nat.reduceLeDiff, Nat.reduceEqDiff, Nat.reduceAdd, Nat.reduceMul, Int.reduceNeg, Nat.reduceBEq, reduceCtorEq, ↓reduceIte, length_cands, z0]))
    | refine Exists.intro _ (Exists.intro _ (And.intro (And.intro rfl rfl) ?_))
  intro o1 ho1
  repeat' first
    | refine W_seq ?_
    | refine W_block ?_
    | ((first | refine W_region (mu := []) ?_ | (refine W_region_any [] ⟨[], [], [], [], [], [], 0⟩ mixedOrders_ok (by kernel_rfl) ?_; intro nu hn1 hn2) | refine fn_ret ?_ | refine fn_normal ?_ | refine Hold_P ?_ | refine prun_go ?_ | refine drun_go ?_); simp -dsimp only [go_sem, Nat.reduceLT, Nat.reduceLeDiff, Nat.reduceEqDiff, Nat.reduceAdd, Nat.reduceMul, Int.reduceNeg, Nat.reduceBEq, reduceCtorEq, ↓reduceIte])
    | (refine W_cond rfl (fun h => ?_) (fun h => ?_) <;> (try (cases h; done)))
    | refine W_ret ?_
    | refine W_skip ?_
    | refine W_exit ?_
    | refine then_normal ?_
    | refine then_ret ?_
    | refine then_exit ?_
    | refine inBlock_normal ?_
    | refine inBlock_ret ?_
    | refine inBlock_exit ?_
    | refine inBlock_ne (by decide) ?_
    | refine Hold_E ?_
    | (refine And.intro ?_ ?_; omega)
    | ((first | (refine ite_goB (fun h => ?_) (fun h => ?_) <;> (try exact absurd ((h : _ = false).symm.trans (by assumption : _ = true)) (by decide)) <;> (try exact absurd ((by assumption : _ = false).symm.trans (h : _ = true)) (by decide))) | (refine ite_go (fun h => ?_) (fun h => ?_) <;> (try exact absurd h (by assumption)) <;> (try exact absurd (by assumption) h))) <;> (try refine Hold_P ?_) <;> (try simp -dsimp only [h, go_sem, Nat.reduceLT, Nat.reduceLeDiff, Nat.reduceEqDiff, Nat.reduceAdd, Nat.reduceMul, Int.reduceNeg, Nat.reduceBEq, reduceCtorEq, ↓reduceIte]))
    | refine Exists.intro _ (Exists.intro _ (And.intro (And.intro rfl rfl) ?_))
  refine W_loop_st (fun _ : Unit => [(0, .sl k (cands [])), (3, .sl .nil [])]) (fun _ => σ) (fun _ => True) (fun _ => 0) () trivial (Env.Sub_of_has (by simp [Env.Has, Env.get])) (Sub_put (Store.Sub.refl _) ho1 _) ?_
  rintro ⟨⟩ _
  repeat' first
    | refine W_seq ?_
    | refine W_block ?_
    | ((first | refine W_region (mu := []) ?_ | (refine W_region_any [] ⟨[], [], [], [], [], [], 0⟩ mixedOrders_ok (by kernel_rfl) ?_; intro nu hn1 hn2) | refine fn_ret ?_ | refine fn_normal ?_ | refine Hold_P ?_ | refine prun_go ?_ | refine drun_go ?_); simp -dsimp only [go_sem, Nat.reduceLT, Nat.reduceLeDiff, Nat.reduceEqDiff, Nat.reduceAdd, Nat.reduceMul, Int.reduceNeg, Nat.reduceBEq, reduceCtorEq, ↓reduceIte])
    | (refine W_cond rfl (fun h => ?_) (fun h => ?_) <;> (try (cases h; done)))
    | refine W_ret ?_
    | refine W_skip ?_
    | refine W_exit ?_
    | refine then_normal ?_
    | refine then_ret ?_
    | refine then_exit ?_
    | refine inBlock_normal ?_
    | refine inBlock_ret ?_
    | refine inBlock_exit ?_
    | refine inBlock_ne (by decide) ?_
    | refine Hold_E ?_
    | (refine And.intro ?_ ?_; omega)
    | ((first | (refine ite_goB (fun h => ?_) (fun h => ?_) <;> (try exact absurd ((h : _ = false).symm.trans (by assumption : _ = true)) (by decide)) <;> (try exact absurd ((by assumption : _ = false).symm.trans (h : _ = true)) (by decide))) | (refine ite_go (fun h => ?_) (fun h => ?_) <;> (try exact absurd h (by assumption)) <;> (try exact absurd (by assumption) h))) <;> (try refine Hold_P ?_) <;> (try simp -dsimp only [h, go_sem, Nat.reduceLT, Nat.reduceLeDiff, Nat.reduceEqDiff, Nat.reduceAdd, Nat.reduceMul, Int.reduceNeg, Nat.reduceBEq, reduceCtorEq, ↓reduceIte]))
    | refine Exists.intro _ (Exists.intro _ (And.intro (And.intro rfl rfl) ?_))
  refine W_loop_st (fun _ : Unit => [(0, .sl k (cands [])), (3, .sl .nil []), (5, .int .i64 (-1)), (6, .int .i64 0)]) (fun _ => σ) (fun _ => True) (fun _ => 0) () trivial (Env.Sub_of_has (by simp [Env.Has, Env.get])) (Store.Sub.refl _) ?_
  rintro ⟨⟩ _
  repeat' first
    | refine W_seq ?_
    | refine W_block ?_
    | ((first | refine W_region (mu := []) ?_ | (refine W_region_any [] ⟨[], [], [], [], [], [], 0⟩ mixedOrders_ok (by kernel_rfl) ?_; intro nu hn1 hn2) | refine fn_ret ?_ | refine fn_normal ?_ | refine Hold_P ?_ | refine prun_go ?_ | refine drun_go ?_); simp -dsimp only [go_sem, Nat.reduceLT, Nat.reduceLeDiff, Nat.reduceEqDiff, Nat.reduceAdd, Nat.reduceMul, Int.reduceNeg, Nat.reduceBEq, reduceCtorEq, ↓reduceIte, length_cands])
    | (refine W_cond rfl (fun h => ?_) (fun h => ?_) <;> (try (cases h; done)))
    | refine W_ret ?_
    | refine W_skip ?_
    | refine W_exit ?_
    | refine then_normal ?_
    | refine then_ret ?_
    | refine then_exit ?_
    | refine inBlock_normal ?_
    | refine inBlock_ret ?_
    | refine inBlock_exit ?_
    | refine inBlock_ne (by decide) ?_
    | refine Hold_E ?_
    | (refine And.intro ?_ ?_; omega)
    | ((first | (refine ite_goB (fun h => ?_) (fun h => ?_) <;> (try exact absurd ((h : _ = false).symm.trans (by assumption : _ = true)) (by decide)) <;> (try exact absurd ((by assumption : _ = false).symm.trans (h : _ = true)) (by decide))) | (refine ite_go (fun h => ?_) (fun h => ?_) <;> (try exact absurd h (by assumption)) <;> (try exact absurd (by assumption) h))) <;> (try refine Hold_P ?_) <;> (try simp -dsimp only [h, go_sem, Nat.reduceLT, Nat.reduceLeDiff, Nat.reduceEqDiff, Nat.reduceAdd, Nat.reduceMul, Int.reduceNeg, Nat.reduceBEq, reduceCtorEq, ↓reduceIte, length_cands]))
    | refine Exists.intro _ (Exists.intro _ (And.intro (And.intro rfl rfl) ?_))

theorem refOrderCons_spec (k : SK) (l : List Cand) (h0 : 0 < l.length) (hl : l.length ≤ 40) (hf : ∀ c, c ∈ l → c.A.Fits) (σ : Store) :
    PCall Try.prog 19 [.sl k (cands l)] σ (fun r s => (∃ kd, (kd.isNil = true → orderZ l = []) ∧ (kd.isNil = false → orderZ l ≠ []) ∧ (kd.isNil = true → kd = .nil) ∧ r = .sl kd (ints (orderZ l))) ∧ s = σ) := by
  have z0 : ((l.length : Int) = 0) = False := eq_false (by omega)
  have i0 : OInv l (List.replicate l.length false) [] := ⟨by simp, fun j hj => by simp [List.getD_eq_getElem?_getD, hj], fun x hx => by simp at hx, List.Pairwise.nil, fun j _ _ x hx => by simp at hx⟩
  have hby : ((l.length : Int) ≤ 140737488355328) = True := eq_true (by omega)
  have hby2 : (1 * (l.length : Int) ≤ 140737488355328) = True := eq_true (by omega)
  refine PCall_w [.tmp 2] 58 Try.func19 (by rfl) rfl rfl rfl rfl ?_
  repeat' first
    | refine W_seq ?_
    | refine W_block ?_
    | ((first | refine W_region (mu := []) ?_ | (refine W_region_any [] ⟨[], [], [], [], [], [], 0⟩ mixedOrders_ok (by kernel_rfl) ?_; intro nu hn1 hn2) | refine fn_ret ?_ | refine fn_normal ?_ | refine Hold_P ?_ | refine prun_go ?_ | refine drun_go ?_); simp -dsimp only [go_sem, Nat.reduceLT, Nat.reduceLeDiff, Nat.reduceEqDiff, Nat.reduceAdd, Nat.reduceMul, Int.reduceNeg, Nat.reduceBEq, reduceCtorEq, ↓reduceIte, length_cands, z0, repl_bools, hby, hby2])
    | (refine W_cond rfl (fun h => ?_) (fun h => ?_) <;> (try (cases h; done)))
    | refine W_ret ?_
    | refine W_skip ?_
    | refine W_exit ?_
    | refine then_normal ?_
    | refine then_ret ?_
    | refine then_exit ?_
    | refine inBlock_normal ?_
    | refine inBlock_ret ?_
    | refine inBlock_exit ?_
    | refine inBlock_ne (by decide) ?_
    | refine Hold_E ?_
    | (refine And.intro ?_ ?_; omega)
    | ((first | (refine ite_goB (fun h => ?_) (fun h => ?_) <;> (try exact absurd ((h : _ = false).symm.trans (by assumption : _ = true)) (by decide)) <;> (try exact absurd ((by assumption : _ = false).symm.trans (h : _ = true)) (by decide))) | (refine ite_go (fun h => ?_) (fun h => ?_) <;> (try exact absurd h (by assumption)) <;> (try exact absurd (by assumption) h))) <;> (try refine Hold_P ?_) <;> (try simp -dsimp only [h, go_sem, Nat.reduceLT, Nat.reduceLeDiff, Nat.reduceEqDiff, Nat.reduceAdd, Nat.reduceMul, Int.reduceNeg, Nat.reduceBEq, reduceCtorEq, ↓reduceIte, length_cands, z0, repl_bools, hby, hby2]))
    | refine Exists.intro _ (Exists.intro _ (And.intro (And.intro rfl rfl) ?_))
  intro o1 ho1
  repeat' first
    | refine W_seq ?_
    | refine W_block ?_
    | ((first | refine W_region (mu := []) ?_ | (refine W_region_any [] ⟨[], [], [], [], [], [], 0⟩ mixedOrders_ok (by kernel_rfl) ?_; intro nu hn1 hn2) | refine fn_ret ?_ | refine fn_normal ?_ | refine Hold_P ?_ | refine prun_go ?_ | refine drun_go ?_); simp -dsimp only [go_sem, Nat.reduceLT, Nat.reduceLeDiff, Nat.reduceEqDiff, Nat.reduceAdd, Nat.reduceMul, Int.reduceNeg, Nat.reduceBEq, reduceCtorEq, ↓reduceIte])
    | (refine W_cond rfl (fun h => ?_) (fun h => ?_) <;> (try (cases h; done)))
    | refine W_ret ?_
    | refine W_skip ?_
    | refine W_exit ?_
    | refine then_normal ?_
    | refine then_ret ?_
    | refine then_exit ?_
    | refine inBlock_normal ?_
    | refine inBlock_ret ?_
    | refine inBlock_exit ?_
    | refine inBlock_ne (by decide) ?_
    | refine Hold_E ?_
    | (refine And.intro ?_ ?_; omega)
    | ((first | (refine ite_goB (fun h => ?_) (fun h => ?_) <;> (try exact absurd ((h : _ = false).symm.trans (by assumption : _ = true)) (by decide)) <;> (try exact absurd ((by assumption : _ = false).symm.trans (h : _ = true)) (by decide))) | (refine ite_go (fun h => ?_) (fun h => ?_) <;> (try exact absurd h (by assumption)) <;> (try exact absurd (by assumption) h))) <;> (try refine Hold_P ?_) <;> (try simp -dsimp only [h, go_sem, Nat.reduceLT, Nat.reduceLeDiff, Nat.reduceEqDiff, Nat.reduceAdd, Nat.reduceMul, Int.reduceNeg, Nat.reduceBEq, reduceCtorEq, ↓reduceIte]))
    | refine Exists.intro _ (Exists.intro _ (And.intro (And.intro rfl rfl) ?_))
  refine W_loop_st (fun x : List Bool × List Int × Nat => [(0, .sl k (cands l)), (3, if x.2.1 = [] then .sl .nil [] else .sl (.tip x.2.2) (ints x.2.1)), (4, .ms o1 1 0 l.length)])
    (fun x => if x.2.1 = [] then σ.put o1 (.arr (bools x.1)) else (σ.put o1 (.arr (bools x.1))).put x.2.2 (.tip x.2.1.length 3 1)) (fun x => OInv l x.1 x.2.1 ∧ (x.2.1 ≠ [] → σ x.2.2 = none ∧ x.2.2 ≠ o1)) (fun x => l.length - x.2.1.length) (List.replicate l.length false, [], 0) ⟨i0, fun h => (h rfl).elim⟩ (Env.Sub_of_has (by simp [Env.Has, Env.get])) (by simp only [if_true]; exact Store.Sub.refl _) ?_
  rintro ⟨u, out, o2⟩ ⟨hi, ho2⟩
  simp only at hi ho2
  have hul := hi.len
  have hosh := hi.short
  generalize hX : (if out = [] then AV.sl .nil [] else .sl (.tip o2) (ints out)) = X
  generalize hS : (if out = [] then σ.put o1 (.arr (bools u)) else (σ.put o1 (.arr (bools u))).put o2 (.tip out.length 3 1)) = S
  have hS1 : S o1 = some (.arr (bools u)) := by
    rw [← hS]
    by_cases h : out = []
    · rw [if_pos h]; exact put_same _ _ _
    · rw [if_neg h, put_ne (fun e => (ho2 h).2 e.symm)]; exact put_same _ _ _
  repeat' first
    | refine W_seq ?_
    | refine W_block ?_
    | ((first | refine W_region (mu := []) ?_ | (refine W_region_any [] ⟨[], [], [], [], [], [], 0⟩ mixedOrders_ok (by kernel_rfl) ?_; intro nu hn1 hn2) | refine fn_ret ?_ | refine fn_normal ?_ | refine Hold_P ?_ | refine prun_go ?_ | refine drun_go ?_); simp -dsimp only [go_sem, Nat.reduceLT, Nat.reduceLeDiff, Nat.reduceEqDiff, Nat.reduceAdd, Nat.reduceMul, Int.reduceNeg, Nat.reduceBEq, reduceCtorEq, ↓reduceIte])
    | (refine W_cond rfl (fun h => ?_) (fun h => ?_) <;> (try (cases h; done)))
    | refine W_ret ?_
    | refine W_skip ?_
    | refine W_exit ?_
    | refine then_normal ?_
    | refine then_ret ?_
    | refine then_exit ?_
    | refine inBlock_normal ?_
    | refine inBlock_ret ?_
    | refine inBlock_exit ?_
    | refine inBlock_ne (by decide) ?_
    | refine Hold_E ?_
    | (refine And.intro ?_ ?_; omega)
    | ((first | (refine ite_goB (fun h => ?_) (fun h => ?_) <;> (try exact absurd ((h : _ = false).symm.trans (by assumption : _ = true)) (by decide)) <;> (try exact absurd ((by assumption : _ = false).symm.trans (h : _ = true)) (by decide))) | (refine ite_go (fun h => ?_) (fun h => ?_) <;> (try exact absurd h (by assumption)) <;> (try exact absurd (by assumption) h))) <;> (try refine Hold_P ?_) <;> (try simp -dsimp only [h, go_sem, Nat.reduceLT, Nat.reduceLeDiff, Nat.reduceEqDiff, Nat.reduceAdd, Nat.reduceMul, Int.reduceNeg, Nat.reduceBEq, reduceCtorEq, ↓reduceIte]))
    | refine Exists.intro _ (Exists.intro _ (And.intro (And.intro rfl rfl) ?_))
  refine W_loop_st (fun x : Nat × Int => [(0, .sl k (cands l)), (3, X), (4, .ms o1 1 0 l.length), (5, .int .i64 x.2), (6, .int .i64 x.1)]) (fun _ => S) (fun x => x.1 ≤ l.length ∧ BSt l u x.1 x.2) (fun x => l.length - x.1) (0, -1) ⟨Nat.zero_le _, .inl ⟨rfl, fun j h => by omega⟩⟩ (Env.Sub_of_has (by simp [Env.Has, Env.get])) (Store.Sub.refl _) ?_
  rintro ⟨i, b⟩ ⟨hil, hb⟩
  simp only at hil hb
  by_cases hlt : i < l.length
  · have hx := getD_cands hlt
    have hd : decide ((i : Int) < (l.length : Int)) = true := decT (by omega)
    have hlt' : ((i : Int) < (l.length : Int)) = True := by simp; omega
    have hfi : (l.getD i noCand).A.Fits := hf _ (getD_mem hlt)
    have gu := get_bools (l := u) (i := i) (by omega)
    cases hui : u.getD i false with
    | true =>
      rw [hui] at gu
      repeat' first
        | refine W_seq ?_
        | refine W_block ?_
        | ((first | refine W_region (mu := []) ?_ | (refine W_region_any [] ⟨[], [], [], [], [], [], 0⟩ mixedOrders_ok (by kernel_rfl) ?_; intro nu hn1 hn2) | refine fn_ret ?_ | refine fn_normal ?_ | refine Hold_P ?_ | refine prun_go ?_ | refine drun_go ?_); simp -dsimp only [go_sem, Nat.reduceLT, Nat.reduceLeDiff, Nat.reduceEqDiff, Nat.reduceAdd, Nat.reduceMul, Int.reduceNeg, Nat.reduceBEq, reduceCtorEq, ↓reduceIte, length_cands, hx, hd, hlt', hS1, gu])
        | (refine W_cond rfl (fun h => ?_) (fun h => ?_) <;> (try (cases h; done)))
        | refine W_ret ?_
        | refine W_skip ?_
        | refine W_exit ?_
        | refine then_normal ?_
        | refine then_ret ?_
        | refine then_exit ?_
        | refine inBlock_normal ?_
        | refine inBlock_ret ?_
        | refine inBlock_exit ?_
        | refine inBlock_ne (by decide) ?_
        | refine Hold_E ?_
        | (refine And.intro ?_ ?_; omega)
        | ((first | (refine ite_goB (fun h => ?_) (fun h => ?_) <;> (try exact absurd ((h : _ = false).symm.trans (by assumption : _ = true)) (by decide)) <;> (try exact absurd ((by assumption : _ = false).symm.trans (h : _ = true)) (by decide))) | (refine ite_go (fun h => ?_) (fun h => ?_) <;> (try exact absurd h (by assumption)) <;> (try exact absurd (by assumption) h))) <;> (try refine Hold_P ?_) <;> (try simp -dsimp only [h, go_sem, Nat.reduceLT, Nat.reduceLeDiff, Nat.reduceEqDiff, Nat.reduceAdd, Nat.reduceMul, Int.reduceNeg, Nat.reduceBEq, reduceCtorEq, ↓reduceIte, length_cands, hx, hd, hlt', hS1, gu]))
        | refine Exists.intro _ (Exists.intro _ (And.intro (And.intro rfl rfl) ?_))
      exact ⟨(i + 1, b), by simp only; omega, ⟨by simp only; omega, hb.skip (fun h => by rw [h.1] at hui; cases hui)⟩, Env.Sub_of_has (by simp [Env.Has, Env.get, wrap_succ (show i < 4611686018427387904 by omega)]), Store.Sub.refl _⟩
    | false =>
      rw [hui] at gu
      rcases Bool.eq_false_or_eq_true (candFit (l.getD i noCand)) with hc | hc
      · have hav : avail l u i := ⟨hui, hc⟩
        by_cases hb0 : b < 0
        · have hb' : decide (b < 0) = true := decT hb0
          repeat' first
            | refine W_seq ?_
            | refine W_block ?_
            | ((first | refine W_region (mu := []) ?_ | (refine W_region_any [] ⟨[], [], [], [], [], [], 0⟩ mixedOrders_ok (by kernel_rfl) ?_; intro nu hn1 hn2) | refine fn_ret ?_ | refine fn_normal ?_ | refine Hold_P ?_ | refine prun_go ?_ | refine drun_go ?_); simp -dsimp only [go_sem, Nat.reduceLT, Nat.reduceLeDiff, Nat.reduceEqDiff, Nat.reduceAdd, Nat.reduceMul, Int.reduceNeg, Nat.reduceBEq, reduceCtorEq, ↓reduceIte, length_cands, hx, hd, hlt', hS1, gu, hc, hb', Cand.cells])
            | (refine W_cond rfl (fun h => ?_) (fun h => ?_) <;> (try (cases h; done)))
            | refine W_ret ?_
            | refine W_skip ?_
            | refine W_exit ?_
            | refine then_normal ?_
            | refine then_ret ?_
            | refine then_exit ?_
            | refine inBlock_normal ?_
            | refine inBlock_ret ?_
            | refine inBlock_exit ?_
            | refine inBlock_ne (by decide) ?_
            | refine Hold_E ?_
            | (refine And.intro ?_ ?_; omega)
            | ((first | (refine ite_goB (fun h => ?_) (fun h => ?_) <;> (try exact absurd ((h : _ = false).symm.trans (by assumption : _ = true)) (by decide)) <;> (try exact absurd ((by assumption : _ = false).symm.trans (h : _ = true)) (by decide))) | (refine ite_go (fun h => ?_) (fun h => ?_) <;> (try exact absurd h (by assumption)) <;> (try exact absurd (by assumption) h))) <;> (try refine Hold_P ?_) <;> (try simp -dsimp only [h, go_sem, Nat.reduceLT, Nat.reduceLeDiff, Nat.reduceEqDiff, Nat.reduceAdd, Nat.reduceMul, Int.reduceNeg, Nat.reduceBEq, reduceCtorEq, ↓reduceIte, length_cands, hx, hd, hlt', hS1, gu, hc, hb', Cand.cells]))
            | refine Exists.intro _ (Exists.intro _ (And.intro (And.intro rfl rfl) ?_))
            | (refine PCall_use (refFit_spec (l.getD i noCand) hfi _) ?_; rintro _ _ ⟨rfl, hq⟩; obtain rfl := hq.symm; clear hq)
            | (refine Exists.intro _ (And.intro (fun _ => refFit_spec (l.getD i noCand) hfi _) ?_))
            | (refine Exists.intro _ (And.intro (refFit_spec (l.getD i noCand) hfi _) ?_))
            | (refine Exists.intro _ (Exists.intro _ (And.intro (refFit_spec (l.getD i noCand) hfi _) ?_)))
          exact ⟨(i + 1, i), by simp only; omega, ⟨by simp only; omega, hb.first hb0 hav⟩, Env.Sub_of_has (by simp [Env.Has, Env.get, wrap_succ (show i < 4611686018427387904 by omega)]), Store.Sub.refl _⟩
        · obtain ⟨n, rfl, hn⟩ : ∃ n : Nat, b = n ∧ n < i := by
            rcases hb with ⟨h1, _⟩ | ⟨n, h1, h2, _⟩
            · omega
            · exact ⟨n, h1, h2⟩
          have hb' : decide ((n : Int) < 0) = false := decF hb0
          have hy := getD_cands (l := l) (i := n) (by omega)
          have hlt2 : ((n : Int) < (l.length : Int)) = True := by simp; omega
          have hfn : (l.getD n noCand).A.Fits := hf _ (getD_mem (by omega))
          by_cases hq : (decCmp (l.getD i noCand) (l.getD n noCand)).1 < 0
          · have hq' := decT hq
            repeat' first
              | refine W_seq ?_
              | refine W_block ?_
              | ((first | refine W_region (mu := []) ?_ | (refine W_region_any [] ⟨[], [], [], [], [], [], 0⟩ mixedOrders_ok (by kernel_rfl) ?_; intro nu hn1 hn2) | refine fn_ret ?_ | refine fn_normal ?_ | refine Hold_P ?_ | refine prun_go ?_ | refine drun_go ?_); simp -dsimp only [go_sem, Nat.reduceLT, Nat.reduceLeDiff, Nat.reduceEqDiff, Nat.reduceAdd, Nat.reduceMul, Int.reduceNeg, Nat.reduceBEq, reduceCtorEq, ↓reduceIte, length_cands, hx, hy, hd, hlt', hlt2, hS1, gu, hc, hb', hq', Cand.cells])
              | (refine W_cond rfl (fun h => ?_) (fun h => ?_) <;> (try (cases h; done)))
              | refine W_ret ?_
              | refine W_skip ?_
              | refine W_exit ?_
              | refine then_normal ?_
              | refine then_ret ?_
              | refine then_exit ?_
              | refine inBlock_normal ?_
              | refine inBlock_ret ?_
              | refine inBlock_exit ?_
              | refine inBlock_ne (by decide) ?_
              | refine Hold_E ?_
              | (refine And.intro ?_ ?_; omega)
              | ((first | (refine ite_goB (fun h => ?_) (fun h => ?_) <;> (try exact absurd ((h : _ = false).symm.trans (by assumption : _ = true)) (by decide)) <;> (try exact absurd ((by assumption : _ = false).symm.trans (h : _ = true)) (by decide))) | (refine ite_go (fun h => ?_) (fun h => ?_) <;> (try exact absurd h (by assumption)) <;> (try exact absurd (by assumption) h))) <;> (try refine Hold_P ?_) <;> (try simp -dsimp only [h, go_sem, Nat.reduceLT, Nat.reduceLeDiff, Nat.reduceEqDiff, Nat.reduceAdd, Nat.reduceMul, Int.reduceNeg, Nat.reduceBEq, reduceCtorEq, ↓reduceIte, length_cands, hx, hy, hd, hlt', hlt2, hS1, gu, hc, hb', hq', Cand.cells]))
              | refine Exists.intro _ (Exists.intro _ (And.intro (And.intro rfl rfl) ?_))
              | (refine PCall_use (refFit_spec (l.getD i noCand) hfi _) ?_; rintro _ _ ⟨rfl, hq⟩; obtain rfl := hq.symm; clear hq)
              | (refine Exists.intro _ (And.intro (fun _ => refFit_spec (l.getD i noCand) hfi _) ?_))
              | (refine Exists.intro _ (And.intro (refFit_spec (l.getD i noCand) hfi _) ?_))
              | (refine Exists.intro _ (Exists.intro _ (And.intro (refFit_spec (l.getD i noCand) hfi _) ?_)))
              | (refine PCall_use (ref18_spec (l.getD i noCand) (l.getD n noCand) hfi hfn _) ?_; rintro _ _ ⟨rfl, hq⟩; obtain rfl := hq.symm; clear hq)
              | (refine Exists.intro _ (And.intro (fun _ => ref18_spec (l.getD i noCand) (l.getD n noCand) hfi hfn _) ?_))
              | (refine Exists.intro _ (And.intro (ref18_spec (l.getD i noCand) (l.getD n noCand) hfi hfn _) ?_))
              | (refine Exists.intro _ (Exists.intro _ (And.intro (ref18_spec (l.getD i noCand) (l.getD n noCand) hfi hfn _) ?_)))
            exact ⟨(i + 1, i), by simp only; omega, ⟨by simp only; omega, hb.new hav (by simpa only [cC, cAt_nat] using hq)⟩, Env.Sub_of_has (by simp [Env.Has, Env.get, wrap_succ (show i < 4611686018427387904 by omega)]), Store.Sub.refl _⟩
          · have hq' := decF hq
            repeat' first
              | refine W_seq ?_
              | refine W_block ?_
              | ((first | refine W_region (mu := []) ?_ | (refine W_region_any [] ⟨[], [], [], [], [], [], 0⟩ mixedOrders_ok (by kernel_rfl) ?_; intro nu hn1 hn2) | refine fn_ret ?_ | refine fn_normal ?_ | refine Hold_P ?_ | refine prun_go ?_ | refine drun_go ?_); simp -dsimp only [go_sem, Nat.reduceLT, Nat.reduceLeDiff, Nat.reduceEqDiff, Nat.reduceAdd, Nat.reduceMul, Int.reduceNeg, Nat.reduceBEq, reduceCtorEq, ↓reduceIte, length_cands, hx, hy, hd, hlt', hlt2, hS1, gu, hc, hb', hq', Cand.cells])
              | (refine W_cond rfl (fun h => ?_) (fun h => ?_) <;> (try (cases h; done)))
              | refine W_ret ?_
              | refine W_skip ?_
              | refine W_exit ?_
              | refine then_normal ?_
              | refine then_ret ?_
              | refine then_exit ?_
              | refine inBlock_normal ?_
              | refine inBlock_ret ?_
              | refine inBlock_exit ?_
              | refine inBlock_ne (by decide) ?_
              | refine Hold_E ?_
              | (refine And.intro ?_ ?_; omega)
              | ((first | (refine ite_goB (fun h => ?_) (fun h => ?_) <;> (try exact absurd ((h : _ = false).symm.trans (by assumption : _ = true)) (by decide)) <;> (try exact absurd ((by assumption : _ = false).symm.trans (h : _ = true)) (by decide))) | (refine ite_go (fun h => ?_) (fun h => ?_) <;> (try exact absurd h (by assumption)) <;> (try exact absurd (by assumption) h))) <;> (try refine Hold_P ?_) <;> (try simp -dsimp only [h, go_sem, Nat.reduceLT, Nat.reduceLeDiff, Nat.reduceEqDiff, Nat.reduceAdd, Nat.reduceMul, Int.reduceNeg, Nat.reduceBEq, reduceCtorEq, ↓reduceIte, length_cands, hx, hy, hd, hlt', hlt2, hS1, gu, hc, hb', hq', Cand.cells]))
              | refine Exists.intro _ (Exists.intro _ (And.intro (And.intro rfl rfl) ?_))
              | (refine PCall_use (refFit_spec (l.getD i noCand) hfi _) ?_; rintro _ _ ⟨rfl, hq⟩; obtain rfl := hq.symm; clear hq)
              | (refine Exists.intro _ (And.intro (fun _ => refFit_spec (l.getD i noCand) hfi _) ?_))
              | (refine Exists.intro _ (And.intro (refFit_spec (l.getD i noCand) hfi _) ?_))
              | (refine Exists.intro _ (Exists.intro _ (And.intro (refFit_spec (l.getD i noCand) hfi _) ?_)))
              | (refine PCall_use (ref18_spec (l.getD i noCand) (l.getD n noCand) hfi hfn _) ?_; rintro _ _ ⟨rfl, hq⟩; obtain rfl := hq.symm; clear hq)
              | (refine Exists.intro _ (And.intro (fun _ => ref18_spec (l.getD i noCand) (l.getD n noCand) hfi hfn _) ?_))
              | (refine Exists.intro _ (And.intro (ref18_spec (l.getD i noCand) (l.getD n noCand) hfi hfn _) ?_))
              | (refine Exists.intro _ (Exists.intro _ (And.intro (ref18_spec (l.getD i noCand) (l.getD n noCand) hfi hfn _) ?_)))
            exact ⟨(i + 1, n), by simp only; omega, ⟨by simp only; omega, hb.keep (by simpa only [cC, cAt_nat] using hq)⟩, Env.Sub_of_has (by simp [Env.Has, Env.get, wrap_succ (show i < 4611686018427387904 by omega)]), Store.Sub.refl _⟩
      · skip
        repeat' first
          | refine W_seq ?_
          | refine W_block ?_
          | ((first | refine W_region (mu := []) ?_ | (refine W_region_any [] ⟨[], [], [], [], [], [], 0⟩ mixedOrders_ok (by kernel_rfl) ?_; intro nu hn1 hn2) | refine fn_ret ?_ | refine fn_normal ?_ | refine Hold_P ?_ | refine prun_go ?_ | refine drun_go ?_); simp -dsimp only [go_sem, Nat.reduceLT, Nat.reduceLeDiff, Nat.reduceEqDiff, Nat.reduceAdd, Nat.reduceMul, Int.reduceNeg, Nat.reduceBEq, reduceCtorEq, ↓reduceIte, length_cands, hx, hd, hlt', hS1, gu, hc, Cand.cells])
          | (refine W_cond rfl (fun h => ?_) (fun h => ?_) <;> (try (cases h; done)))
          | refine W_ret ?_
          | refine W_skip ?_
          | refine W_exit ?_
          | refine then_normal ?_
          | refine then_ret ?_
          | refine then_exit ?_
          | refine inBlock_normal ?_
          | refine inBlock_ret ?_
          | refine inBlock_exit ?_
          | refine inBlock_ne (by decide) ?_
          | refine Hold_E ?_
          | (refine And.intro ?_ ?_; omega)
          | ((first | (refine ite_goB (fun h => ?_) (fun h => ?_) <;> (try exact absurd ((h : _ = false).symm.trans (by assumption : _ = true)) (by decide)) <;> (try exact absurd ((by assumption : _ = false).symm.trans (h : _ = true)) (by decide))) | (refine ite_go (fun h => ?_) (fun h => ?_) <;> (try exact absurd h (by assumption)) <;> (try exact absurd (by assumption) h))) <;> (try refine Hold_P ?_) <;> (try simp -dsimp only [h, go_sem, Nat.reduceLT, Nat.reduceLeDiff, Nat.reduceEqDiff, Nat.reduceAdd, Nat.reduceMul, Int.reduceNeg, Nat.reduceBEq, reduceCtorEq, ↓reduceIte, length_cands, hx, hd, hlt', hS1, gu, hc, Cand.cells]))
          | refine Exists.intro _ (Exists.intro _ (And.intro (And.intro rfl rfl) ?_))
          | (refine PCall_use (refFit_spec (l.getD i noCand) hfi _) ?_; rintro _ _ ⟨rfl, hq⟩; obtain rfl := hq.symm; clear hq)
          | (refine Exists.intro _ (And.intro (fun _ => refFit_spec (l.getD i noCand) hfi _) ?_))
          | (refine Exists.intro _ (And.intro (refFit_spec (l.getD i noCand) hfi _) ?_))
          | (refine Exists.intro _ (Exists.intro _ (And.intro (refFit_spec (l.getD i noCand) hfi _) ?_)))
        exact ⟨(i + 1, b), by simp only; omega, ⟨by simp only; omega, hb.skip (fun h => by rw [h.2] at hc; cases hc)⟩, Env.Sub_of_has (by simp [Env.Has, Env.get, wrap_succ (show i < 4611686018427387904 by omega)]), Store.Sub.refl _⟩
  have hd : decide ((i : Int) < (l.length : Int)) = false := decF (by omega)
  have hi' : i = l.length := by omega
  subst hi'
  rcases hb with ⟨rfl, hno⟩ | ⟨n, rfl, hn, hav, hbest⟩
  · have hdone := orderZ_of l (hi.done hno)
    have hb' : decide ((-1 : Int) < 0) = true := by decide
    repeat' first
      | refine W_seq ?_
      | refine W_block ?_
      | ((first | refine W_region (mu := []) ?_ | (refine W_region_any [] ⟨[], [], [], [], [], [], 0⟩ mixedOrders_ok (by kernel_rfl) ?_; intro nu hn1 hn2) | refine fn_ret ?_ | refine fn_normal ?_ | refine Hold_P ?_ | refine prun_go ?_ | refine drun_go ?_); simp -dsimp only [go_sem, Nat.reduceLT, Nat.reduceLeDiff, Nat.reduceEqDiff, Nat.reduceAdd, Nat.reduceMul, Int.reduceNeg, Nat.reduceBEq, reduceCtorEq, ↓reduceIte, length_cands, hd, hb'])
      | (refine W_cond rfl (fun h => ?_) (fun h => ?_) <;> (try (cases h; done)))
      | refine W_ret ?_
      | refine W_skip ?_
      | refine W_exit ?_
      | refine then_normal ?_
      | refine then_ret ?_
      | refine then_exit ?_
      | refine inBlock_normal ?_
      | refine inBlock_ret ?_
      | refine inBlock_exit ?_
      | refine inBlock_ne (by decide) ?_
      | refine Hold_E ?_
      | (refine And.intro ?_ ?_; omega)
      | ((first | (refine ite_goB (fun h => ?_) (fun h => ?_) <;> (try exact absurd ((h : _ = false).symm.trans (by assumption : _ = true)) (by decide)) <;> (try exact absurd ((by assumption : _ = false).symm.trans (h : _ = true)) (by decide))) | (refine ite_go (fun h => ?_) (fun h => ?_) <;> (try exact absurd h (by assumption)) <;> (try exact absurd (by assumption) h))) <;> (try refine Hold_P ?_) <;> (try simp -dsimp only [h, go_sem, Nat.reduceLT, Nat.reduceLeDiff, Nat.reduceEqDiff, Nat.reduceAdd, Nat.reduceMul, Int.reduceNeg, Nat.reduceBEq, reduceCtorEq, ↓reduceIte, length_cands, hd, hb']))
      | refine Exists.intro _ (Exists.intro _ (And.intro (And.intro rfl rfl) ?_))
    refine ⟨σ, ?_, ⟨if out = [] then .nil else .tip o2, ?_, ?_, ?_, ?_⟩, rfl⟩
    · rw [← hS]
      by_cases h : out = []
      · rw [if_pos h]; exact Sub_put (Store.Sub.refl _) ho1 _
      · rw [if_neg h]; exact Sub_put (Sub_put (Store.Sub.refl _) ho1 _) (ho2 h).1 _
    · by_cases h : out = []
      · rw [if_pos h, ← hdone]; exact fun _ => h
      · rw [if_neg h]; intro e; cases e
    · by_cases h : out = []
      · rw [if_pos h]; intro e; cases e
      · rw [if_neg h, ← hdone]; exact fun _ => h
    · by_cases h : out = []
      · rw [if_pos h]; exact fun _ => rfl
      · rw [if_neg h]; intro e; cases e
    · rw [← hX, ← hdone]
      by_cases h : out = []
      · rw [if_pos h, if_pos h, h]; rfl
      · rw [if_neg h, if_neg h]
  have hb' : decide ((n : Int) < 0) = false := decF (by omega)
  have gu := get_bools (l := u) (i := n) (by omega)
  have hlt2 : ((n : Int) < (l.length : Int)) = True := by simp; omega
  have htk := hi.take hn hav hbest
  have hne : out ++ [(n : Int)] ≠ [] := by simp
  have hsh2 := htk.short
  simp only [List.length_append, List.length_cons, List.length_nil] at hsh2
  by_cases h0 : out = []
  · subst h0
    rw [if_pos rfl] at hX hS
    subst hX hS
    repeat' first
      | refine W_seq ?_
      | refine W_block ?_
      | ((first | refine W_region (mu := []) ?_ | (refine W_region_any [] ⟨[], [], [], [], [], [], 0⟩ mixedOrders_ok (by kernel_rfl) ?_; intro nu hn1 hn2) | refine fn_ret ?_ | refine fn_normal ?_ | refine Hold_P ?_ | refine prun_go ?_ | refine drun_go ?_); simp -dsimp only [go_sem, Nat.reduceLT, Nat.reduceLeDiff, Nat.reduceEqDiff, Nat.reduceAdd, Nat.reduceMul, Int.reduceNeg, Nat.reduceBEq, reduceCtorEq, ↓reduceIte, length_cands, hd, hb', hlt2, gu, splice, set_bools])
      | (refine W_cond rfl (fun h => ?_) (fun h => ?_) <;> (try (cases h; done)))
      | refine W_ret ?_
      | refine W_skip ?_
      | refine W_exit ?_
      | refine then_normal ?_
      | refine then_ret ?_
      | refine then_exit ?_
      | refine inBlock_normal ?_
      | refine inBlock_ret ?_
      | refine inBlock_exit ?_
      | refine inBlock_ne (by decide) ?_
      | refine Hold_E ?_
      | (refine And.intro ?_ ?_; omega)
      | ((first | (refine ite_goB (fun h => ?_) (fun h => ?_) <;> (try exact absurd ((h : _ = false).symm.trans (by assumption : _ = true)) (by decide)) <;> (try exact absurd ((by assumption : _ = false).symm.trans (h : _ = true)) (by decide))) | (refine ite_go (fun h => ?_) (fun h => ?_) <;> (try exact absurd h (by assumption)) <;> (try exact absurd (by assumption) h))) <;> (try refine Hold_P ?_) <;> (try simp -dsimp only [h, go_sem, Nat.reduceLT, Nat.reduceLeDiff, Nat.reduceEqDiff, Nat.reduceAdd, Nat.reduceMul, Int.reduceNeg, Nat.reduceBEq, reduceCtorEq, ↓reduceIte, length_cands, hd, hb', hlt2, gu, splice, set_bools]))
      | refine Exists.intro _ (Exists.intro _ (And.intro (And.intro rfl rfl) ?_))
    intro o3 ho3
    repeat' first
      | refine W_seq ?_
      | refine W_block ?_
      | ((first | refine W_region (mu := []) ?_ | (refine W_region_any [] ⟨[], [], [], [], [], [], 0⟩ mixedOrders_ok (by kernel_rfl) ?_; intro nu hn1 hn2) | refine fn_ret ?_ | refine fn_normal ?_ | refine Hold_P ?_ | refine prun_go ?_ | refine drun_go ?_); simp -dsimp only [go_sem, Nat.reduceLT, Nat.reduceLeDiff, Nat.reduceEqDiff, Nat.reduceAdd, Nat.reduceMul, Int.reduceNeg, Nat.reduceBEq, reduceCtorEq, ↓reduceIte, length_cands])
      | (refine W_cond rfl (fun h => ?_) (fun h => ?_) <;> (try (cases h; done)))
      | refine W_ret ?_
      | refine W_skip ?_
      | refine W_exit ?_
      | refine then_normal ?_
      | refine then_ret ?_
      | refine then_exit ?_
      | refine inBlock_normal ?_
      | refine inBlock_ret ?_
      | refine inBlock_exit ?_
      | refine inBlock_ne (by decide) ?_
      | refine Hold_E ?_
      | (refine And.intro ?_ ?_; omega)
      | ((first | (refine ite_goB (fun h => ?_) (fun h => ?_) <;> (try exact absurd ((h : _ = false).symm.trans (by assumption : _ = true)) (by decide)) <;> (try exact absurd ((by assumption : _ = false).symm.trans (h : _ = true)) (by decide))) | (refine ite_go (fun h => ?_) (fun h => ?_) <;> (try exact absurd h (by assumption)) <;> (try exact absurd (by assumption) h))) <;> (try refine Hold_P ?_) <;> (try simp -dsimp only [h, go_sem, Nat.reduceLT, Nat.reduceLeDiff, Nat.reduceEqDiff, Nat.reduceAdd, Nat.reduceMul, Int.reduceNeg, Nat.reduceBEq, reduceCtorEq, ↓reduceIte, length_cands]))
      | refine Exists.intro _ (Exists.intro _ (And.intro (And.intro rfl rfl) ?_))
    have ho3' := fresh_old ho3
    refine ⟨(u.set n true, [(n : Int)], o3), by simp only [List.length_cons, List.length_nil]; omega, ⟨htk, fun _ => ⟨ho3', fun e => fresh_ne ho3 e.symm⟩⟩, Env.Sub_of_has (by simp [Env.Has, Env.get, ints]), ?_⟩
    simp only [List.cons_ne_nil, if_false]
    exact Store.Sub.refl _
  · rw [if_neg h0] at hX hS
    subst hX hS
    obtain ⟨h2a, h2b⟩ := ho2 h0
    have e12 : ∀ (s : Store) (x : Ob), (s.put o1 x) o2 = s o2 := fun s x => put_ne h2b
    have e21 : ∀ (s : Store) (x : Ob), (s.put o2 x) o1 = s o1 := fun s x => put_ne (fun e => h2b e.symm)
    have hsn : ints out ++ [.int .i64 (n : Int)] = ints (out ++ [(n : Int)]) := by simp [ints]
    repeat' first
      | refine W_seq ?_
      | refine W_block ?_
      | ((first | refine W_region (mu := []) ?_ | (refine W_region_any [] ⟨[], [], [], [], [], [], 0⟩ mixedOrders_ok (by kernel_rfl) ?_; intro nu hn1 hn2) | refine fn_ret ?_ | refine fn_normal ?_ | refine Hold_P ?_ | refine prun_go ?_ | refine drun_go ?_); simp -dsimp only [go_sem, Nat.reduceLT, Nat.reduceLeDiff, Nat.reduceEqDiff, Nat.reduceAdd, Nat.reduceMul, Int.reduceNeg, Nat.reduceBEq, reduceCtorEq, ↓reduceIte, length_cands, hd, hb', hlt2, gu, splice, set_bools, e12, e21, hsn])
      | (refine W_cond rfl (fun h => ?_) (fun h => ?_) <;> (try (cases h; done)))
      | refine W_ret ?_
      | refine W_skip ?_
      | refine W_exit ?_
      | refine then_normal ?_
      | refine then_ret ?_
      | refine then_exit ?_
      | refine inBlock_normal ?_
      | refine inBlock_ret ?_
      | refine inBlock_exit ?_
      | refine inBlock_ne (by decide) ?_
      | refine Hold_E ?_
      | (refine And.intro ?_ ?_; omega)
      | ((first | (refine ite_goB (fun h => ?_) (fun h => ?_) <;> (try exact absurd ((h : _ = false).symm.trans (by assumption : _ = true)) (by decide)) <;> (try exact absurd ((by assumption : _ = false).symm.trans (h : _ = true)) (by decide))) | (refine ite_go (fun h => ?_) (fun h => ?_) <;> (try exact absurd h (by assumption)) <;> (try exact absurd (by assumption) h))) <;> (try refine Hold_P ?_) <;> (try simp -dsimp only [h, go_sem, Nat.reduceLT, Nat.reduceLeDiff, Nat.reduceEqDiff, Nat.reduceAdd, Nat.reduceMul, Int.reduceNeg, Nat.reduceBEq, reduceCtorEq, ↓reduceIte, length_cands, hd, hb', hlt2, gu, splice, set_bools, e12, e21, hsn]))
      | refine Exists.intro _ (Exists.intro _ (And.intro (And.intro rfl rfl) ?_))
    refine ⟨(u.set n true, out ++ [(n : Int)], o2), by simp only [List.length_append, List.length_cons, List.length_nil]; omega, ⟨htk, fun _ => ⟨h2a, h2b⟩⟩, Env.Sub_of_has (by simp [Env.Has, Env.get]), ?_⟩
    simp only [hne, if_false]
    refine sub_eq ?_
    funext p
    simp only [Store.put]
    (repeat' split) <;> simp_all
end Go.Proofs.Ytlbhhoojbokblaa
