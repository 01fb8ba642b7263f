/- A heap of pairs with texts as ranks: New, two Sets, Pop and Len, as HeapNils has them. Conditions: none. -/
import Derived.Test.YtoekaigdacaghaaJb
set_option linter.unusedVariables false
set_option linter.unusedSimpArgs false
namespace Go.Proofs.Ytoekaigdacaghaa.Duo
open Go.Kern Go.Proofs.Ytoekaigdacaghaa
set_option maxRecDepth 100000
set_option maxHeartbeats 4000000
attribute [local go_sem] drun_nil drun_cons prun_nil prun_cons wrOk tqOk lateOp lateB dstOk ev ofConst leafOf Env.putO Env.get envOf readRs_nil oneRes nilSide SK.isNil isMu fillA partsFit boundA SK.cut SK.cutFull SK.fresh rowOk rowsOk_nil rowsOk_cons rowsOk_append rowsOk_ints splice oneOf keyKind cellsKind cellKind cellsB cellB zeroFits TK.agg AV.cells AV.known AV.one List.set_cons_zero List.set_cons_succ put_same put_put forall_const implies_true exists_eq_left exists_eq_left' exists_eq_right exists_eq Store.Sub.refl and_self Int.toNat_natCast length_ints List.length_map true_and and_true decide_true decide_false if_true if_false Bool.false_eq_true Bool.true_eq_false List.getElem?_cons_zero List.getElem?_cons_succ List.length_cons List.length_nil List.drop_zero List.drop_succ_cons List.take_succ_cons List.take_zero List.drop_nil List.take_nil List.append_nil List.map_cons List.map_nil List.cons_append List.nil_append beq_self_eq_true Bool.false_beq Bool.true_beq Bool.not_true Bool.not_false Option.map_some Option.map_none Option.bind_some ne_eq not_false_eq_true List.contains_cons List.contains_nil Bool.or_false Bool.or_true Bool.and_true Bool.and_false Bool.true_and Bool.false_and List.all_cons List.all_nil Nat.one_ne_zero Nat.zero_ne_one Option.isSome_some Option.isSome_none List.getElem?_toArray beq_true beq_false decide_eq_true_eq Int.toNat_zero forall_ints take_ints drop_ints Int.le_refl Int.natCast_nonneg Nat.zero_add Nat.add_zero or_true true_or false_or or_false
attribute [local go_sem ↓] allocN guardP OpSem callA readRs_cons readR binA intOpA strOpA nilOpA unA convA boxA allocA behind loadA buildA buildSliceA fieldAddrA fieldA indexAddrA indexA lenA sliceA extractA nilCheckA storeA lookupA mapSetA mapDelA makeSliceA appendA appendN apN
attribute [local irreducible] PCall W

def ltS (a b : ByteArray) : Bool := Op.bytesLess a.toList b.toList
theorem less_spec : Less 31 ltS := by
  intro a b σ
  refine PCall_q [.tmp 4] 8 Try.func31 (by rfl) rfl rfl rfl rfl ?_
  repeat' first
    | refine W_seq ?_
    | refine W_block ?_
    | ((first | refine W_region (mu := []) ?_ | (refine W_region_any [] ⟨[], [], [], [], [], [], 0⟩ mixedOrders_ok (by kernel_rfl) ?_; intro nu hn1 hn2) | refine fn_ret ?_ | refine fn_normal ?_ | refine Hold_P ?_ | refine prun_go ?_ | refine drun_go ?_); simp -dsimp only [go_sem, Nat.reduceLT, Nat.reduceLeDiff, Nat.reduceEqDiff, Nat.reduceAdd, Nat.reduceMul, Int.reduceNeg, Nat.reduceBEq, reduceCtorEq, ↓reduceIte])
    | (refine W_cond rfl (fun h => ?_) (fun h => ?_) <;> (try (cases h; done)))
    | refine W_ret ?_
    | refine W_skip ?_
    | refine W_exit ?_
    | refine then_normal ?_
    | refine then_ret ?_
    | refine then_exit ?_
    | refine inBlock_normal ?_
    | refine inBlock_ret ?_
    | refine inBlock_exit ?_
    | refine inBlock_ne (by decide) ?_
    | refine Hold_E ?_
    | (refine And.intro ?_ ?_; omega)
    | ((first | (refine ite_goB (fun h => ?_) (fun h => ?_) <;> (try exact absurd ((h : _ = false).symm.trans (by assumption : _ = true)) (by decide)) <;> (try exact absurd ((by assumption : _ = false).symm.trans (h : _ = true)) (by decide))) | (refine ite_go (fun h => ?_) (fun h => ?_) <;> (try exact absurd h (by assumption)) <;> (try exact absurd (by assumption) h))) <;> (try refine Hold_P ?_) <;> (try simp -dsimp only [h, go_sem, Nat.reduceLT, Nat.reduceLeDiff, Nat.reduceEqDiff, Nat.reduceAdd, Nat.reduceMul, Int.reduceNeg, Nat.reduceBEq, reduceCtorEq, ↓reduceIte]))
    | refine Exists.intro _ (Exists.intro _ (And.intro (And.intro rfl rfl) ?_))
  rfl
theorem less_self : ∀ l : List UInt8, Op.bytesLess l l = false
  | [] => rfl
  | a :: l => by simp [Op.bytesLess, less_self l]
theorem less_snoc (a b : UInt8) : ∀ l : List UInt8, Op.bytesLess (l ++ [a]) (l ++ [b]) = decide (a < b)
  | [] => by simp [Op.bytesLess]
  | x :: l => by simp [Op.bytesLess, less_snoc a b l]
theorem lt_snoc (k : ByteArray) (a b : UInt8) : ltS (k ++ ⟨#[a]⟩) (k ++ ⟨#[b]⟩) = decide (a < b) := by
  unfold ltS
  rw [Lib.toList_data, Lib.toList_data, ByteArray.data_append, ByteArray.data_append, Array.toList_append, Array.toList_append]
  exact less_snoc a b k.data.toList

theorem put_id {s : Store} {p : Nat} {x : Ob} (h : s p = some x) : s.put p x = s := by
  funext q
  simp only [Store.put]
  split
  · rename_i e; rw [e, h]
  · rfl
theorem gset {ls : List Th} {i j : Nat} {x : Th} (hi : i < ls.length) : (ls.set i x).getD j noTh = if i = j then x else ls.getD j noTh := by
  simp only [List.getD_eq_getElem?_getD, List.getElem?_set]
  split
  · simp [hi]
  · rfl

theorem new_spec (fi : Nat) (σ : Store) : PCall Try.prog 30 [.fn fi []] σ (fun r s => ∃ p m, r = .ptr p 0 0 ∧ σ.Sub s ∧ σ p = none ∧ σ m = none ∧ p ≠ m ∧ s p = some (.arr [.agg [.fn fi [], .sl .nil [], .map m, .int .i64 0]]) ∧ s m = some (.map [])) := by
  refine PCall_w [.tmp 2] 9 Try.func30 (by rfl) rfl rfl rfl rfl ?_
  repeat' first
    | refine W_seq ?_
    | refine W_block ?_
    | ((first | refine W_region (mu := [8]) ?_ | (refine W_region_any [8] ⟨[], [], [], [], [], [], 0⟩ mixedOrders_ok (by kernel_rfl) ?_; intro nu hn1 hn2) | refine fn_ret ?_ | refine fn_normal ?_ | refine Hold_P ?_ | refine prun_go ?_ | refine drun_go ?_); simp -dsimp only [go_sem, Nat.reduceLT, Nat.reduceLeDiff, Nat.reduceEqDiff, Nat.reduceAdd, Nat.reduceMul, Int.reduceNeg, Nat.reduceBEq, reduceCtorEq, ↓reduceIte])
    | (refine W_cond rfl (fun h => ?_) (fun h => ?_) <;> (try (cases h; done)))
    | refine W_ret ?_
    | refine W_skip ?_
    | refine W_exit ?_
    | refine then_normal ?_
    | refine then_ret ?_
    | refine then_exit ?_
    | refine inBlock_normal ?_
    | refine inBlock_ret ?_
    | refine inBlock_exit ?_
    | refine inBlock_ne (by decide) ?_
    | refine Hold_E ?_
    | (refine And.intro ?_ ?_; omega)
    | ((first | (refine ite_goB (fun h => ?_) (fun h => ?_) <;> (try exact absurd ((h : _ = false).symm.trans (by assumption : _ = true)) (by decide)) <;> (try exact absurd ((by assumption : _ = false).symm.trans (h : _ = true)) (by decide))) | (refine ite_go (fun h => ?_) (fun h => ?_) <;> (try exact absurd h (by assumption)) <;> (try exact absurd (by assumption) h))) <;> (try refine Hold_P ?_) <;> (try simp -dsimp only [h, go_sem, Nat.reduceLT, Nat.reduceLeDiff, Nat.reduceEqDiff, Nat.reduceAdd, Nat.reduceMul, Int.reduceNeg, Nat.reduceBEq, reduceCtorEq, ↓reduceIte]))
    | refine Exists.intro _ (Exists.intro _ (And.intro (And.intro rfl rfl) ?_))
  intro o1 ho1 o2 ho2
  repeat' first
    | refine W_seq ?_
    | refine W_block ?_
    | ((first | refine W_region (mu := [8]) ?_ | (refine W_region_any [8] ⟨[], [], [], [], [], [], 0⟩ mixedOrders_ok (by kernel_rfl) ?_; intro nu hn1 hn2) | refine fn_ret ?_ | refine fn_normal ?_ | refine Hold_P ?_ | refine prun_go ?_ | refine drun_go ?_); simp -dsimp only [go_sem, Nat.reduceLT, Nat.reduceLeDiff, Nat.reduceEqDiff, Nat.reduceAdd, Nat.reduceMul, Int.reduceNeg, Nat.reduceBEq, reduceCtorEq, ↓reduceIte])
    | (refine W_cond rfl (fun h => ?_) (fun h => ?_) <;> (try (cases h; done)))
    | refine W_ret ?_
    | refine W_skip ?_
    | refine W_exit ?_
    | refine then_normal ?_
    | refine then_ret ?_
    | refine then_exit ?_
    | refine inBlock_normal ?_
    | refine inBlock_ret ?_
    | refine inBlock_exit ?_
    | refine inBlock_ne (by decide) ?_
    | refine Hold_E ?_
    | (refine And.intro ?_ ?_; omega)
    | ((first | (refine ite_goB (fun h => ?_) (fun h => ?_) <;> (try exact absurd ((h : _ = false).symm.trans (by assumption : _ = true)) (by decide)) <;> (try exact absurd ((by assumption : _ = false).symm.trans (h : _ = true)) (by decide))) | (refine ite_go (fun h => ?_) (fun h => ?_) <;> (try exact absurd h (by assumption)) <;> (try exact absurd (by assumption) h))) <;> (try refine Hold_P ?_) <;> (try simp -dsimp only [h, go_sem, Nat.reduceLT, Nat.reduceLeDiff, Nat.reduceEqDiff, Nat.reduceAdd, Nat.reduceMul, Int.reduceNeg, Nat.reduceBEq, reduceCtorEq, ↓reduceIte]))
    | refine Exists.intro _ (Exists.intro _ (And.intro (And.intro rfl rfl) ?_))
  have h21 := fresh_ne ho2
  refine ⟨_, Store.Sub.refl _, o2, o1, rfl, Sub_put (Sub_put (Store.Sub.refl _) ho1 _) (fresh_old ho2) _, fresh_old ho2, ho1, fun e => h21 e.symm, put_same _ _ _, ?_⟩
  rw [put_ne h21, put_same]

section
variable {fi : Nat} {lt : ByteArray → ByteArray → Bool} {p m o : Nat}

/-- up and down of one thing. -/
theorem up_one (hf : Less fi lt) (d : Apart p m o) (w : Int) (x : Th) (rest : List Th) (hr : rest.length < 1000) (em : EM) (σ : Store) :
    PCall Try.prog 42 [.ptr p 0 0, .int .i64 0] (hst σ p m o (.fn fi []) 1 (x :: rest) em w)
      (fun r s => r = .int .i64 0 ∧ s = hst σ p m o (.fn fi []) 1 (x :: rest) (asetM x.k 0 em) w) := by
  refine (up_spec hf d 1 w x (fun ls em' i => ls = x :: rest ∧ em' = em ∧ i = 0) ?_ ?_ (x :: rest) em 0 rfl ⟨rfl, rfl, rfl⟩ σ).mono ?_
  · rintro ls em i ⟨rfl, rfl, rfl⟩
    refine ⟨by omega, by simp, by simp; omega⟩
  · rintro ls em i ⟨rfl, rfl, rfl⟩ h; omega
  · rintro r s ⟨ls', em', i', ⟨rfl, rfl, rfl⟩, _, rfl, rfl⟩
    exact ⟨rfl, rfl⟩
theorem down_one (hf : Less fi lt) (d : Apart p m o) (w : Int) (x : Th) (rest : List Th) (hr : rest.length < 1000) (em : EM) (σ : Store) :
    PCall Try.prog 41 [.ptr p 0 0, .int .i64 0] (hst σ p m o (.fn fi []) 1 (x :: rest) em w)
      (fun r s => r = .tup [] ∧ s = hst σ p m o (.fn fi []) 1 (x :: rest) (asetM x.k 0 em) w) := by
  refine (down_spec hf d 1 w x (fun ls em' i => ls = x :: rest ∧ em' = em ∧ i = 0) ?_ ?_ (x :: rest) em 0 rfl ⟨rfl, rfl, rfl⟩ σ).mono ?_
  · rintro ls em i ⟨rfl, rfl, rfl⟩
    refine ⟨by omega, by simp, by simp; omega⟩
  · rintro ls em i ⟨rfl, rfl, rfl⟩ h; omega
  · rintro r s ⟨ls', em', i', ⟨rfl, rfl, rfl⟩, _, rfl, rfl⟩
    exact ⟨rfl, rfl⟩

theorem take_things (l : List Th) (i : Nat) : (things l).take i = things (l.take i) := by simp [things, List.map_take]
theorem things_snoc0 (l : List Th) : things l ++ [.agg [.int .i64 0, .int .i64 0, .str ⟨#[]⟩, .int .i64 0]] = things (l ++ [noTh]) := by unfold things; rw [List.map_append]; rfl

/-- Set in a heap that is empty. -/
theorem set_first (hf : Less fi lt) {s : Store} (hpm : p ≠ m) (h2 : s p = some (.arr [.agg [.fn fi [], .sl .nil [], .map m, .int .i64 0]])) (hm : s m = some (.map [])) (k : Int × Int) (r : ByteArray) :
    PCall Try.prog 32 [.ptr p 0 0, .agg [.int .i64 k.1, .int .i64 k.2], .str r] s (fun a t => ∃ o, a = .bool false ∧ s o = none ∧ Apart p m o ∧ t = hst s p m o (.fn fi []) 1 [⟨k, r, 1⟩] [(k, 0)] 1) := by
  have hw1 : IntKind.i64.wrap ((0 : Int) + 1) = 1 := wrap64_id (by omega) (by omega)
  have he : (([] : List (AV × AV)).find? (fun e => keyB (kA k) e.1)) = none := rfl
  have hal := all_es []
  have hes : esA [] = [] := rfl
  rw [hes] at hal
  refine PCall_w [.tmp 6] 60 Try.func32 (by rfl) rfl rfl rfl rfl ?_
  repeat' first
    | refine W_seq ?_
    | refine W_block ?_
    | ((first | refine W_region (mu := [34]) ?_ | (refine W_region_any (id := 3) [34] ⟨[3,5], [], [], [], [], [], 0⟩ mixedOrders_ok (by kernel_rfl) ?_; intro nu hn1 hn2) | (refine W_region_any [34] ⟨[], [], [], [], [], [], 0⟩ mixedOrders_ok (by kernel_rfl) ?_; intro nu hn1 hn2) | refine fn_ret ?_ | refine fn_normal ?_ | refine Hold_P ?_ | refine prun_go ?_ | refine drun_go ?_); simp -dsimp only [go_sem, Nat.reduceLT, Nat.reduceLeDiff, Nat.reduceEqDiff, Nat.reduceAdd, Nat.reduceMul, Int.reduceNeg, Nat.reduceBEq, reduceCtorEq, ↓reduceIte, h2, hm, he, hal])
    | (refine W_cond rfl (fun h => ?_) (fun h => ?_) <;> (try (cases h; done)))
    | refine W_ret ?_
    | refine W_skip ?_
    | refine W_exit ?_
    | refine then_normal ?_
    | refine then_ret ?_
    | refine then_exit ?_
    | refine inBlock_normal ?_
    | refine inBlock_ret ?_
    | refine inBlock_exit ?_
    | refine inBlock_ne (by decide) ?_
    | refine Hold_E ?_
    | (refine And.intro ?_ ?_; omega)
    | ((first | (refine ite_goB (fun h => ?_) (fun h => ?_) <;> (try exact absurd ((h : _ = false).symm.trans (by assumption : _ = true)) (by decide)) <;> (try exact absurd ((by assumption : _ = false).symm.trans (h : _ = true)) (by decide))) | (refine ite_go (fun h => ?_) (fun h => ?_) <;> (try exact absurd h (by assumption)) <;> (try exact absurd (by assumption) h))) <;> (try refine Hold_P ?_) <;> (try simp -dsimp only [h, go_sem, Nat.reduceLT, Nat.reduceLeDiff, Nat.reduceEqDiff, Nat.reduceAdd, Nat.reduceMul, Int.reduceNeg, Nat.reduceBEq, reduceCtorEq, ↓reduceIte, h2, hm, he, hal]))
    | refine Exists.intro _ (Exists.intro _ (And.intro (And.intro rfl rfl) ?_))
  intro o ho
  have d : Apart p m o := ⟨hpm, (fun e => by rw [← e, h2] at ho; cases ho), (fun e => by rw [← e, hm] at ho; cases ho)⟩
  have hs1 : ∀ x, (s.put o x) p = some (.arr [.agg [.fn fi [], .sl .nil [], .map m, .int .i64 0]]) := fun x => by rw [put_ne d.ho]; exact h2
  have hput : (s.put o (.arr [.agg [.int .i64 0, .int .i64 0, .str ⟨#[]⟩, .int .i64 0]])).put p (.arr [.agg [.fn fi [], .ms o 4 0 1, .map m, .int .i64 0]]) = hst s p m o (.fn fi []) 1 [noTh] [] 0 := by
    funext q
    simp only [hst, Store.put]
    by_cases e1 : q = o
    · subst e1; simp [d.ho, things, encT, noTh]; exact fun h => absurd h.symm d.ho
    · by_cases e2 : q = m
      · subst e2; simp [e1, hpm, hm, hes]; exact fun h => absurd h.symm hpm
      · simp [e1, e2]
  simp -dsimp only [hs1, hput, go_sem, Nat.reduceLT, Nat.reduceLeDiff, Nat.reduceEqDiff, Nat.reduceAdd, Nat.reduceMul, Int.reduceNeg, Nat.reduceBEq, reduceCtorEq, ↓reduceIte]
  repeat' first
    | refine W_seq ?_
    | refine W_block ?_
    | ((first | refine W_region (mu := []) ?_ | (refine W_region_any (id := 8) [] ⟨[7], [9], [], [], [], [], 0⟩ mixedOrders_ok (by kernel_rfl) ?_; intro nu hn1 hn2) | (refine W_region_any [] ⟨[], [], [], [], [], [], 0⟩ mixedOrders_ok (by kernel_rfl) ?_; intro nu hn1 hn2) | refine fn_ret ?_ | refine fn_normal ?_ | refine Hold_P ?_ | refine prun_go ?_ | refine drun_go ?_); simp -dsimp only [go_sem, Nat.reduceLT, Nat.reduceLeDiff, Nat.reduceEqDiff, Nat.reduceAdd, Nat.reduceMul, Int.reduceNeg, Nat.reduceBEq, reduceCtorEq, ↓reduceIte, d.rh, d.rm, d.ro, d.wh, hw1])
    | (refine W_cond rfl (fun h => ?_) (fun h => ?_) <;> (try (cases h; done)))
    | refine W_ret ?_
    | refine W_skip ?_
    | refine W_exit ?_
    | refine then_normal ?_
    | refine then_ret ?_
    | refine then_exit ?_
    | refine inBlock_normal ?_
    | refine inBlock_ret ?_
    | refine inBlock_exit ?_
    | refine inBlock_ne (by decide) ?_
    | refine Hold_E ?_
    | (refine And.intro ?_ ?_; omega)
    | ((first | (refine ite_goB (fun h => ?_) (fun h => ?_) <;> (try exact absurd ((h : _ = false).symm.trans (by assumption : _ = true)) (by decide)) <;> (try exact absurd ((by assumption : _ = false).symm.trans (h : _ = true)) (by decide))) | (refine ite_go (fun h => ?_) (fun h => ?_) <;> (try exact absurd h (by assumption)) <;> (try exact absurd (by assumption) h))) <;> (try refine Hold_P ?_) <;> (try simp -dsimp only [h, go_sem, Nat.reduceLT, Nat.reduceLeDiff, Nat.reduceEqDiff, Nat.reduceAdd, Nat.reduceMul, Int.reduceNeg, Nat.reduceBEq, reduceCtorEq, ↓reduceIte, d.rh, d.rm, d.ro, d.wh, hw1]))
    | refine Exists.intro _ (Exists.intro _ (And.intro (And.intro rfl rfl) ?_))
    | (refine PCall_use (lay_spec d _ 1 [noTh] (Nat.le_refl _) [] 1 0 (by omega) ⟨k, r, 1⟩ s) ?_; rintro _ _ ⟨rfl, hq⟩; obtain rfl := hq.symm; clear hq)
    | (refine Exists.intro _ (And.intro (fun _ => lay_spec d _ 1 [noTh] (Nat.le_refl _) [] 1 0 (by omega) ⟨k, r, 1⟩ s) ?_))
    | (refine Exists.intro _ (And.intro (lay_spec d _ 1 [noTh] (Nat.le_refl _) [] 1 0 (by omega) ⟨k, r, 1⟩ s) ?_))
    | (refine Exists.intro _ (Exists.intro _ (And.intro (lay_spec d _ 1 [noTh] (Nat.le_refl _) [] 1 0 (by omega) ⟨k, r, 1⟩ s) ?_)))
  refine PCall_use (up_one hf d _ ⟨k, r, 1⟩ [] (by simp) _ _) ?_
  rintro _ _ ⟨rfl, rfl⟩
  repeat' first
    | refine W_seq ?_
    | refine W_block ?_
    | ((first | refine W_region (mu := []) ?_ | (refine W_region_any [] ⟨[], [], [], [], [], [], 0⟩ mixedOrders_ok (by kernel_rfl) ?_; intro nu hn1 hn2) | refine fn_ret ?_ | refine fn_normal ?_ | refine Hold_P ?_ | refine prun_go ?_ | refine drun_go ?_); simp -dsimp only [go_sem, Nat.reduceLT, Nat.reduceLeDiff, Nat.reduceEqDiff, Nat.reduceAdd, Nat.reduceMul, Int.reduceNeg, Nat.reduceBEq, reduceCtorEq, ↓reduceIte])
    | (refine W_cond rfl (fun h => ?_) (fun h => ?_) <;> (try (cases h; done)))
    | refine W_ret ?_
    | refine W_skip ?_
    | refine W_exit ?_
    | refine then_normal ?_
    | refine then_ret ?_
    | refine then_exit ?_
    | refine inBlock_normal ?_
    | refine inBlock_ret ?_
    | refine inBlock_exit ?_
    | refine inBlock_ne (by decide) ?_
    | refine Hold_E ?_
    | (refine And.intro ?_ ?_; omega)
    | ((first | (refine ite_goB (fun h => ?_) (fun h => ?_) <;> (try exact absurd ((h : _ = false).symm.trans (by assumption : _ = true)) (by decide)) <;> (try exact absurd ((by assumption : _ = false).symm.trans (h : _ = true)) (by decide))) | (refine ite_go (fun h => ?_) (fun h => ?_) <;> (try exact absurd h (by assumption)) <;> (try exact absurd (by assumption) h))) <;> (try refine Hold_P ?_) <;> (try simp -dsimp only [h, go_sem, Nat.reduceLT, Nat.reduceLeDiff, Nat.reduceEqDiff, Nat.reduceAdd, Nat.reduceMul, Int.reduceNeg, Nat.reduceBEq, reduceCtorEq, ↓reduceIte]))
    | refine Exists.intro _ (Exists.intro _ (And.intro (And.intro rfl rfl) ?_))
  refine PCall_use (down_one hf d _ ⟨k, r, 1⟩ [] (by simp) _ _) ?_
  rintro _ _ ⟨rfl, rfl⟩
  repeat' first
    | refine W_seq ?_
    | refine W_block ?_
    | ((first | refine W_region (mu := []) ?_ | (refine W_region_any [] ⟨[], [], [], [], [], [], 0⟩ mixedOrders_ok (by kernel_rfl) ?_; intro nu hn1 hn2) | refine fn_ret ?_ | refine fn_normal ?_ | refine Hold_P ?_ | refine prun_go ?_ | refine drun_go ?_); simp -dsimp only [go_sem, Nat.reduceLT, Nat.reduceLeDiff, Nat.reduceEqDiff, Nat.reduceAdd, Nat.reduceMul, Int.reduceNeg, Nat.reduceBEq, reduceCtorEq, ↓reduceIte])
    | (refine W_cond rfl (fun h => ?_) (fun h => ?_) <;> (try (cases h; done)))
    | refine W_ret ?_
    | refine W_skip ?_
    | refine W_exit ?_
    | refine then_normal ?_
    | refine then_ret ?_
    | refine then_exit ?_
    | refine inBlock_normal ?_
    | refine inBlock_ret ?_
    | refine inBlock_exit ?_
    | refine inBlock_ne (by decide) ?_
    | refine Hold_E ?_
    | (refine And.intro ?_ ?_; omega)
    | ((first | (refine ite_goB (fun h => ?_) (fun h => ?_) <;> (try exact absurd ((h : _ = false).symm.trans (by assumption : _ = true)) (by decide)) <;> (try exact absurd ((by assumption : _ = false).symm.trans (h : _ = true)) (by decide))) | (refine ite_go (fun h => ?_) (fun h => ?_) <;> (try exact absurd h (by assumption)) <;> (try exact absurd (by assumption) h))) <;> (try refine Hold_P ?_) <;> (try simp -dsimp only [h, go_sem, Nat.reduceLT, Nat.reduceLeDiff, Nat.reduceEqDiff, Nat.reduceAdd, Nat.reduceMul, Int.reduceNeg, Nat.reduceBEq, reduceCtorEq, ↓reduceIte]))
    | refine Exists.intro _ (Exists.intro _ (And.intro (And.intro rfl rfl) ?_))
  exact ⟨_, Store.Sub.refl _, o, ho, d, by simp [asetM]⟩

/-- Set of a second key, which comes ahead of the first one. -/
theorem set_second (hf : Less fi lt) {s : Store} (d : Apart p m o) (a : Th) (k : Int × Int) (r : ByteArray) (hk : a.k ≠ k) (h1 : ahead lt ⟨k, r, 2⟩ a = true) (h2 : ahead lt a ⟨k, r, 2⟩ = false) :
    PCall Try.prog 32 [.ptr p 0 0, .agg [.int .i64 k.1, .int .i64 k.2], .str r] (hst s p m o (.fn fi []) 1 [a] [(a.k, 0)] 1)
      (fun x t => ∃ o', x = .bool false ∧ s o' = none ∧ Apart p m o' ∧ t = hst (s.drop o) p m o' (.fn fi []) 2 [⟨k, r, 2⟩, a] [(a.k, 1), (k, 0)] 2) := by
  have hw1 : IntKind.i64.wrap ((1 : Int) + 1) = 2 := wrap64_id (by omega) (by omega)
  have hkn : k ≠ a.k := fun e => hk e.symm
  have he := find_es k [(a.k, 0)]
  have hfi : findM k [(a.k, 0)] = none := by unfold findM; rw [if_neg (fun e => hk e.symm)]; rfl
  rw [hfi] at he
  refine PCall_w [.tmp 6] 60 Try.func32 (by rfl) rfl rfl rfl rfl ?_
  repeat' first
    | refine W_seq ?_
    | refine W_block ?_
    | ((first | refine W_region (mu := [34]) ?_ | (refine W_region_any (id := 3) [34] ⟨[3,5], [], [], [], [], [], 0⟩ mixedOrders_ok (by kernel_rfl) ?_; intro nu hn1 hn2) | (refine W_region_any [34] ⟨[], [], [], [], [], [], 0⟩ mixedOrders_ok (by kernel_rfl) ?_; intro nu hn1 hn2) | refine fn_ret ?_ | refine fn_normal ?_ | refine Hold_P ?_ | refine prun_go ?_ | refine drun_go ?_); simp -dsimp only [go_sem, Nat.reduceLT, Nat.reduceLeDiff, Nat.reduceEqDiff, Nat.reduceAdd, Nat.reduceMul, Int.reduceNeg, Nat.reduceBEq, reduceCtorEq, ↓reduceIte, d.rh, d.rm, d.ro, he, all_es, length_things, take_things, things_snoc0])
    | (refine W_cond rfl (fun h => ?_) (fun h => ?_) <;> (try (cases h; done)))
    | refine W_ret ?_
    | refine W_skip ?_
    | refine W_exit ?_
    | refine then_normal ?_
    | refine then_ret ?_
    | refine then_exit ?_
    | refine inBlock_normal ?_
    | refine inBlock_ret ?_
    | refine inBlock_exit ?_
    | refine inBlock_ne (by decide) ?_
    | refine Hold_E ?_
    | (refine And.intro ?_ ?_; omega)
    | ((first | (refine ite_goB (fun h => ?_) (fun h => ?_) <;> (try exact absurd ((h : _ = false).symm.trans (by assumption : _ = true)) (by decide)) <;> (try exact absurd ((by assumption : _ = false).symm.trans (h : _ = true)) (by decide))) | (refine ite_go (fun h => ?_) (fun h => ?_) <;> (try exact absurd h (by assumption)) <;> (try exact absurd (by assumption) h))) <;> (try refine Hold_P ?_) <;> (try simp -dsimp only [h, go_sem, Nat.reduceLT, Nat.reduceLeDiff, Nat.reduceEqDiff, Nat.reduceAdd, Nat.reduceMul, Int.reduceNeg, Nat.reduceBEq, reduceCtorEq, ↓reduceIte, d.rh, d.rm, d.ro, he, all_es, length_things, take_things, things_snoc0]))
    | refine Exists.intro _ (Exists.intro _ (And.intro (And.intro rfl rfl) ?_))
  intro o' ho'
  have l := d.fresh ho'
  have d' : Apart p m o' := ⟨d.hm, fun e => l.h e.symm, fun e => l.m e.symm⟩
  have hso : s o' = none := by rw [← ho', l.rd]
  have hs1 : ∀ x, (((hst s p m o (.fn fi []) 1 [a] [(a.k, 0)] 1).drop o).put o' x) p = some (.arr [.agg [.fn fi [], .ms o 4 0 1, .map m, .int .i64 1]]) := fun x => by rw [put_ne d'.ho, drop_ne d.ho, d.rh]
  have hput : (((hst s p m o (.fn fi []) 1 [a] [(a.k, 0)] 1).drop o).put o' (.arr (things [a, noTh]))).put p (.arr [.agg [.fn fi [], .ms o' 4 0 2, .map m, .int .i64 1]]) = hst (s.drop o) p m o' (.fn fi []) 2 [a, noTh] [(a.k, 0)] 1 := by
    funext q
    simp only [hst, Store.put, Store.drop]
    by_cases e1 : q = o'
    · subst e1; simp [d'.ho]; exact fun h => absurd h.symm d'.ho
    · by_cases e2 : q = m
      · subst e2; simp [e1, d.hm, d.mo]; exact fun h => absurd h.symm d.hm
      · by_cases e3 : q = p
        · subst e3; simp [e1, e2]
        · simp [e1, e2, e3]
          by_cases e4 : q = o
          · simp [e4]
          · simp [e4]
  simp -dsimp only [hs1, hput, go_sem, Nat.reduceLT, Nat.reduceLeDiff, Nat.reduceEqDiff, Nat.reduceAdd, Nat.reduceMul, Int.reduceNeg, Nat.reduceBEq, reduceCtorEq, ↓reduceIte]
  repeat' first
    | refine W_seq ?_
    | refine W_block ?_
    | ((first | refine W_region (mu := []) ?_ | (refine W_region_any (id := 8) [] ⟨[7], [9], [], [], [], [], 0⟩ mixedOrders_ok (by kernel_rfl) ?_; intro nu hn1 hn2) | (refine W_region_any [] ⟨[], [], [], [], [], [], 0⟩ mixedOrders_ok (by kernel_rfl) ?_; intro nu hn1 hn2) | refine fn_ret ?_ | refine fn_normal ?_ | refine Hold_P ?_ | refine prun_go ?_ | refine drun_go ?_); simp -dsimp only [go_sem, Nat.reduceLT, Nat.reduceLeDiff, Nat.reduceEqDiff, Nat.reduceAdd, Nat.reduceMul, Int.reduceNeg, Nat.reduceBEq, reduceCtorEq, ↓reduceIte, d'.rh, d'.rm, d'.ro, d'.wh, hw1])
    | (refine W_cond rfl (fun h => ?_) (fun h => ?_) <;> (try (cases h; done)))
    | refine W_ret ?_
    | refine W_skip ?_
    | refine W_exit ?_
    | refine then_normal ?_
    | refine then_ret ?_
    | refine then_exit ?_
    | refine inBlock_normal ?_
    | refine inBlock_ret ?_
    | refine inBlock_exit ?_
    | refine inBlock_ne (by decide) ?_
    | refine Hold_E ?_
    | (refine And.intro ?_ ?_; omega)
    | ((first | (refine ite_goB (fun h => ?_) (fun h => ?_) <;> (try exact absurd ((h : _ = false).symm.trans (by assumption : _ = true)) (by decide)) <;> (try exact absurd ((by assumption : _ = false).symm.trans (h : _ = true)) (by decide))) | (refine ite_go (fun h => ?_) (fun h => ?_) <;> (try exact absurd h (by assumption)) <;> (try exact absurd (by assumption) h))) <;> (try refine Hold_P ?_) <;> (try simp -dsimp only [h, go_sem, Nat.reduceLT, Nat.reduceLeDiff, Nat.reduceEqDiff, Nat.reduceAdd, Nat.reduceMul, Int.reduceNeg, Nat.reduceBEq, reduceCtorEq, ↓reduceIte, d'.rh, d'.rm, d'.ro, d'.wh, hw1]))
    | refine Exists.intro _ (Exists.intro _ (And.intro (And.intro rfl rfl) ?_))
    | (refine PCall_use (lay_spec d' _ 2 [a, noTh] (by simp) [(a.k, 0)] 2 1 (by omega) ⟨k, r, 2⟩ (s.drop o)) ?_; rintro _ _ ⟨rfl, hq⟩; obtain rfl := hq.symm; clear hq)
    | (refine Exists.intro _ (And.intro (fun _ => lay_spec d' _ 2 [a, noTh] (by simp) [(a.k, 0)] 2 1 (by omega) ⟨k, r, 2⟩ (s.drop o)) ?_))
    | (refine Exists.intro _ (And.intro (lay_spec d' _ 2 [a, noTh] (by simp) [(a.k, 0)] 2 1 (by omega) ⟨k, r, 2⟩ (s.drop o)) ?_))
    | (refine Exists.intro _ (Exists.intro _ (And.intro (lay_spec d' _ 2 [a, noTh] (by simp) [(a.k, 0)] 2 1 (by omega) ⟨k, r, 2⟩ (s.drop o)) ?_)))
  have e1 : asetM k 1 [(a.k, 0)] = [(a.k, 0), (k, 1)] := by simp [asetM, hkn]
  have e2 : asetM a.k 1 [(a.k, 0), (k, 1)] = [(a.k, 1), (k, 1)] := by simp [asetM]
  have e3 : asetM k 0 [(a.k, 1), (k, 1)] = [(a.k, 1), (k, 0)] := by simp [asetM, hkn]
  have e4 : asetM k 0 [(a.k, 1), (k, 0)] = [(a.k, 1), (k, 0)] := by simp [asetM, hkn]

  rw [e1]
  refine PCall_use ((up_spec hf d' 2 2 ⟨k, r, 2⟩ (fun ls em i => (ls = [a, ⟨k, r, 2⟩] ∧ em = [(a.k, 0), (k, 1)] ∧ i = 1) ∨ (ls = [a, a] ∧ em = [(a.k, 1), (k, 1)] ∧ i = 0)) ?_ ?_ [a, ⟨k, r, 2⟩] _ 1 rfl (.inl ⟨rfl, rfl, rfl⟩) (s.drop o)).mono (fun x t => (?_ : _ → x = .int .i64 0 ∧ t = hst (s.drop o) p m o' (.fn fi []) 2 [⟨k, r, 2⟩, a] [(a.k, 1), (k, 0)] 2))) ?_
  · rintro ls em i (⟨rfl, rfl, rfl⟩ | ⟨rfl, rfl, rfl⟩) <;> exact ⟨by omega, by simp, by simp⟩
  · rintro ls em i (⟨rfl, rfl, rfl⟩ | ⟨rfl, rfl, rfl⟩) hi hh
    · exact .inr ⟨rfl, e2, rfl⟩
    · omega
  · rintro ⟨ls', em', i', (⟨rfl, rfl, rfl⟩ | ⟨rfl, rfl, rfl⟩), hh, rfl, rfl⟩
    · rcases hh with hh | hh
      · omega
      · have : ahead lt (⟨k, r, 2⟩ : Th) a = false := hh
        rw [h1] at this; cases this
    · rw [show (⟨k, r, 2⟩ : Th).k = k from rfl, e3]; exact ⟨rfl, rfl⟩
  rintro _ _ ⟨rfl, rfl⟩
  repeat' first
    | refine W_seq ?_
    | refine W_block ?_
    | ((first | refine W_region (mu := []) ?_ | (refine W_region_any [] ⟨[], [], [], [], [], [], 0⟩ mixedOrders_ok (by kernel_rfl) ?_; intro nu hn1 hn2) | refine fn_ret ?_ | refine fn_normal ?_ | refine Hold_P ?_ | refine prun_go ?_ | refine drun_go ?_); simp -dsimp only [go_sem, Nat.reduceLT, Nat.reduceLeDiff, Nat.reduceEqDiff, Nat.reduceAdd, Nat.reduceMul, Int.reduceNeg, Nat.reduceBEq, reduceCtorEq, ↓reduceIte])
    | (refine W_cond rfl (fun h => ?_) (fun h => ?_) <;> (try (cases h; done)))
    | refine W_ret ?_
    | refine W_skip ?_
    | refine W_exit ?_
    | refine then_normal ?_
    | refine then_ret ?_
    | refine then_exit ?_
    | refine inBlock_normal ?_
    | refine inBlock_ret ?_
    | refine inBlock_exit ?_
    | refine inBlock_ne (by decide) ?_
    | refine Hold_E ?_
    | (refine And.intro ?_ ?_; omega)
    | ((first | (refine ite_goB (fun h => ?_) (fun h => ?_) <;> (try exact absurd ((h : _ = false).symm.trans (by assumption : _ = true)) (by decide)) <;> (try exact absurd ((by assumption : _ = false).symm.trans (h : _ = true)) (by decide))) | (refine ite_go (fun h => ?_) (fun h => ?_) <;> (try exact absurd h (by assumption)) <;> (try exact absurd (by assumption) h))) <;> (try refine Hold_P ?_) <;> (try simp -dsimp only [h, go_sem, Nat.reduceLT, Nat.reduceLeDiff, Nat.reduceEqDiff, Nat.reduceAdd, Nat.reduceMul, Int.reduceNeg, Nat.reduceBEq, reduceCtorEq, ↓reduceIte]))
    | refine Exists.intro _ (Exists.intro _ (And.intro (And.intro rfl rfl) ?_))
  refine PCall_use ((down_spec hf d' 2 2 ⟨k, r, 2⟩ (fun ls em i => ls = [⟨k, r, 2⟩, a] ∧ em = [(a.k, 1), (k, 0)] ∧ i = 0) ?_ ?_ [⟨k, r, 2⟩, a] _ 0 rfl ⟨rfl, rfl, rfl⟩ (s.drop o)).mono (fun x t => (?_ : _ → x = .tup [] ∧ t = hst (s.drop o) p m o' (.fn fi []) 2 [⟨k, r, 2⟩, a] [(a.k, 1), (k, 0)] 2))) ?_
  · rintro ls em i ⟨rfl, rfl, rfl⟩; exact ⟨by omega, by simp, by simp⟩
  · rintro ls em i ⟨rfl, rfl, rfl⟩ hi hh
    have : ahead lt a (⟨k, r, 2⟩ : Th) = true := hh
    rw [h2] at this; cases this
  · rintro ⟨ls', em', i', ⟨rfl, rfl, rfl⟩, hh, rfl, rfl⟩
    rw [show (⟨k, r, 2⟩ : Th).k = k from rfl, e4]; exact ⟨rfl, rfl⟩
  rintro _ _ ⟨rfl, rfl⟩
  repeat' first
    | refine W_seq ?_
    | refine W_block ?_
    | ((first | refine W_region (mu := []) ?_ | (refine W_region_any [] ⟨[], [], [], [], [], [], 0⟩ mixedOrders_ok (by kernel_rfl) ?_; intro nu hn1 hn2) | refine fn_ret ?_ | refine fn_normal ?_ | refine Hold_P ?_ | refine prun_go ?_ | refine drun_go ?_); simp -dsimp only [go_sem, Nat.reduceLT, Nat.reduceLeDiff, Nat.reduceEqDiff, Nat.reduceAdd, Nat.reduceMul, Int.reduceNeg, Nat.reduceBEq, reduceCtorEq, ↓reduceIte])
    | (refine W_cond rfl (fun h => ?_) (fun h => ?_) <;> (try (cases h; done)))
    | refine W_ret ?_
    | refine W_skip ?_
    | refine W_exit ?_
    | refine then_normal ?_
    | refine then_ret ?_
    | refine then_exit ?_
    | refine inBlock_normal ?_
    | refine inBlock_ret ?_
    | refine inBlock_exit ?_
    | refine inBlock_ne (by decide) ?_
    | refine Hold_E ?_
    | (refine And.intro ?_ ?_; omega)
    | ((first | (refine ite_goB (fun h => ?_) (fun h => ?_) <;> (try exact absurd ((h : _ = false).symm.trans (by assumption : _ = true)) (by decide)) <;> (try exact absurd ((by assumption : _ = false).symm.trans (h : _ = true)) (by decide))) | (refine ite_go (fun h => ?_) (fun h => ?_) <;> (try exact absurd h (by assumption)) <;> (try exact absurd (by assumption) h))) <;> (try refine Hold_P ?_) <;> (try simp -dsimp only [h, go_sem, Nat.reduceLT, Nat.reduceLeDiff, Nat.reduceEqDiff, Nat.reduceAdd, Nat.reduceMul, Int.reduceNeg, Nat.reduceBEq, reduceCtorEq, ↓reduceIte]))
    | refine Exists.intro _ (Exists.intro _ (And.intro (And.intro rfl rfl) ?_))
  exact ⟨_, Store.Sub.refl _, o', hso, d', rfl⟩

theorem len_spec (d : Apart p m o) (n : Nat) (ls : List Th) (em : EM) (w : Int) (f : AV) (s : Store) :
    PCall Try.prog 34 [.ptr p 0 0] (hst s p m o f n ls em w) (fun r t => r = .int .i64 n ∧ t = hst s p m o f n ls em w) := by
  refine PCall_q [.tmp 2] 10 Try.func34 (by rfl) rfl rfl rfl rfl ?_
  repeat' first
    | refine W_seq ?_
    | refine W_block ?_
    | ((first | refine W_region (mu := []) ?_ | (refine W_region_any [] ⟨[], [], [], [], [], [], 0⟩ mixedOrders_ok (by kernel_rfl) ?_; intro nu hn1 hn2) | refine fn_ret ?_ | refine fn_normal ?_ | refine Hold_P ?_ | refine prun_go ?_ | refine drun_go ?_); simp -dsimp only [go_sem, Nat.reduceLT, Nat.reduceLeDiff, Nat.reduceEqDiff, Nat.reduceAdd, Nat.reduceMul, Int.reduceNeg, Nat.reduceBEq, reduceCtorEq, ↓reduceIte, d.rh])
    | (refine W_cond rfl (fun h => ?_) (fun h => ?_) <;> (try (cases h; done)))
    | refine W_ret ?_
    | refine W_skip ?_
    | refine W_exit ?_
    | refine then_normal ?_
    | refine then_ret ?_
    | refine then_exit ?_
    | refine inBlock_normal ?_
    | refine inBlock_ret ?_
    | refine inBlock_exit ?_
    | refine inBlock_ne (by decide) ?_
    | refine Hold_E ?_
    | (refine And.intro ?_ ?_; omega)
    | ((first | (refine ite_goB (fun h => ?_) (fun h => ?_) <;> (try exact absurd ((h : _ = false).symm.trans (by assumption : _ = true)) (by decide)) <;> (try exact absurd ((by assumption : _ = false).symm.trans (h : _ = true)) (by decide))) | (refine ite_go (fun h => ?_) (fun h => ?_) <;> (try exact absurd h (by assumption)) <;> (try exact absurd (by assumption) h))) <;> (try refine Hold_P ?_) <;> (try simp -dsimp only [h, go_sem, Nat.reduceLT, Nat.reduceLeDiff, Nat.reduceEqDiff, Nat.reduceAdd, Nat.reduceMul, Int.reduceNeg, Nat.reduceBEq, reduceCtorEq, ↓reduceIte, d.rh]))
    | refine Exists.intro _ (Exists.intro _ (And.intro (And.intro rfl rfl) ?_))

theorem first_two (d : Apart p m o) (b a : Th) (em : EM) (w : Int) (f : AV) (s : Store) :
    PCall Try.prog 43 [.ptr p 0 0] (hst s p m o f 2 [b, a] em w) (fun r t => r = .tup [.agg [.int .i64 b.k.1, .int .i64 b.k.2], .str b.r, .bool true] ∧ t = hst s p m o f 2 [b, a] em w) := by
  have g0 := get_things (l := [b, a]) (i := 0) (by simp)
  have hg : ([b, a] : List Th).getD 0 noTh = b := rfl
  have n02 : ((0 : Int) < ((2 : Nat) : Int)) = True := by simp
  rw [hg] at g0
  refine PCall_q [.cell 2 58, .tmp 3, .tmp 4] 34 Try.func43 (by rfl) rfl rfl rfl rfl ?_
  repeat' first
    | refine W_seq ?_
    | refine W_block ?_
    | ((first | refine W_region (mu := []) ?_ | (refine W_region_any [] ⟨[], [], [], [], [], [], 0⟩ mixedOrders_ok (by kernel_rfl) ?_; intro nu hn1 hn2) | refine fn_ret ?_ | refine fn_normal ?_ | refine Hold_P ?_ | refine prun_go ?_ | refine drun_go ?_); simp -dsimp only [go_sem, Nat.reduceLT, Nat.reduceLeDiff, Nat.reduceEqDiff, Nat.reduceAdd, Nat.reduceMul, Int.reduceNeg, Nat.reduceBEq, reduceCtorEq, ↓reduceIte])
    | (refine W_cond rfl (fun h => ?_) (fun h => ?_) <;> (try (cases h; done)))
    | refine W_ret ?_
    | refine W_skip ?_
    | refine W_exit ?_
    | refine then_normal ?_
    | refine then_ret ?_
    | refine then_exit ?_
    | refine inBlock_normal ?_
    | refine inBlock_ret ?_
    | refine inBlock_exit ?_
    | refine inBlock_ne (by decide) ?_
    | refine Hold_E ?_
    | (refine And.intro ?_ ?_; omega)
    | ((first | (refine ite_goB (fun h => ?_) (fun h => ?_) <;> (try exact absurd ((h : _ = false).symm.trans (by assumption : _ = true)) (by decide)) <;> (try exact absurd ((by assumption : _ = false).symm.trans (h : _ = true)) (by decide))) | (refine ite_go (fun h => ?_) (fun h => ?_) <;> (try exact absurd h (by assumption)) <;> (try exact absurd (by assumption) h))) <;> (try refine Hold_P ?_) <;> (try simp -dsimp only [h, go_sem, Nat.reduceLT, Nat.reduceLeDiff, Nat.reduceEqDiff, Nat.reduceAdd, Nat.reduceMul, Int.reduceNeg, Nat.reduceBEq, reduceCtorEq, ↓reduceIte]))
    | refine Exists.intro _ (Exists.intro _ (And.intro (And.intro rfl rfl) ?_))
  intro o1 ho1
  have l1 := d.fresh ho1
  have q1 : s o1 = none := by rw [← ho1, l1.rd]
  rw [l1.wr]
  repeat' first
    | refine W_seq ?_
    | refine W_block ?_
    | ((first | refine W_region (mu := []) ?_ | (refine W_region_any (id := 3) [] ⟨[1,3], [], [], [], [], [], 0⟩ mixedOrders_ok (by kernel_rfl) ?_; intro nu hn1 hn2) | (refine W_region_late (id := 4) [] ⟨[3,6,10,13], [14], [], [], [], [14], o1⟩ mixedOrders_ok (by kernel_rfl) ?_ ?_; (simp only [put_same, Option.some.injEq, exists_eq', d.rh, d.ro, l1.rd, l1.wr, put_same, splice, g0, n02]); intro nu) | (refine W_region_any [] ⟨[], [], [], [], [], [], 0⟩ mixedOrders_ok (by kernel_rfl) ?_; intro nu hn1 hn2) | refine fn_ret ?_ | refine fn_normal ?_ | refine Hold_P ?_ | refine prun_go ?_ | refine drun_go ?_); simp -dsimp only [go_sem, Nat.reduceLT, Nat.reduceLeDiff, Nat.reduceEqDiff, Nat.reduceAdd, Nat.reduceMul, Int.reduceNeg, Nat.reduceBEq, reduceCtorEq, ↓reduceIte, d.rh, d.ro, l1.rd, l1.wr, put_same, splice, g0, n02])
    | (refine W_cond rfl (fun h => ?_) (fun h => ?_) <;> (try (cases h; done)))
    | refine W_ret ?_
    | refine W_skip ?_
    | refine W_exit ?_
    | refine then_normal ?_
    | refine then_ret ?_
    | refine then_exit ?_
    | refine inBlock_normal ?_
    | refine inBlock_ret ?_
    | refine inBlock_exit ?_
    | refine inBlock_ne (by decide) ?_
    | refine Hold_E ?_
    | (refine And.intro ?_ ?_; omega)
    | ((first | (refine ite_goB (fun h => ?_) (fun h => ?_) <;> (try exact absurd ((h : _ = false).symm.trans (by assumption : _ = true)) (by decide)) <;> (try exact absurd ((by assumption : _ = false).symm.trans (h : _ = true)) (by decide))) | (refine ite_go (fun h => ?_) (fun h => ?_) <;> (try exact absurd h (by assumption)) <;> (try exact absurd (by assumption) h))) <;> (try refine Hold_P ?_) <;> (try simp -dsimp only [h, go_sem, Nat.reduceLT, Nat.reduceLeDiff, Nat.reduceEqDiff, Nat.reduceAdd, Nat.reduceMul, Int.reduceNeg, Nat.reduceBEq, reduceCtorEq, ↓reduceIte, d.rh, d.ro, l1.rd, l1.wr, put_same, splice, g0, n02]))
    | refine Exists.intro _ (Exists.intro _ (And.intro (And.intro rfl rfl) ?_))
  exact hst_sub (Sub_put (Store.Sub.refl _) q1 _) _ _ _ _ _ _ _ _

/-- Drop of the first of two. -/
theorem drop_two (hf : Less fi lt) (d : Apart p m o) (b a : Th) (hk : a.k ≠ b.k) (w : Int) (s : Store) :
    PCall Try.prog 44 [.ptr p 0 0, .agg [.int .i64 b.k.1, .int .i64 b.k.2]] (hst s p m o (.fn fi []) 2 [b, a] [(a.k, 1), (b.k, 0)] w)
      (fun x t => x = .bool true ∧ ∃ em s', s.Sub s' ∧ t = hst s' p m o (.fn fi []) 1 [a, noTh] em w) := by
  have he := find_es b.k [(a.k, 1), (b.k, 0)]
  have hfi : findM b.k [(a.k, 1), (b.k, 0)] = some 0 := by unfold findM; rw [if_neg (fun e => hk e.symm)]; simp [findM]
  rw [hfi] at he
  have hw1 : IntKind.i64.wrap (((2 : Nat) : Int) - 1) = ((1 : Nat) : Int) := wrap64_id (by omega) (by omega)
  have g0 := get_things (l := [b, a]) (i := 1) (by simp)
  have hg : ([b, a] : List Th).getD 1 noTh = a := rfl
  rw [hg] at g0
  have n12 : (((1 : Nat) : Int) < ((2 : Nat) : Int)) = True := by simp
  have n12' : (((1 : Nat) : Int) ≤ ((2 : Nat) : Int)) = True := by simp
  have n01' : decide (((0 : Nat) : Int) < ((1 : Nat) : Int)) = true := by simp
  have n01 : ((0 : Int) < ((1 : Nat) : Int)) = True := by simp
  have hst0 := set_things [b, a] 1 (0, 0) ⟨#[]⟩ 0
  refine PCall_w [.tmp 4] 68 Try.func44 (by rfl) rfl rfl rfl rfl ?_
  repeat' first
    | refine W_seq ?_
    | refine W_block ?_
    | ((first | refine W_region (mu := []) ?_ | (refine W_region_any (id := 3) [] ⟨[3,5], [], [], [], [], [], 0⟩ mixedOrders_ok (by kernel_rfl) ?_; intro nu hn1 hn2) | (refine W_region_any [] ⟨[], [], [], [], [], [], 0⟩ mixedOrders_ok (by kernel_rfl) ?_; intro nu hn1 hn2) | refine fn_ret ?_ | refine fn_normal ?_ | refine Hold_P ?_ | refine prun_go ?_ | refine drun_go ?_); simp -dsimp only [go_sem, Nat.reduceLT, Nat.reduceLeDiff, Nat.reduceEqDiff, Nat.reduceAdd, Nat.reduceMul, Int.reduceNeg, Nat.reduceBEq, reduceCtorEq, ↓reduceIte, d.rh, d.rm, d.ro, he, all_es, hw1, g0, n12, n01])
    | (refine W_cond rfl (fun h => ?_) (fun h => ?_) <;> (try (cases h; done)))
    | refine W_ret ?_
    | refine W_skip ?_
    | refine W_exit ?_
    | refine then_normal ?_
    | refine then_ret ?_
    | refine then_exit ?_
    | refine inBlock_normal ?_
    | refine inBlock_ret ?_
    | refine inBlock_exit ?_
    | refine inBlock_ne (by decide) ?_
    | refine Hold_E ?_
    | (refine And.intro ?_ ?_; omega)
    | ((first | (refine ite_goB (fun h => ?_) (fun h => ?_) <;> (try exact absurd ((h : _ = false).symm.trans (by assumption : _ = true)) (by decide)) <;> (try exact absurd ((by assumption : _ = false).symm.trans (h : _ = true)) (by decide))) | (refine ite_go (fun h => ?_) (fun h => ?_) <;> (try exact absurd h (by assumption)) <;> (try exact absurd (by assumption) h))) <;> (try refine Hold_P ?_) <;> (try simp -dsimp only [h, go_sem, Nat.reduceLT, Nat.reduceLeDiff, Nat.reduceEqDiff, Nat.reduceAdd, Nat.reduceMul, Int.reduceNeg, Nat.reduceBEq, reduceCtorEq, ↓reduceIte, d.rh, d.rm, d.ro, he, all_es, hw1, g0, n12, n01]))
    | refine Exists.intro _ (Exists.intro _ (And.intro (And.intro rfl rfl) ?_))
  intro o1 ho1
  have l := d.fresh ho1
  have hso : s o1 = none := by rw [← ho1, l.rd]
  rw [l.wr]
  have hnn : ([b, a] : List Th).set 1 ⟨(0, 0), ⟨#[]⟩, 0⟩ = [b, noTh] := rfl
  rw [hnn] at hst0
  have hsub : s.Sub (s.put o1 (.arr [.agg [.int .i64 a.k.1, .int .i64 a.k.2, .str a.r, .int .i64 a.w]])) := Sub_put (Store.Sub.refl _) hso _
  repeat' first
    | refine W_seq ?_
    | refine W_block ?_
    | ((first | refine W_region (mu := []) ?_ | (refine W_region_any (id := 10) [] ⟨[3], [5], [], [], [], [], 0⟩ mixedOrders_ok (by kernel_rfl) ?_; intro nu hn1 hn2) | (refine W_region_any [] ⟨[], [], [], [], [], [], 0⟩ mixedOrders_ok (by kernel_rfl) ?_; intro nu hn1 hn2) | refine fn_ret ?_ | refine fn_normal ?_ | refine Hold_P ?_ | refine prun_go ?_ | refine drun_go ?_); simp -dsimp only [go_sem, Nat.reduceLT, Nat.reduceLeDiff, Nat.reduceEqDiff, Nat.reduceAdd, Nat.reduceMul, Int.reduceNeg, Nat.reduceBEq, reduceCtorEq, ↓reduceIte, d.rh, d.rm, d.ro, d.wh, d.wm, d.wo, l.rd, l.wr, g0, hst0, adelA_es, all_es, hw1, n12, n12', n01, n01', Nat.sub_zero, splice])
    | (refine W_cond rfl (fun h => ?_) (fun h => ?_) <;> (try (cases h; done)))
    | refine W_ret ?_
    | refine W_skip ?_
    | refine W_exit ?_
    | refine then_normal ?_
    | refine then_ret ?_
    | refine then_exit ?_
    | refine inBlock_normal ?_
    | refine inBlock_ret ?_
    | refine inBlock_exit ?_
    | refine inBlock_ne (by decide) ?_
    | refine Hold_E ?_
    | (refine And.intro ?_ ?_; omega)
    | ((first | (refine ite_goB (fun h => ?_) (fun h => ?_) <;> (try exact absurd ((h : _ = false).symm.trans (by assumption : _ = true)) (by decide)) <;> (try exact absurd ((by assumption : _ = false).symm.trans (h : _ = true)) (by decide))) | (refine ite_go (fun h => ?_) (fun h => ?_) <;> (try exact absurd h (by assumption)) <;> (try exact absurd (by assumption) h))) <;> (try refine Hold_P ?_) <;> (try simp -dsimp only [h, go_sem, Nat.reduceLT, Nat.reduceLeDiff, Nat.reduceEqDiff, Nat.reduceAdd, Nat.reduceMul, Int.reduceNeg, Nat.reduceBEq, reduceCtorEq, ↓reduceIte, d.rh, d.rm, d.ro, d.wh, d.wm, d.wo, l.rd, l.wr, g0, hst0, adelA_es, all_es, hw1, n12, n12', n01, n01', Nat.sub_zero, splice]))
    | refine Exists.intro _ (Exists.intro _ (And.intro (And.intro rfl rfl) ?_))
    | (refine PCall_use (lay_spec d _ 1 [b, noTh] (by simp) (adelM b.k [(a.k, 1), (b.k, 0)]) w 0 (by omega) a _) ?_; rintro _ _ ⟨rfl, hq⟩; obtain rfl := hq.symm; clear hq)
    | (refine Exists.intro _ (And.intro (fun _ => lay_spec d _ 1 [b, noTh] (by simp) (adelM b.k [(a.k, 1), (b.k, 0)]) w 0 (by omega) a _) ?_))
    | (refine Exists.intro _ (And.intro (lay_spec d _ 1 [b, noTh] (by simp) (adelM b.k [(a.k, 1), (b.k, 0)]) w 0 (by omega) a _) ?_))
    | (refine Exists.intro _ (Exists.intro _ (And.intro (lay_spec d _ 1 [b, noTh] (by simp) (adelM b.k [(a.k, 1), (b.k, 0)]) w 0 (by omega) a _) ?_)))
  refine PCall_use (up_one hf d _ a [noTh] (by simp) _ _) ?_
  rintro _ _ ⟨rfl, rfl⟩
  repeat' first
    | refine W_seq ?_
    | refine W_block ?_
    | ((first | refine W_region (mu := []) ?_ | (refine W_region_any [] ⟨[], [], [], [], [], [], 0⟩ mixedOrders_ok (by kernel_rfl) ?_; intro nu hn1 hn2) | refine fn_ret ?_ | refine fn_normal ?_ | refine Hold_P ?_ | refine prun_go ?_ | refine drun_go ?_); simp -dsimp only [go_sem, Nat.reduceLT, Nat.reduceLeDiff, Nat.reduceEqDiff, Nat.reduceAdd, Nat.reduceMul, Int.reduceNeg, Nat.reduceBEq, reduceCtorEq, ↓reduceIte])
    | (refine W_cond rfl (fun h => ?_) (fun h => ?_) <;> (try (cases h; done)))
    | refine W_ret ?_
    | refine W_skip ?_
    | refine W_exit ?_
    | refine then_normal ?_
    | refine then_ret ?_
    | refine then_exit ?_
    | refine inBlock_normal ?_
    | refine inBlock_ret ?_
    | refine inBlock_exit ?_
    | refine inBlock_ne (by decide) ?_
    | refine Hold_E ?_
    | (refine And.intro ?_ ?_; omega)
    | ((first | (refine ite_goB (fun h => ?_) (fun h => ?_) <;> (try exact absurd ((h : _ = false).symm.trans (by assumption : _ = true)) (by decide)) <;> (try exact absurd ((by assumption : _ = false).symm.trans (h : _ = true)) (by decide))) | (refine ite_go (fun h => ?_) (fun h => ?_) <;> (try exact absurd h (by assumption)) <;> (try exact absurd (by assumption) h))) <;> (try refine Hold_P ?_) <;> (try simp -dsimp only [h, go_sem, Nat.reduceLT, Nat.reduceLeDiff, Nat.reduceEqDiff, Nat.reduceAdd, Nat.reduceMul, Int.reduceNeg, Nat.reduceBEq, reduceCtorEq, ↓reduceIte]))
    | refine Exists.intro _ (Exists.intro _ (And.intro (And.intro rfl rfl) ?_))
  refine PCall_use (down_one hf d _ a [noTh] (by simp) _ _) ?_
  rintro _ _ ⟨rfl, rfl⟩
  repeat' first
    | refine W_seq ?_
    | refine W_block ?_
    | ((first | refine W_region (mu := []) ?_ | (refine W_region_any [] ⟨[], [], [], [], [], [], 0⟩ mixedOrders_ok (by kernel_rfl) ?_; intro nu hn1 hn2) | refine fn_ret ?_ | refine fn_normal ?_ | refine Hold_P ?_ | refine prun_go ?_ | refine drun_go ?_); simp -dsimp only [go_sem, Nat.reduceLT, Nat.reduceLeDiff, Nat.reduceEqDiff, Nat.reduceAdd, Nat.reduceMul, Int.reduceNeg, Nat.reduceBEq, reduceCtorEq, ↓reduceIte])
    | (refine W_cond rfl (fun h => ?_) (fun h => ?_) <;> (try (cases h; done)))
    | refine W_ret ?_
    | refine W_skip ?_
    | refine W_exit ?_
    | refine then_normal ?_
    | refine then_ret ?_
    | refine then_exit ?_
    | refine inBlock_normal ?_
    | refine inBlock_ret ?_
    | refine inBlock_exit ?_
    | refine inBlock_ne (by decide) ?_
    | refine Hold_E ?_
    | (refine And.intro ?_ ?_; omega)
    | ((first | (refine ite_goB (fun h => ?_) (fun h => ?_) <;> (try exact absurd ((h : _ = false).symm.trans (by assumption : _ = true)) (by decide)) <;> (try exact absurd ((by assumption : _ = false).symm.trans (h : _ = true)) (by decide))) | (refine ite_go (fun h => ?_) (fun h => ?_) <;> (try exact absurd h (by assumption)) <;> (try exact absurd (by assumption) h))) <;> (try refine Hold_P ?_) <;> (try simp -dsimp only [h, go_sem, Nat.reduceLT, Nat.reduceLeDiff, Nat.reduceEqDiff, Nat.reduceAdd, Nat.reduceMul, Int.reduceNeg, Nat.reduceBEq, reduceCtorEq, ↓reduceIte]))
    | refine Exists.intro _ (Exists.intro _ (And.intro (And.intro rfl rfl) ?_))
  exact ⟨_, Store.Sub.refl _, _, _, hsub, rfl⟩

theorem pop_two (hf : Less fi lt) (d : Apart p m o) (b a : Th) (hk : a.k ≠ b.k) (w : Int) (s : Store) :
    PCall Try.prog 33 [.ptr p 0 0] (hst s p m o (.fn fi []) 2 [b, a] [(a.k, 1), (b.k, 0)] w)
      (fun x t => x = .tup [.agg [.int .i64 b.k.1, .int .i64 b.k.2], .str b.r, .bool true] ∧ ∃ em s', s.Sub s' ∧ t = hst s' p m o (.fn fi []) 1 [a, noTh] em w) := by
  refine PCall_w [.cell 2 58, .tmp 3, .tmp 4] 21 Try.func33 (by rfl) rfl rfl rfl rfl ?_
  repeat' first
    | refine W_seq ?_
    | refine W_block ?_
    | ((first | refine W_region (mu := []) ?_ | (refine W_region_any [] ⟨[], [], [], [], [], [], 0⟩ mixedOrders_ok (by kernel_rfl) ?_; intro nu hn1 hn2) | refine fn_ret ?_ | refine fn_normal ?_ | refine Hold_P ?_ | refine prun_go ?_ | refine drun_go ?_); simp -dsimp only [go_sem, Nat.reduceLT, Nat.reduceLeDiff, Nat.reduceEqDiff, Nat.reduceAdd, Nat.reduceMul, Int.reduceNeg, Nat.reduceBEq, reduceCtorEq, ↓reduceIte])
    | (refine W_cond rfl (fun h => ?_) (fun h => ?_) <;> (try (cases h; done)))
    | refine W_ret ?_
    | refine W_skip ?_
    | refine W_exit ?_
    | refine then_normal ?_
    | refine then_ret ?_
    | refine then_exit ?_
    | refine inBlock_normal ?_
    | refine inBlock_ret ?_
    | refine inBlock_exit ?_
    | refine inBlock_ne (by decide) ?_
    | refine Hold_E ?_
    | (refine And.intro ?_ ?_; omega)
    | ((first | (refine ite_goB (fun h => ?_) (fun h => ?_) <;> (try exact absurd ((h : _ = false).symm.trans (by assumption : _ = true)) (by decide)) <;> (try exact absurd ((by assumption : _ = false).symm.trans (h : _ = true)) (by decide))) | (refine ite_go (fun h => ?_) (fun h => ?_) <;> (try exact absurd h (by assumption)) <;> (try exact absurd (by assumption) h))) <;> (try refine Hold_P ?_) <;> (try simp -dsimp only [h, go_sem, Nat.reduceLT, Nat.reduceLeDiff, Nat.reduceEqDiff, Nat.reduceAdd, Nat.reduceMul, Int.reduceNeg, Nat.reduceBEq, reduceCtorEq, ↓reduceIte]))
    | refine Exists.intro _ (Exists.intro _ (And.intro (And.intro rfl rfl) ?_))
  intro o1 ho1
  have l1 := d.fresh ho1
  have q1 : s o1 = none := by rw [← ho1, l1.rd]
  rw [l1.wr]
  repeat' first
    | refine W_seq ?_
    | refine W_block ?_
    | ((first | refine W_region (mu := []) ?_ | (refine W_region_any [] ⟨[], [], [], [], [], [], 0⟩ mixedOrders_ok (by kernel_rfl) ?_; intro nu hn1 hn2) | refine fn_ret ?_ | refine fn_normal ?_ | refine Hold_P ?_ | refine prun_go ?_ | refine drun_go ?_); simp -dsimp only [go_sem, Nat.reduceLT, Nat.reduceLeDiff, Nat.reduceEqDiff, Nat.reduceAdd, Nat.reduceMul, Int.reduceNeg, Nat.reduceBEq, reduceCtorEq, ↓reduceIte])
    | (refine W_cond rfl (fun h => ?_) (fun h => ?_) <;> (try (cases h; done)))
    | refine W_ret ?_
    | refine W_skip ?_
    | refine W_exit ?_
    | refine then_normal ?_
    | refine then_ret ?_
    | refine then_exit ?_
    | refine inBlock_normal ?_
    | refine inBlock_ret ?_
    | refine inBlock_exit ?_
    | refine inBlock_ne (by decide) ?_
    | refine Hold_E ?_
    | (refine And.intro ?_ ?_; omega)
    | ((first | (refine ite_goB (fun h => ?_) (fun h => ?_) <;> (try exact absurd ((h : _ = false).symm.trans (by assumption : _ = true)) (by decide)) <;> (try exact absurd ((by assumption : _ = false).symm.trans (h : _ = true)) (by decide))) | (refine ite_go (fun h => ?_) (fun h => ?_) <;> (try exact absurd h (by assumption)) <;> (try exact absurd (by assumption) h))) <;> (try refine Hold_P ?_) <;> (try simp -dsimp only [h, go_sem, Nat.reduceLT, Nat.reduceLeDiff, Nat.reduceEqDiff, Nat.reduceAdd, Nat.reduceMul, Int.reduceNeg, Nat.reduceBEq, reduceCtorEq, ↓reduceIte]))
    | refine Exists.intro _ (Exists.intro _ (And.intro (And.intro rfl rfl) ?_))
    | (refine PCall_use (first_two d b a _ _ _ _) ?_; rintro _ _ ⟨rfl, hq⟩; obtain rfl := hq.symm; clear hq)
    | (refine Exists.intro _ (And.intro (fun _ => first_two d b a _ _ _ _) ?_))
    | (refine Exists.intro _ (And.intro (first_two d b a _ _ _ _) ?_))
    | (refine Exists.intro _ (Exists.intro _ (And.intro (first_two d b a _ _ _ _) ?_)))
  intro o2 ho2
  have l2 := d.fresh ho2
  have q2 : (s.put o1 (.arr [.agg [.int .i64 0, .int .i64 0]])) o2 = none := by rw [← ho2, l2.rd]
  have h21 := fresh_ne q2
  rw [l2.wr]
  repeat' first
    | refine W_seq ?_
    | refine W_block ?_
    | ((first | refine W_region (mu := []) ?_ | (refine W_region_any [] ⟨[], [], [], [], [], [], 0⟩ mixedOrders_ok (by kernel_rfl) ?_; intro nu hn1 hn2) | refine fn_ret ?_ | refine fn_normal ?_ | refine Hold_P ?_ | refine prun_go ?_ | refine drun_go ?_); simp -dsimp only [go_sem, Nat.reduceLT, Nat.reduceLeDiff, Nat.reduceEqDiff, Nat.reduceAdd, Nat.reduceMul, Int.reduceNeg, Nat.reduceBEq, reduceCtorEq, ↓reduceIte, d.rh, d.rm, d.ro, l2.rd, l2.wr, put_same, splice])
    | (refine W_cond rfl (fun h => ?_) (fun h => ?_) <;> (try (cases h; done)))
    | refine W_ret ?_
    | refine W_skip ?_
    | refine W_exit ?_
    | refine then_normal ?_
    | refine then_ret ?_
    | refine then_exit ?_
    | refine inBlock_normal ?_
    | refine inBlock_ret ?_
    | refine inBlock_exit ?_
    | refine inBlock_ne (by decide) ?_
    | refine Hold_E ?_
    | (refine And.intro ?_ ?_; omega)
    | ((first | (refine ite_goB (fun h => ?_) (fun h => ?_) <;> (try exact absurd ((h : _ = false).symm.trans (by assumption : _ = true)) (by decide)) <;> (try exact absurd ((by assumption : _ = false).symm.trans (h : _ = true)) (by decide))) | (refine ite_go (fun h => ?_) (fun h => ?_) <;> (try exact absurd h (by assumption)) <;> (try exact absurd (by assumption) h))) <;> (try refine Hold_P ?_) <;> (try simp -dsimp only [h, go_sem, Nat.reduceLT, Nat.reduceLeDiff, Nat.reduceEqDiff, Nat.reduceAdd, Nat.reduceMul, Int.reduceNeg, Nat.reduceBEq, reduceCtorEq, ↓reduceIte, d.rh, d.rm, d.ro, l2.rd, l2.wr, put_same, splice]))
    | refine Exists.intro _ (Exists.intro _ (And.intro (And.intro rfl rfl) ?_))
  refine PCall_use (drop_two hf d b a hk w _) ?_
  rintro _ _ ⟨rfl, em, s', hs', rfl⟩
  have r2 : s' o2 = some (.arr [.agg [.int .i64 b.k.1, .int .i64 b.k.2]]) := hs' _ _ (put_same _ _ _)
  have r1 : s' o1 = some (.arr [.agg [.int .i64 0, .int .i64 0]]) := hs' _ _ (by rw [put_ne h21, put_same])
  repeat' first
    | refine W_seq ?_
    | refine W_block ?_
    | ((first | refine W_region (mu := []) ?_ | (refine W_region_any (id := 4) [] ⟨[0], [3], [], [], [], [], 0⟩ mixedOrders_ok (by kernel_rfl) ?_; intro nu hn1 hn2) | (refine W_region_any [] ⟨[], [], [], [], [], [], 0⟩ mixedOrders_ok (by kernel_rfl) ?_; intro nu hn1 hn2) | refine fn_ret ?_ | refine fn_normal ?_ | refine Hold_P ?_ | refine prun_go ?_ | refine drun_go ?_); simp -dsimp only [go_sem, Nat.reduceLT, Nat.reduceLeDiff, Nat.reduceEqDiff, Nat.reduceAdd, Nat.reduceMul, Int.reduceNeg, Nat.reduceBEq, reduceCtorEq, ↓reduceIte, l1.rd, l2.rd, r1, r2, l1.wr, splice])
    | (refine W_cond rfl (fun h => ?_) (fun h => ?_) <;> (try (cases h; done)))
    | refine W_ret ?_
    | refine W_skip ?_
    | refine W_exit ?_
    | refine then_normal ?_
    | refine then_ret ?_
    | refine then_exit ?_
    | refine inBlock_normal ?_
    | refine inBlock_ret ?_
    | refine inBlock_exit ?_
    | refine inBlock_ne (by decide) ?_
    | refine Hold_E ?_
    | (refine And.intro ?_ ?_; omega)
    | ((first | (refine ite_goB (fun h => ?_) (fun h => ?_) <;> (try exact absurd ((h : _ = false).symm.trans (by assumption : _ = true)) (by decide)) <;> (try exact absurd ((by assumption : _ = false).symm.trans (h : _ = true)) (by decide))) | (refine ite_go (fun h => ?_) (fun h => ?_) <;> (try exact absurd h (by assumption)) <;> (try exact absurd (by assumption) h))) <;> (try refine Hold_P ?_) <;> (try simp -dsimp only [h, go_sem, Nat.reduceLT, Nat.reduceLeDiff, Nat.reduceEqDiff, Nat.reduceAdd, Nat.reduceMul, Int.reduceNeg, Nat.reduceBEq, reduceCtorEq, ↓reduceIte, l1.rd, l2.rd, r1, r2, l1.wr, splice]))
    | refine Exists.intro _ (Exists.intro _ (And.intro (And.intro rfl rfl) ?_))
  have hs0 : s.Sub s' := fun q x hq => hs' q x (Sub_put (Sub_put (Store.Sub.refl _) q1 _) (fresh_old q2) _ q x hq)
  exact ⟨_, Store.Sub.refl _, em, _, Sub_put hs0 q1 _, rfl⟩
end
end Go.Proofs.Ytoekaigdacaghaa.Duo
