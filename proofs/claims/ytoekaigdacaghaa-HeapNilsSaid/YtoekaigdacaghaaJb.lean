/- Contracts of a heap's ahead, up and down: what holds at their loops. Conditions: none. -/
import Derived.Test.YtoekaigdacaghaaJa
set_option linter.unusedVariables false
set_option linter.unusedSimpArgs false
namespace Go.Proofs.Ytoekaigdacaghaa.Duo
open Go.Kern Go.Proofs.Ytoekaigdacaghaa
set_option maxRecDepth 100000
set_option maxHeartbeats 4000000
attribute [local go_sem] drun_nil drun_cons prun_nil prun_cons wrOk tqOk lateOp lateB dstOk ev ofConst leafOf Env.putO Env.get envOf readRs_nil oneRes nilSide SK.isNil isMu fillA partsFit boundA SK.cut SK.cutFull SK.fresh rowOk rowsOk_nil rowsOk_cons rowsOk_append rowsOk_ints splice oneOf keyKind cellsKind cellKind cellsB cellB zeroFits TK.agg AV.cells AV.known AV.one List.set_cons_zero List.set_cons_succ put_same put_put forall_const implies_true exists_eq_left exists_eq_left' exists_eq_right exists_eq Store.Sub.refl and_self Int.toNat_natCast length_ints List.length_map true_and and_true decide_true decide_false if_true if_false Bool.false_eq_true Bool.true_eq_false List.getElem?_cons_zero List.getElem?_cons_succ List.length_cons List.length_nil List.drop_zero List.drop_succ_cons List.take_succ_cons List.take_zero List.drop_nil List.take_nil List.append_nil List.map_cons List.map_nil List.cons_append List.nil_append beq_self_eq_true Bool.false_beq Bool.true_beq Bool.not_true Bool.not_false Option.map_some Option.map_none Option.bind_some ne_eq not_false_eq_true List.contains_cons List.contains_nil Bool.or_false Bool.or_true Bool.and_true Bool.and_false Bool.true_and Bool.false_and List.all_cons List.all_nil Nat.one_ne_zero Nat.zero_ne_one Option.isSome_some Option.isSome_none List.getElem?_toArray beq_true beq_false decide_eq_true_eq Int.toNat_zero forall_ints take_ints drop_ints Int.le_refl Int.natCast_nonneg Nat.zero_add Nat.add_zero or_true true_or false_or or_false
attribute [local go_sem ↓] allocN guardP OpSem callA readRs_cons readR binA intOpA strOpA nilOpA unA convA boxA allocA behind loadA buildA buildSliceA fieldAddrA fieldA indexAddrA indexA lenA sliceA extractA nilCheckA storeA lookupA mapSetA mapDelA makeSliceA appendA appendN apN
attribute [local irreducible] PCall W

def ahead (lt : ByteArray → ByteArray → Bool) (x y : Th) : Bool := lt x.r y.r || (!lt y.r x.r && decide (x.w < y.w))
/-- What a function value answers. -/
def Less (fi : Nat) (lt : ByteArray → ByteArray → Bool) : Prop := ∀ (a b : ByteArray) (s : Store), PCall Try.prog fi [.str a, .str b] s (fun r t => r = .bool (lt a b) ∧ t = s)

theorem ahead_spec {fi : Nat} {lt : ByteArray → ByteArray → Bool} (hf : Less fi lt) {p : Nat} {v mm : AV} {w : Int} (x y : Th) (σ : Store) (hσ : σ p = some (.arr [.agg [.fn fi [], v, mm, .int .i64 w]])) :
    PCall Try.prog 46 [.ptr p 0 0, .agg [.int .i64 x.k.1, .int .i64 x.k.2, .str x.r, .int .i64 x.w], .agg [.int .i64 y.k.1, .int .i64 y.k.2, .str y.r, .int .i64 y.w]] σ (fun r s => r = .bool (ahead lt x y) ∧ s = σ) := by
  refine PCall_q [.tmp 6] 33 Try.func46 (by rfl) rfl rfl rfl rfl ?_
  rcases (Bool.eq_false_or_eq_true (lt x.r y.r)).symm with b1 | b1
  · rcases (Bool.eq_false_or_eq_true (lt y.r x.r)).symm with b2 | b2
    · skip
      repeat' first
        | refine W_seq ?_
        | refine W_block ?_
        | ((first | refine W_region (mu := []) ?_ | (refine W_region_any (id := 1) [] ⟨[3], [], [], [], [], [], 0⟩ mixedOrders_ok (by kernel_rfl) ?_; intro nu hn1 hn2) | (refine W_region_any (id := 3) [] ⟨[3], [], [], [], [], [], 0⟩ mixedOrders_ok (by kernel_rfl) ?_; intro nu hn1 hn2) | (refine W_region_any [] ⟨[], [], [], [], [], [], 0⟩ mixedOrders_ok (by kernel_rfl) ?_; intro nu hn1 hn2) | refine fn_ret ?_ | refine fn_normal ?_ | refine Hold_P ?_ | refine prun_go ?_ | refine drun_go ?_); simp -dsimp only [go_sem, Nat.reduceLT, Nat.reduceLeDiff, Nat.reduceEqDiff, Nat.reduceAdd, Nat.reduceMul, Int.reduceNeg, Nat.reduceBEq, reduceCtorEq, ↓reduceIte, hσ, b1, b2])
        | (refine W_cond rfl (fun h => ?_) (fun h => ?_) <;> (try (cases h; done)))
        | refine W_ret ?_
        | refine W_skip ?_
        | refine W_exit ?_
        | refine then_normal ?_
        | refine then_ret ?_
        | refine then_exit ?_
        | refine inBlock_normal ?_
        | refine inBlock_ret ?_
        | refine inBlock_exit ?_
        | refine inBlock_ne (by decide) ?_
        | refine Hold_E ?_
        | (refine And.intro ?_ ?_; omega)
        | ((first | (refine ite_goB (fun h => ?_) (fun h => ?_) <;> (try exact absurd ((h : _ = false).symm.trans (by assumption : _ = true)) (by decide)) <;> (try exact absurd ((by assumption : _ = false).symm.trans (h : _ = true)) (by decide))) | (refine ite_go (fun h => ?_) (fun h => ?_) <;> (try exact absurd h (by assumption)) <;> (try exact absurd (by assumption) h))) <;> (try refine Hold_P ?_) <;> (try simp -dsimp only [h, go_sem, Nat.reduceLT, Nat.reduceLeDiff, Nat.reduceEqDiff, Nat.reduceAdd, Nat.reduceMul, Int.reduceNeg, Nat.reduceBEq, reduceCtorEq, ↓reduceIte, hσ, b1, b2]))
        | refine Exists.intro _ (Exists.intro _ (And.intro (And.intro rfl rfl) ?_))
        | (refine PCall_use (hf _ _ _) ?_; rintro _ _ ⟨rfl, hq⟩; obtain rfl := hq.symm; clear hq)
        | (refine Exists.intro _ (And.intro (fun _ => hf _ _ _) ?_))
        | (refine Exists.intro _ (And.intro (hf _ _ _) ?_))
        | (refine Exists.intro _ (Exists.intro _ (And.intro (hf _ _ _) ?_)))
      simp [ahead, b1, b2]
    · skip
      repeat' first
        | refine W_seq ?_
        | refine W_block ?_
        | ((first | refine W_region (mu := []) ?_ | (refine W_region_any (id := 1) [] ⟨[3], [], [], [], [], [], 0⟩ mixedOrders_ok (by kernel_rfl) ?_; intro nu hn1 hn2) | (refine W_region_any (id := 3) [] ⟨[3], [], [], [], [], [], 0⟩ mixedOrders_ok (by kernel_rfl) ?_; intro nu hn1 hn2) | (refine W_region_any [] ⟨[], [], [], [], [], [], 0⟩ mixedOrders_ok (by kernel_rfl) ?_; intro nu hn1 hn2) | refine fn_ret ?_ | refine fn_normal ?_ | refine Hold_P ?_ | refine prun_go ?_ | refine drun_go ?_); simp -dsimp only [go_sem, Nat.reduceLT, Nat.reduceLeDiff, Nat.reduceEqDiff, Nat.reduceAdd, Nat.reduceMul, Int.reduceNeg, Nat.reduceBEq, reduceCtorEq, ↓reduceIte, hσ, b1, b2])
        | (refine W_cond rfl (fun h => ?_) (fun h => ?_) <;> (try (cases h; done)))
        | refine W_ret ?_
        | refine W_skip ?_
        | refine W_exit ?_
        | refine then_normal ?_
        | refine then_ret ?_
        | refine then_exit ?_
        | refine inBlock_normal ?_
        | refine inBlock_ret ?_
        | refine inBlock_exit ?_
        | refine inBlock_ne (by decide) ?_
        | refine Hold_E ?_
        | (refine And.intro ?_ ?_; omega)
        | ((first | (refine ite_goB (fun h => ?_) (fun h => ?_) <;> (try exact absurd ((h : _ = false).symm.trans (by assumption : _ = true)) (by decide)) <;> (try exact absurd ((by assumption : _ = false).symm.trans (h : _ = true)) (by decide))) | (refine ite_go (fun h => ?_) (fun h => ?_) <;> (try exact absurd h (by assumption)) <;> (try exact absurd (by assumption) h))) <;> (try refine Hold_P ?_) <;> (try simp -dsimp only [h, go_sem, Nat.reduceLT, Nat.reduceLeDiff, Nat.reduceEqDiff, Nat.reduceAdd, Nat.reduceMul, Int.reduceNeg, Nat.reduceBEq, reduceCtorEq, ↓reduceIte, hσ, b1, b2]))
        | refine Exists.intro _ (Exists.intro _ (And.intro (And.intro rfl rfl) ?_))
        | (refine PCall_use (hf _ _ _) ?_; rintro _ _ ⟨rfl, hq⟩; obtain rfl := hq.symm; clear hq)
        | (refine Exists.intro _ (And.intro (fun _ => hf _ _ _) ?_))
        | (refine Exists.intro _ (And.intro (hf _ _ _) ?_))
        | (refine Exists.intro _ (Exists.intro _ (And.intro (hf _ _ _) ?_)))
      simp [ahead, b1, b2]
  · skip
    repeat' first
      | refine W_seq ?_
      | refine W_block ?_
      | ((first | refine W_region (mu := []) ?_ | (refine W_region_any (id := 1) [] ⟨[3], [], [], [], [], [], 0⟩ mixedOrders_ok (by kernel_rfl) ?_; intro nu hn1 hn2) | (refine W_region_any (id := 3) [] ⟨[3], [], [], [], [], [], 0⟩ mixedOrders_ok (by kernel_rfl) ?_; intro nu hn1 hn2) | (refine W_region_any [] ⟨[], [], [], [], [], [], 0⟩ mixedOrders_ok (by kernel_rfl) ?_; intro nu hn1 hn2) | refine fn_ret ?_ | refine fn_normal ?_ | refine Hold_P ?_ | refine prun_go ?_ | refine drun_go ?_); simp -dsimp only [go_sem, Nat.reduceLT, Nat.reduceLeDiff, Nat.reduceEqDiff, Nat.reduceAdd, Nat.reduceMul, Int.reduceNeg, Nat.reduceBEq, reduceCtorEq, ↓reduceIte, hσ, b1])
      | (refine W_cond rfl (fun h => ?_) (fun h => ?_) <;> (try (cases h; done)))
      | refine W_ret ?_
      | refine W_skip ?_
      | refine W_exit ?_
      | refine then_normal ?_
      | refine then_ret ?_
      | refine then_exit ?_
      | refine inBlock_normal ?_
      | refine inBlock_ret ?_
      | refine inBlock_exit ?_
      | refine inBlock_ne (by decide) ?_
      | refine Hold_E ?_
      | (refine And.intro ?_ ?_; omega)
      | ((first | (refine ite_goB (fun h => ?_) (fun h => ?_) <;> (try exact absurd ((h : _ = false).symm.trans (by assumption : _ = true)) (by decide)) <;> (try exact absurd ((by assumption : _ = false).symm.trans (h : _ = true)) (by decide))) | (refine ite_go (fun h => ?_) (fun h => ?_) <;> (try exact absurd h (by assumption)) <;> (try exact absurd (by assumption) h))) <;> (try refine Hold_P ?_) <;> (try simp -dsimp only [h, go_sem, Nat.reduceLT, Nat.reduceLeDiff, Nat.reduceEqDiff, Nat.reduceAdd, Nat.reduceMul, Int.reduceNeg, Nat.reduceBEq, reduceCtorEq, ↓reduceIte, hσ, b1]))
      | refine Exists.intro _ (Exists.intro _ (And.intro (And.intro rfl rfl) ?_))
      | (refine PCall_use (hf _ _ _) ?_; rintro _ _ ⟨rfl, hq⟩; obtain rfl := hq.symm; clear hq)
      | (refine Exists.intro _ (And.intro (fun _ => hf _ _ _) ?_))
      | (refine Exists.intro _ (And.intro (hf _ _ _) ?_))
      | (refine Exists.intro _ (Exists.intro _ (And.intro (hf _ _ _) ?_)))
    simp [ahead, b1]

theorem getD_th {ls : List Th} {i : Nat} (h : i < ls.length) : ls.getD i noTh = ls[i] := by simp [List.getD_eq_getElem?_getD, h]

theorem up_spec {fi : Nat} {lt : ByteArray → ByteArray → Bool} (hf : Less fi lt) {p m o : Nat} (d : Apart p m o) (n : Nat) (w : Int) (x : Th) (I : List Th → EM → Nat → Prop) (hI : ∀ ls em i, I ls em i → i < n ∧ n ≤ ls.length ∧ ls.length < 1000000)
    (hstep : ∀ ls em i, I ls em i → 0 < i → ahead lt x (ls.getD ((i - 1) / 2) noTh) = true → I (ls.set i (ls.getD ((i - 1) / 2) noTh)) (asetM (ls.getD ((i - 1) / 2) noTh).k i em) ((i - 1) / 2))
    (ls : List Th) (em : EM) (i : Nat) (hx : ls.getD i noTh = x) (h0 : I ls em i) (σ : Store) :
    PCall Try.prog 42 [.ptr p 0 0, .int .i64 i] (hst σ p m o (.fn fi []) n ls em w)
      (fun r s => ∃ ls' em' i', I ls' em' i' ∧ (i' = 0 ∨ ahead lt x (ls'.getD ((i' - 1) / 2) noTh) = false) ∧ r = .int .i64 i' ∧ s = hst σ p m o (.fn fi []) n (ls'.set i' x) (asetM x.k i' em') w) := by
  obtain ⟨b1, b2, b3⟩ := hI _ _ _ h0
  have g1 := get_things (show i < ls.length by omega)
  rw [hx] at g1
  have hin : ((i : Int) < (n : Int)) = True := eq_true (by omega)
  refine PCall_w [.tmp 4] 49 Try.func42 (by rfl) rfl rfl rfl rfl ?_
  repeat' first
    | refine W_seq ?_
    | refine W_block ?_
    | ((first | refine W_region (mu := []) ?_ | (refine W_region_any [] ⟨[], [], [], [], [], [], 0⟩ mixedOrders_ok (by kernel_rfl) ?_; intro nu hn1 hn2) | refine fn_ret ?_ | refine fn_normal ?_ | refine Hold_P ?_ | refine prun_go ?_ | refine drun_go ?_); simp -dsimp only [go_sem, Nat.reduceLT, Nat.reduceLeDiff, Nat.reduceEqDiff, Nat.reduceAdd, Nat.reduceMul, Int.reduceNeg, Nat.reduceBEq, reduceCtorEq, ↓reduceIte, d.rh, d.rm, d.ro, d.wh, d.wm, d.wo, g1, hin])
    | (refine W_cond rfl (fun h => ?_) (fun h => ?_) <;> (try (cases h; done)))
    | refine W_ret ?_
    | refine W_skip ?_
    | refine W_exit ?_
    | refine then_normal ?_
    | refine then_ret ?_
    | refine then_exit ?_
    | refine inBlock_normal ?_
    | refine inBlock_ret ?_
    | refine inBlock_exit ?_
    | refine inBlock_ne (by decide) ?_
    | refine Hold_E ?_
    | (refine And.intro ?_ ?_; omega)
    | ((first | (refine ite_goB (fun h => ?_) (fun h => ?_) <;> (try exact absurd ((h : _ = false).symm.trans (by assumption : _ = true)) (by decide)) <;> (try exact absurd ((by assumption : _ = false).symm.trans (h : _ = true)) (by decide))) | (refine ite_go (fun h => ?_) (fun h => ?_) <;> (try exact absurd h (by assumption)) <;> (try exact absurd (by assumption) h))) <;> (try refine Hold_P ?_) <;> (try simp -dsimp only [h, go_sem, Nat.reduceLT, Nat.reduceLeDiff, Nat.reduceEqDiff, Nat.reduceAdd, Nat.reduceMul, Int.reduceNeg, Nat.reduceBEq, reduceCtorEq, ↓reduceIte, d.rh, d.rm, d.ro, d.wh, d.wm, d.wo, g1, hin]))
    | refine Exists.intro _ (Exists.intro _ (And.intro (And.intro rfl rfl) ?_))
  intro o1 ho1
  have l := d.fresh ho1
  have hso : σ o1 = none := by rw [← ho1, l.rd]
  rw [l.wr]
  repeat' first
    | refine W_seq ?_
    | refine W_block ?_
    | ((first | refine W_region (mu := []) ?_ | (refine W_region_any [] ⟨[], [], [], [], [], [], 0⟩ mixedOrders_ok (by kernel_rfl) ?_; intro nu hn1 hn2) | refine fn_ret ?_ | refine fn_normal ?_ | refine Hold_P ?_ | refine prun_go ?_ | refine drun_go ?_); simp -dsimp only [go_sem, Nat.reduceLT, Nat.reduceLeDiff, Nat.reduceEqDiff, Nat.reduceAdd, Nat.reduceMul, Int.reduceNeg, Nat.reduceBEq, reduceCtorEq, ↓reduceIte, d.rh, d.rm, d.ro, d.wh, d.wm, d.wo, l.rd, l.wr, g1, hin, splice])
    | (refine W_cond rfl (fun h => ?_) (fun h => ?_) <;> (try (cases h; done)))
    | refine W_ret ?_
    | refine W_skip ?_
    | refine W_exit ?_
    | refine then_normal ?_
    | refine then_ret ?_
    | refine then_exit ?_
    | refine inBlock_normal ?_
    | refine inBlock_ret ?_
    | refine inBlock_exit ?_
    | refine inBlock_ne (by decide) ?_
    | refine Hold_E ?_
    | (refine And.intro ?_ ?_; omega)
    | ((first | (refine ite_goB (fun h => ?_) (fun h => ?_) <;> (try exact absurd ((h : _ = false).symm.trans (by assumption : _ = true)) (by decide)) <;> (try exact absurd ((by assumption : _ = false).symm.trans (h : _ = true)) (by decide))) | (refine ite_go (fun h => ?_) (fun h => ?_) <;> (try exact absurd h (by assumption)) <;> (try exact absurd (by assumption) h))) <;> (try refine Hold_P ?_) <;> (try simp -dsimp only [h, go_sem, Nat.reduceLT, Nat.reduceLeDiff, Nat.reduceEqDiff, Nat.reduceAdd, Nat.reduceMul, Int.reduceNeg, Nat.reduceBEq, reduceCtorEq, ↓reduceIte, d.rh, d.rm, d.ro, d.wh, d.wm, d.wo, l.rd, l.wr, g1, hin, splice]))
    | refine Exists.intro _ (Exists.intro _ (And.intro (And.intro rfl rfl) ?_))
  refine W_loop_st (fun t : List Th × EM × Nat => [(0, .ptr p 0 0), (1, .int .i64 t.2.2), (5, .ptr o1 0 0)]) (fun t => hst (σ.put o1 (.arr [.agg [.int .i64 x.k.1, .int .i64 x.k.2, .str x.r, .int .i64 x.w]])) p m o (.fn fi []) n t.1 t.2.1 w) (fun t => I t.1 t.2.1 t.2.2) (fun t => t.2.2) (ls, em, i) h0 (Env.Sub_of_has (by simp [Env.Has, Env.get])) (Store.Sub.refl _) ?_
  rintro ⟨ls, em, i⟩ hi
  simp only at hi
  obtain ⟨b1, b2, b3⟩ := hI _ _ _ hi
  have hsub : ∀ ls em, (hst σ p m o (.fn fi []) n ls em w).Sub (hst (σ.put o1 (.arr [.agg [.int .i64 x.k.1, .int .i64 x.k.2, .str x.r, .int .i64 x.w]])) p m o (.fn fi []) n ls em w) := fun ls em => hst_sub (Sub_put (Store.Sub.refl _) hso _) p m o _ n ls em w
  by_cases i0 : i = 0
  · have c0 : decide (0 < (i : Int)) = false := decF (by omega)
    repeat' first
      | refine W_seq ?_
      | refine W_block ?_
      | ((first | refine W_region (mu := []) ?_ | (refine W_region_any (id := 2) [] ⟨[4,8,13,14], [], [], [], [], [], 0⟩ mixedOrders_ok (by kernel_rfl) ?_; intro nu hn1 hn2) | (refine W_region_any [] ⟨[], [], [], [], [], [], 0⟩ mixedOrders_ok (by kernel_rfl) ?_; intro nu hn1 hn2) | refine fn_ret ?_ | refine fn_normal ?_ | refine Hold_P ?_ | refine prun_go ?_ | refine drun_go ?_); simp -dsimp only [go_sem, Nat.reduceLT, Nat.reduceLeDiff, Nat.reduceEqDiff, Nat.reduceAdd, Nat.reduceMul, Int.reduceNeg, Nat.reduceBEq, reduceCtorEq, ↓reduceIte, d.rh, d.rm, d.ro, d.wh, d.wm, d.wo, l.rd, l.wr, c0])
      | (refine W_cond rfl (fun h => ?_) (fun h => ?_) <;> (try (cases h; done)))
      | refine W_ret ?_
      | refine W_skip ?_
      | refine W_exit ?_
      | refine then_normal ?_
      | refine then_ret ?_
      | refine then_exit ?_
      | refine inBlock_normal ?_
      | refine inBlock_ret ?_
      | refine inBlock_exit ?_
      | refine inBlock_ne (by decide) ?_
      | refine Hold_E ?_
      | (refine And.intro ?_ ?_; omega)
      | ((first | (refine ite_goB (fun h => ?_) (fun h => ?_) <;> (try exact absurd ((h : _ = false).symm.trans (by assumption : _ = true)) (by decide)) <;> (try exact absurd ((by assumption : _ = false).symm.trans (h : _ = true)) (by decide))) | (refine ite_go (fun h => ?_) (fun h => ?_) <;> (try exact absurd h (by assumption)) <;> (try exact absurd (by assumption) h))) <;> (try refine Hold_P ?_) <;> (try simp -dsimp only [h, go_sem, Nat.reduceLT, Nat.reduceLeDiff, Nat.reduceEqDiff, Nat.reduceAdd, Nat.reduceMul, Int.reduceNeg, Nat.reduceBEq, reduceCtorEq, ↓reduceIte, d.rh, d.rm, d.ro, d.wh, d.wm, d.wo, l.rd, l.wr, c0]))
      | refine Exists.intro _ (Exists.intro _ (And.intro (And.intro rfl rfl) ?_))
      | (refine PCall_use (lay_spec d _ n ls b2 em w i b1 x _) ?_; rintro _ _ ⟨rfl, hq⟩; obtain rfl := hq.symm; clear hq)
      | (refine Exists.intro _ (And.intro (fun _ => lay_spec d _ n ls b2 em w i b1 x _) ?_))
      | (refine Exists.intro _ (And.intro (lay_spec d _ n ls b2 em w i b1 x _) ?_))
      | (refine Exists.intro _ (Exists.intro _ (And.intro (lay_spec d _ n ls b2 em w i b1 x _) ?_)))
    exact ⟨_, hsub _ _, ls, em, i, hi, .inl i0, rfl, rfl⟩
  · have c0 : decide (0 < (i : Int)) = true := decT (by omega)
    have hw1 : IntKind.i64.wrap ((i : Int) - 1) = ((i - 1 : Nat) : Int) := by rw [wrap64_id (by omega) (by omega)]; omega
    have hw2 : IntKind.i64.wrap (((i - 1 : Nat) : Int).tdiv 2) = (((i - 1) / 2 : Nat) : Int) := by
      rw [show ((i - 1 : Nat) : Int).tdiv 2 = (((i - 1) / 2 : Nat) : Int) from rfl, wrap64_id (by omega) (by omega)]
    have hp : (i - 1) / 2 < ls.length := by omega
    have gp := get_things hp
    have hpn : ((((i - 1) / 2 : Nat) : Int) < (n : Int)) = True := eq_true (by omega)
    have h20 : ((2 : Int) = 0) = False := by simp
    rcases (Bool.eq_false_or_eq_true (ahead lt x (ls.getD ((i - 1) / 2) noTh))).symm with ha | ha
    · skip
      repeat' first
        | refine W_seq ?_
        | refine W_block ?_
        | ((first | refine W_region (mu := []) ?_ | (refine W_region_any (id := 2) [] ⟨[4,8,13,14], [], [], [], [], [], 0⟩ mixedOrders_ok (by kernel_rfl) ?_; intro nu hn1 hn2) | (refine W_region_any [] ⟨[], [], [], [], [], [], 0⟩ mixedOrders_ok (by kernel_rfl) ?_; intro nu hn1 hn2) | refine fn_ret ?_ | refine fn_normal ?_ | refine Hold_P ?_ | refine prun_go ?_ | refine drun_go ?_); simp -dsimp only [go_sem, Nat.reduceLT, Nat.reduceLeDiff, Nat.reduceEqDiff, Nat.reduceAdd, Nat.reduceMul, Int.reduceNeg, Nat.reduceBEq, reduceCtorEq, ↓reduceIte, d.rh, d.rm, d.ro, d.wh, d.wm, d.wo, l.rd, l.wr, c0, hw1, hw2, gp, hpn, h20, ha])
        | (refine W_cond rfl (fun h => ?_) (fun h => ?_) <;> (try (cases h; done)))
        | refine W_ret ?_
        | refine W_skip ?_
        | refine W_exit ?_
        | refine then_normal ?_
        | refine then_ret ?_
        | refine then_exit ?_
        | refine inBlock_normal ?_
        | refine inBlock_ret ?_
        | refine inBlock_exit ?_
        | refine inBlock_ne (by decide) ?_
        | refine Hold_E ?_
        | (refine And.intro ?_ ?_; omega)
        | ((first | (refine ite_goB (fun h => ?_) (fun h => ?_) <;> (try exact absurd ((h : _ = false).symm.trans (by assumption : _ = true)) (by decide)) <;> (try exact absurd ((by assumption : _ = false).symm.trans (h : _ = true)) (by decide))) | (refine ite_go (fun h => ?_) (fun h => ?_) <;> (try exact absurd h (by assumption)) <;> (try exact absurd (by assumption) h))) <;> (try refine Hold_P ?_) <;> (try simp -dsimp only [h, go_sem, Nat.reduceLT, Nat.reduceLeDiff, Nat.reduceEqDiff, Nat.reduceAdd, Nat.reduceMul, Int.reduceNeg, Nat.reduceBEq, reduceCtorEq, ↓reduceIte, d.rh, d.rm, d.ro, d.wh, d.wm, d.wo, l.rd, l.wr, c0, hw1, hw2, gp, hpn, h20, ha]))
        | refine Exists.intro _ (Exists.intro _ (And.intro (And.intro rfl rfl) ?_))
        | (refine PCall_use (lay_spec d _ n ls b2 em w i b1 x _) ?_; rintro _ _ ⟨rfl, hq⟩; obtain rfl := hq.symm; clear hq)
        | (refine Exists.intro _ (And.intro (fun _ => lay_spec d _ n ls b2 em w i b1 x _) ?_))
        | (refine Exists.intro _ (And.intro (lay_spec d _ n ls b2 em w i b1 x _) ?_))
        | (refine Exists.intro _ (Exists.intro _ (And.intro (lay_spec d _ n ls b2 em w i b1 x _) ?_)))
        | (refine PCall_use (ahead_spec hf x (ls.getD ((i - 1) / 2) noTh) _ (d.rh _ _ _ _ _ _)) ?_; rintro _ _ ⟨rfl, hq⟩; obtain rfl := hq.symm; clear hq)
        | (refine Exists.intro _ (And.intro (fun _ => ahead_spec hf x (ls.getD ((i - 1) / 2) noTh) _ (d.rh _ _ _ _ _ _)) ?_))
        | (refine Exists.intro _ (And.intro (ahead_spec hf x (ls.getD ((i - 1) / 2) noTh) _ (d.rh _ _ _ _ _ _)) ?_))
        | (refine Exists.intro _ (Exists.intro _ (And.intro (ahead_spec hf x (ls.getD ((i - 1) / 2) noTh) _ (d.rh _ _ _ _ _ _)) ?_)))
      exact ⟨_, hsub _ _, ls, em, i, hi, .inr ha, rfl, rfl⟩
    · skip
      repeat' first
        | refine W_seq ?_
        | refine W_block ?_
        | ((first | refine W_region (mu := []) ?_ | (refine W_region_any (id := 2) [] ⟨[4,8,13,14], [], [], [], [], [], 0⟩ mixedOrders_ok (by kernel_rfl) ?_; intro nu hn1 hn2) | (refine W_region_any [] ⟨[], [], [], [], [], [], 0⟩ mixedOrders_ok (by kernel_rfl) ?_; intro nu hn1 hn2) | refine fn_ret ?_ | refine fn_normal ?_ | refine Hold_P ?_ | refine prun_go ?_ | refine drun_go ?_); simp -dsimp only [go_sem, Nat.reduceLT, Nat.reduceLeDiff, Nat.reduceEqDiff, Nat.reduceAdd, Nat.reduceMul, Int.reduceNeg, Nat.reduceBEq, reduceCtorEq, ↓reduceIte, d.rh, d.rm, d.ro, d.wh, d.wm, d.wo, l.rd, l.wr, c0, hw1, hw2, gp, hpn, h20, ha])
        | (refine W_cond rfl (fun h => ?_) (fun h => ?_) <;> (try (cases h; done)))
        | refine W_ret ?_
        | refine W_skip ?_
        | refine W_exit ?_
        | refine then_normal ?_
        | refine then_ret ?_
        | refine then_exit ?_
        | refine inBlock_normal ?_
        | refine inBlock_ret ?_
        | refine inBlock_exit ?_
        | refine inBlock_ne (by decide) ?_
        | refine Hold_E ?_
        | (refine And.intro ?_ ?_; omega)
        | ((first | (refine ite_goB (fun h => ?_) (fun h => ?_) <;> (try exact absurd ((h : _ = false).symm.trans (by assumption : _ = true)) (by decide)) <;> (try exact absurd ((by assumption : _ = false).symm.trans (h : _ = true)) (by decide))) | (refine ite_go (fun h => ?_) (fun h => ?_) <;> (try exact absurd h (by assumption)) <;> (try exact absurd (by assumption) h))) <;> (try refine Hold_P ?_) <;> (try simp -dsimp only [h, go_sem, Nat.reduceLT, Nat.reduceLeDiff, Nat.reduceEqDiff, Nat.reduceAdd, Nat.reduceMul, Int.reduceNeg, Nat.reduceBEq, reduceCtorEq, ↓reduceIte, d.rh, d.rm, d.ro, d.wh, d.wm, d.wo, l.rd, l.wr, c0, hw1, hw2, gp, hpn, h20, ha]))
        | refine Exists.intro _ (Exists.intro _ (And.intro (And.intro rfl rfl) ?_))
        | (refine PCall_use (lay_spec d _ n ls b2 em w i b1 (ls.getD ((i - 1) / 2) noTh) _) ?_; rintro _ _ ⟨rfl, hq⟩; obtain rfl := hq.symm; clear hq)
        | (refine Exists.intro _ (And.intro (fun _ => lay_spec d _ n ls b2 em w i b1 (ls.getD ((i - 1) / 2) noTh) _) ?_))
        | (refine Exists.intro _ (And.intro (lay_spec d _ n ls b2 em w i b1 (ls.getD ((i - 1) / 2) noTh) _) ?_))
        | (refine Exists.intro _ (Exists.intro _ (And.intro (lay_spec d _ n ls b2 em w i b1 (ls.getD ((i - 1) / 2) noTh) _) ?_)))
        | (refine PCall_use (ahead_spec hf x (ls.getD ((i - 1) / 2) noTh) _ (d.rh _ _ _ _ _ _)) ?_; rintro _ _ ⟨rfl, hq⟩; obtain rfl := hq.symm; clear hq)
        | (refine Exists.intro _ (And.intro (fun _ => ahead_spec hf x (ls.getD ((i - 1) / 2) noTh) _ (d.rh _ _ _ _ _ _)) ?_))
        | (refine Exists.intro _ (And.intro (ahead_spec hf x (ls.getD ((i - 1) / 2) noTh) _ (d.rh _ _ _ _ _ _)) ?_))
        | (refine Exists.intro _ (Exists.intro _ (And.intro (ahead_spec hf x (ls.getD ((i - 1) / 2) noTh) _ (d.rh _ _ _ _ _ _)) ?_)))
      exact ⟨(ls.set i (ls.getD ((i - 1) / 2) noTh), asetM (ls.getD ((i - 1) / 2) noTh).k i em, (i - 1) / 2), by simp only; omega, hstep _ _ _ hi (by omega) ha, Env.Sub_of_has (by simp [Env.Has, Env.get]), Store.Sub.refl _⟩

/-- Which child of i is to be looked at. -/
def child (lt : ByteArray → ByteArray → Bool) (n : Nat) (ls : List Th) (i : Nat) : Nat := if 2 * i + 2 < n ∧ ahead lt (ls.getD (2 * i + 2) noTh) (ls.getD (2 * i + 1) noTh) = true then 2 * i + 2 else 2 * i + 1

theorem down_spec {fi : Nat} {lt : ByteArray → ByteArray → Bool} (hf : Less fi lt) {p m o : Nat} (d : Apart p m o) (n : Nat) (w : Int) (x : Th) (I : List Th → EM → Nat → Prop) (hI : ∀ ls em i, I ls em i → i < n ∧ n ≤ ls.length ∧ ls.length < 1000000)
    (hstep : ∀ ls em i, I ls em i → 2 * i + 1 < n → ahead lt (ls.getD (child lt n ls i) noTh) x = true → I (ls.set i (ls.getD (child lt n ls i) noTh)) (asetM (ls.getD (child lt n ls i) noTh).k i em) (child lt n ls i))
    (ls : List Th) (em : EM) (i : Nat) (hx : ls.getD i noTh = x) (h0 : I ls em i) (σ : Store) :
    PCall Try.prog 41 [.ptr p 0 0, .int .i64 i] (hst σ p m o (.fn fi []) n ls em w)
      (fun r s => ∃ ls' em' i', I ls' em' i' ∧ (n ≤ 2 * i' + 1 ∨ ahead lt (ls'.getD (child lt n ls' i') noTh) x = false) ∧ r = .tup [] ∧ s = hst σ p m o (.fn fi []) n (ls'.set i' x) (asetM x.k i' em') w) := by
  obtain ⟨b1, b2, b3⟩ := hI _ _ _ h0
  have g1 := get_things (show i < ls.length by omega)
  rw [hx] at g1
  have hin : ((i : Int) < (n : Int)) = True := eq_true (by omega)
  refine PCall_w [] 78 Try.func41 (by rfl) rfl rfl rfl rfl ?_
  repeat' first
    | refine W_seq ?_
    | refine W_block ?_
    | ((first | refine W_region (mu := []) ?_ | (refine W_region_any [] ⟨[], [], [], [], [], [], 0⟩ mixedOrders_ok (by kernel_rfl) ?_; intro nu hn1 hn2) | refine fn_ret ?_ | refine fn_normal ?_ | refine Hold_P ?_ | refine prun_go ?_ | refine drun_go ?_); simp -dsimp only [go_sem, Nat.reduceLT, Nat.reduceLeDiff, Nat.reduceEqDiff, Nat.reduceAdd, Nat.reduceMul, Int.reduceNeg, Nat.reduceBEq, reduceCtorEq, ↓reduceIte, d.rh, d.rm, d.ro, d.wh, d.wm, d.wo, g1, hin])
    | (refine W_cond rfl (fun h => ?_) (fun h => ?_) <;> (try (cases h; done)))
    | refine W_ret ?_
    | refine W_skip ?_
    | refine W_exit ?_
    | refine then_normal ?_
    | refine then_ret ?_
    | refine then_exit ?_
    | refine inBlock_normal ?_
    | refine inBlock_ret ?_
    | refine inBlock_exit ?_
    | refine inBlock_ne (by decide) ?_
    | refine Hold_E ?_
    | (refine And.intro ?_ ?_; omega)
    | ((first | (refine ite_goB (fun h => ?_) (fun h => ?_) <;> (try exact absurd ((h : _ = false).symm.trans (by assumption : _ = true)) (by decide)) <;> (try exact absurd ((by assumption : _ = false).symm.trans (h : _ = true)) (by decide))) | (refine ite_go (fun h => ?_) (fun h => ?_) <;> (try exact absurd h (by assumption)) <;> (try exact absurd (by assumption) h))) <;> (try refine Hold_P ?_) <;> (try simp -dsimp only [h, go_sem, Nat.reduceLT, Nat.reduceLeDiff, Nat.reduceEqDiff, Nat.reduceAdd, Nat.reduceMul, Int.reduceNeg, Nat.reduceBEq, reduceCtorEq, ↓reduceIte, d.rh, d.rm, d.ro, d.wh, d.wm, d.wo, g1, hin]))
    | refine Exists.intro _ (Exists.intro _ (And.intro (And.intro rfl rfl) ?_))
  intro o1 ho1
  have l := d.fresh ho1
  have hso : σ o1 = none := by rw [← ho1, l.rd]
  rw [l.wr]
  repeat' first
    | refine W_seq ?_
    | refine W_block ?_
    | ((first | refine W_region (mu := []) ?_ | (refine W_region_any [] ⟨[], [], [], [], [], [], 0⟩ mixedOrders_ok (by kernel_rfl) ?_; intro nu hn1 hn2) | refine fn_ret ?_ | refine fn_normal ?_ | refine Hold_P ?_ | refine prun_go ?_ | refine drun_go ?_); simp -dsimp only [go_sem, Nat.reduceLT, Nat.reduceLeDiff, Nat.reduceEqDiff, Nat.reduceAdd, Nat.reduceMul, Int.reduceNeg, Nat.reduceBEq, reduceCtorEq, ↓reduceIte, d.rh, d.rm, d.ro, d.wh, d.wm, d.wo, l.rd, l.wr, g1, hin, splice])
    | (refine W_cond rfl (fun h => ?_) (fun h => ?_) <;> (try (cases h; done)))
    | refine W_ret ?_
    | refine W_skip ?_
    | refine W_exit ?_
    | refine then_normal ?_
    | refine then_ret ?_
    | refine then_exit ?_
    | refine inBlock_normal ?_
    | refine inBlock_ret ?_
    | refine inBlock_exit ?_
    | refine inBlock_ne (by decide) ?_
    | refine Hold_E ?_
    | (refine And.intro ?_ ?_; omega)
    | ((first | (refine ite_goB (fun h => ?_) (fun h => ?_) <;> (try exact absurd ((h : _ = false).symm.trans (by assumption : _ = true)) (by decide)) <;> (try exact absurd ((by assumption : _ = false).symm.trans (h : _ = true)) (by decide))) | (refine ite_go (fun h => ?_) (fun h => ?_) <;> (try exact absurd h (by assumption)) <;> (try exact absurd (by assumption) h))) <;> (try refine Hold_P ?_) <;> (try simp -dsimp only [h, go_sem, Nat.reduceLT, Nat.reduceLeDiff, Nat.reduceEqDiff, Nat.reduceAdd, Nat.reduceMul, Int.reduceNeg, Nat.reduceBEq, reduceCtorEq, ↓reduceIte, d.rh, d.rm, d.ro, d.wh, d.wm, d.wo, l.rd, l.wr, g1, hin, splice]))
    | refine Exists.intro _ (Exists.intro _ (And.intro (And.intro rfl rfl) ?_))
  refine W_loop_st (fun t : List Th × EM × Nat => [(0, .ptr p 0 0), (1, .int .i64 t.2.2), (4, .ptr o1 0 0)]) (fun t => hst (σ.put o1 (.arr [.agg [.int .i64 x.k.1, .int .i64 x.k.2, .str x.r, .int .i64 x.w]])) p m o (.fn fi []) n t.1 t.2.1 w) (fun t => I t.1 t.2.1 t.2.2) (fun t => n - t.2.2) (ls, em, i) h0 (Env.Sub_of_has (by simp [Env.Has, Env.get])) (Store.Sub.refl _) ?_
  rintro ⟨ls, em, i⟩ hi
  simp only at hi
  obtain ⟨b1, b2, b3⟩ := hI _ _ _ hi
  have hsub : ∀ ls em, (hst σ p m o (.fn fi []) n ls em w).Sub (hst (σ.put o1 (.arr [.agg [.int .i64 x.k.1, .int .i64 x.k.2, .str x.r, .int .i64 x.w]])) p m o (.fn fi []) n ls em w) := fun ls em => hst_sub (Sub_put (Store.Sub.refl _) hso _) p m o _ n ls em w
  have hw1 : IntKind.i64.wrap (2 * (i : Int)) = ((2 * i : Nat) : Int) := by rw [wrap64_id (by omega) (by omega)]; omega
  have hw2 : IntKind.i64.wrap (((2 * i : Nat) : Int) + 1) = ((2 * i + 1 : Nat) : Int) := by rw [wrap64_id (by omega) (by omega)]; omega
  have hw3 : IntKind.i64.wrap (((2 * i + 1 : Nat) : Int) + 1) = ((2 * i + 2 : Nat) : Int) := by rw [wrap64_id (by omega) (by omega)]; omega
  by_cases e0 : n ≤ 2 * i + 1
  · have c0 : decide ((n : Int) ≤ ((2 * i + 1 : Nat) : Int)) = true := decT (by omega)
    repeat' first
      | refine W_seq ?_
      | refine W_block ?_
      | ((first | refine W_region (mu := []) ?_ | (refine W_region_any [] ⟨[], [], [], [], [], [], 0⟩ mixedOrders_ok (by kernel_rfl) ?_; intro nu hn1 hn2) | refine fn_ret ?_ | refine fn_normal ?_ | refine Hold_P ?_ | refine prun_go ?_ | refine drun_go ?_); simp -dsimp only [go_sem, Nat.reduceLT, Nat.reduceLeDiff, Nat.reduceEqDiff, Nat.reduceAdd, Nat.reduceMul, Int.reduceNeg, Nat.reduceBEq, reduceCtorEq, ↓reduceIte, d.rh, d.rm, d.ro, d.wh, d.wm, d.wo, l.rd, l.wr, c0, hw1, hw2])
      | (refine W_cond rfl (fun h => ?_) (fun h => ?_) <;> (try (cases h; done)))
      | refine W_ret ?_
      | refine W_skip ?_
      | refine W_exit ?_
      | refine then_normal ?_
      | refine then_ret ?_
      | refine then_exit ?_
      | refine inBlock_normal ?_
      | refine inBlock_ret ?_
      | refine inBlock_exit ?_
      | refine inBlock_ne (by decide) ?_
      | refine Hold_E ?_
      | (refine And.intro ?_ ?_; omega)
      | ((first | (refine ite_goB (fun h => ?_) (fun h => ?_) <;> (try exact absurd ((h : _ = false).symm.trans (by assumption : _ = true)) (by decide)) <;> (try exact absurd ((by assumption : _ = false).symm.trans (h : _ = true)) (by decide))) | (refine ite_go (fun h => ?_) (fun h => ?_) <;> (try exact absurd h (by assumption)) <;> (try exact absurd (by assumption) h))) <;> (try refine Hold_P ?_) <;> (try simp -dsimp only [h, go_sem, Nat.reduceLT, Nat.reduceLeDiff, Nat.reduceEqDiff, Nat.reduceAdd, Nat.reduceMul, Int.reduceNeg, Nat.reduceBEq, reduceCtorEq, ↓reduceIte, d.rh, d.rm, d.ro, d.wh, d.wm, d.wo, l.rd, l.wr, c0, hw1, hw2]))
      | refine Exists.intro _ (Exists.intro _ (And.intro (And.intro rfl rfl) ?_))
      | (refine PCall_use (lay_spec d _ n ls b2 em w i b1 x _) ?_; rintro _ _ ⟨rfl, hq⟩; obtain rfl := hq.symm; clear hq)
      | (refine Exists.intro _ (And.intro (fun _ => lay_spec d _ n ls b2 em w i b1 x _) ?_))
      | (refine Exists.intro _ (And.intro (lay_spec d _ n ls b2 em w i b1 x _) ?_))
      | (refine Exists.intro _ (Exists.intro _ (And.intro (lay_spec d _ n ls b2 em w i b1 x _) ?_)))
    exact ⟨_, hsub _ _, ls, em, i, hi, .inl e0, rfl⟩
  · have c0 : decide ((n : Int) ≤ ((2 * i + 1 : Nat) : Int)) = false := decF (by omega)
    have g1 := get_things (show 2 * i + 1 < ls.length by omega)
    have q1 : (((2 * i + 1 : Nat) : Int) < (n : Int)) = True := eq_true (by omega)
    obtain ⟨kk, hk⟩ : ∃ k, k = child lt n ls i := ⟨_, rfl⟩
    have hkn : kk < n ∧ i < kk := by
      rw [hk, child]
      split <;> omega
    have gk := get_things (show kk < ls.length by omega)
    have qk : ((kk : Int) < (n : Int)) = True := eq_true (by omega)
    have hstep' := hstep ls em i hi (by omega)
    rw [← hk] at hstep'
    repeat' first
      | ((fail_if_success (first | show W _ _ (Code.seq (Code.region 3 _ _) _) _ _ _ | show W _ _ (Code.seq (Code.seq (Code.region 3 _ _) _) _) _ _ _)); refine W_seq ?_)
      | refine W_block ?_
      | ((first | refine W_region (mu := []) ?_ | (refine W_region_any [] ⟨[], [], [], [], [], [], 0⟩ mixedOrders_ok (by kernel_rfl) ?_; intro nu hn1 hn2) | refine fn_ret ?_ | refine fn_normal ?_ | refine Hold_P ?_ | refine prun_go ?_ | refine drun_go ?_); simp -dsimp only [go_sem, Nat.reduceLT, Nat.reduceLeDiff, Nat.reduceEqDiff, Nat.reduceAdd, Nat.reduceMul, Int.reduceNeg, Nat.reduceBEq, reduceCtorEq, ↓reduceIte, d.rh, d.rm, d.ro, d.wh, d.wm, d.wo, l.rd, l.wr, c0, hw1, hw2])
      | (refine W_cond rfl (fun h => ?_) (fun h => ?_) <;> (try (cases h; done)))
      | refine W_ret ?_
      | refine W_skip ?_
      | refine W_exit ?_
      | refine then_normal ?_
      | refine then_ret ?_
      | refine then_exit ?_
      | refine inBlock_normal ?_
      | refine inBlock_ret ?_
      | refine inBlock_exit ?_
      | refine inBlock_ne (by decide) ?_
      | refine Hold_E ?_
      | (refine And.intro ?_ ?_; omega)
      | ((first | (refine ite_goB (fun h => ?_) (fun h => ?_) <;> (try exact absurd ((h : _ = false).symm.trans (by assumption : _ = true)) (by decide)) <;> (try exact absurd ((by assumption : _ = false).symm.trans (h : _ = true)) (by decide))) | (refine ite_go (fun h => ?_) (fun h => ?_) <;> (try exact absurd h (by assumption)) <;> (try exact absurd (by assumption) h))) <;> (try refine Hold_P ?_) <;> (try simp -dsimp only [h, go_sem, Nat.reduceLT, Nat.reduceLeDiff, Nat.reduceEqDiff, Nat.reduceAdd, Nat.reduceMul, Int.reduceNeg, Nat.reduceBEq, reduceCtorEq, ↓reduceIte, d.rh, d.rm, d.ro, d.wh, d.wm, d.wo, l.rd, l.wr, c0, hw1, hw2]))
      | refine Exists.intro _ (Exists.intro _ (And.intro (And.intro rfl rfl) ?_))
    refine W_mid [(0, .ptr p 0 0), (1, .int .i64 i), (4, .ptr o1 0 0), (5, .int .i64 kk)] (hst (σ.put o1 (.arr [.agg [.int .i64 x.k.1, .int .i64 x.k.2, .str x.r, .int .i64 x.w]])) p m o (.fn fi []) n ls em w) ?_ ?_
    · by_cases e1 : 2 * i + 2 < n
      · have c1 : decide (((2 * i + 2 : Nat) : Int) < (n : Int)) = true := decT (by omega)
        have g2 := get_things (show 2 * i + 2 < ls.length by omega)
        have q2 : (((2 * i + 2 : Nat) : Int) < (n : Int)) = True := eq_true (by omega)
        rcases (Bool.eq_false_or_eq_true (ahead lt (ls.getD (2 * i + 2) noTh) (ls.getD (2 * i + 1) noTh))).symm with ha | ha
        · have hk1 : kk = 2 * i + 1 := by rw [hk, child, if_neg (by rw [ha]; simp)]
          repeat' first
            | refine W_seq ?_
            | refine W_block ?_
            | ((first | refine W_region (mu := []) ?_ | (refine W_region_any (id := 3) [] ⟨[5,13,17,21,24,25], [], [], [], [], [], 0⟩ mixedOrders_ok (by kernel_rfl) ?_; intro nu hn1 hn2) | (refine W_region_any [] ⟨[], [], [], [], [], [], 0⟩ mixedOrders_ok (by kernel_rfl) ?_; intro nu hn1 hn2) | refine fn_ret ?_ | refine fn_normal ?_ | refine Hold_P ?_ | refine prun_go ?_ | refine drun_go ?_); simp -dsimp only [go_sem, Nat.reduceLT, Nat.reduceLeDiff, Nat.reduceEqDiff, Nat.reduceAdd, Nat.reduceMul, Int.reduceNeg, Nat.reduceBEq, reduceCtorEq, ↓reduceIte, d.rh, d.rm, d.ro, d.wh, d.wm, d.wo, l.rd, l.wr, c1, g1, g2, q1, q2, hw3, ha])
            | (refine W_cond rfl (fun h => ?_) (fun h => ?_) <;> (try (cases h; done)))
            | refine W_ret ?_
            | refine W_skip ?_
            | refine W_exit ?_
            | refine then_normal ?_
            | refine then_ret ?_
            | refine then_exit ?_
            | refine inBlock_normal ?_
            | refine inBlock_ret ?_
            | refine inBlock_exit ?_
            | refine inBlock_ne (by decide) ?_
            | refine Hold_E ?_
            | (refine And.intro ?_ ?_; omega)
            | ((first | (refine ite_goB (fun h => ?_) (fun h => ?_) <;> (try exact absurd ((h : _ = false).symm.trans (by assumption : _ = true)) (by decide)) <;> (try exact absurd ((by assumption : _ = false).symm.trans (h : _ = true)) (by decide))) | (refine ite_go (fun h => ?_) (fun h => ?_) <;> (try exact absurd h (by assumption)) <;> (try exact absurd (by assumption) h))) <;> (try refine Hold_P ?_) <;> (try simp -dsimp only [h, go_sem, Nat.reduceLT, Nat.reduceLeDiff, Nat.reduceEqDiff, Nat.reduceAdd, Nat.reduceMul, Int.reduceNeg, Nat.reduceBEq, reduceCtorEq, ↓reduceIte, d.rh, d.rm, d.ro, d.wh, d.wm, d.wo, l.rd, l.wr, c1, g1, g2, q1, q2, hw3, ha]))
            | refine Exists.intro _ (Exists.intro _ (And.intro (And.intro rfl rfl) ?_))
            | (refine PCall_use (ahead_spec hf (ls.getD (2 * i + 2) noTh) (ls.getD (2 * i + 1) noTh) _ (d.rh _ _ _ _ _ _)) ?_; rintro _ _ ⟨rfl, hq⟩; obtain rfl := hq.symm; clear hq)
            | (refine Exists.intro _ (And.intro (fun _ => ahead_spec hf (ls.getD (2 * i + 2) noTh) (ls.getD (2 * i + 1) noTh) _ (d.rh _ _ _ _ _ _)) ?_))
            | (refine Exists.intro _ (And.intro (ahead_spec hf (ls.getD (2 * i + 2) noTh) (ls.getD (2 * i + 1) noTh) _ (d.rh _ _ _ _ _ _)) ?_))
            | (refine Exists.intro _ (Exists.intro _ (And.intro (ahead_spec hf (ls.getD (2 * i + 2) noTh) (ls.getD (2 * i + 1) noTh) _ (d.rh _ _ _ _ _ _)) ?_)))
          exact ⟨Env.Sub_of_has (by simp [Env.Has, Env.get, hk1]), Store.Sub.refl _⟩
        · have hk1 : kk = 2 * i + 2 := by rw [hk, child, if_pos ⟨e1, ha⟩]
          repeat' first
            | refine W_seq ?_
            | refine W_block ?_
            | ((first | refine W_region (mu := []) ?_ | (refine W_region_any (id := 3) [] ⟨[5,13,17,21,24,25], [], [], [], [], [], 0⟩ mixedOrders_ok (by kernel_rfl) ?_; intro nu hn1 hn2) | (refine W_region_any [] ⟨[], [], [], [], [], [], 0⟩ mixedOrders_ok (by kernel_rfl) ?_; intro nu hn1 hn2) | refine fn_ret ?_ | refine fn_normal ?_ | refine Hold_P ?_ | refine prun_go ?_ | refine drun_go ?_); simp -dsimp only [go_sem, Nat.reduceLT, Nat.reduceLeDiff, Nat.reduceEqDiff, Nat.reduceAdd, Nat.reduceMul, Int.reduceNeg, Nat.reduceBEq, reduceCtorEq, ↓reduceIte, d.rh, d.rm, d.ro, d.wh, d.wm, d.wo, l.rd, l.wr, c1, g1, g2, q1, q2, hw3, ha])
            | (refine W_cond rfl (fun h => ?_) (fun h => ?_) <;> (try (cases h; done)))
            | refine W_ret ?_
            | refine W_skip ?_
            | refine W_exit ?_
            | refine then_normal ?_
            | refine then_ret ?_
            | refine then_exit ?_
            | refine inBlock_normal ?_
            | refine inBlock_ret ?_
            | refine inBlock_exit ?_
            | refine inBlock_ne (by decide) ?_
            | refine Hold_E ?_
            | (refine And.intro ?_ ?_; omega)
            | ((first | (refine ite_goB (fun h => ?_) (fun h => ?_) <;> (try exact absurd ((h : _ = false).symm.trans (by assumption : _ = true)) (by decide)) <;> (try exact absurd ((by assumption : _ = false).symm.trans (h : _ = true)) (by decide))) | (refine ite_go (fun h => ?_) (fun h => ?_) <;> (try exact absurd h (by assumption)) <;> (try exact absurd (by assumption) h))) <;> (try refine Hold_P ?_) <;> (try simp -dsimp only [h, go_sem, Nat.reduceLT, Nat.reduceLeDiff, Nat.reduceEqDiff, Nat.reduceAdd, Nat.reduceMul, Int.reduceNeg, Nat.reduceBEq, reduceCtorEq, ↓reduceIte, d.rh, d.rm, d.ro, d.wh, d.wm, d.wo, l.rd, l.wr, c1, g1, g2, q1, q2, hw3, ha]))
            | refine Exists.intro _ (Exists.intro _ (And.intro (And.intro rfl rfl) ?_))
            | (refine PCall_use (ahead_spec hf (ls.getD (2 * i + 2) noTh) (ls.getD (2 * i + 1) noTh) _ (d.rh _ _ _ _ _ _)) ?_; rintro _ _ ⟨rfl, hq⟩; obtain rfl := hq.symm; clear hq)
            | (refine Exists.intro _ (And.intro (fun _ => ahead_spec hf (ls.getD (2 * i + 2) noTh) (ls.getD (2 * i + 1) noTh) _ (d.rh _ _ _ _ _ _)) ?_))
            | (refine Exists.intro _ (And.intro (ahead_spec hf (ls.getD (2 * i + 2) noTh) (ls.getD (2 * i + 1) noTh) _ (d.rh _ _ _ _ _ _)) ?_))
            | (refine Exists.intro _ (Exists.intro _ (And.intro (ahead_spec hf (ls.getD (2 * i + 2) noTh) (ls.getD (2 * i + 1) noTh) _ (d.rh _ _ _ _ _ _)) ?_)))
          exact ⟨Env.Sub_of_has (by simp [Env.Has, Env.get, hk1]), Store.Sub.refl _⟩
      · have c1 : decide (((2 * i + 2 : Nat) : Int) < (n : Int)) = false := decF (by omega)
        have hk1 : kk = 2 * i + 1 := by rw [hk, child, if_neg (by omega)]
        repeat' first
          | refine W_seq ?_
          | refine W_block ?_
          | ((first | refine W_region (mu := []) ?_ | (refine W_region_any (id := 3) [] ⟨[5,13,17,21,24,25], [], [], [], [], [], 0⟩ mixedOrders_ok (by kernel_rfl) ?_; intro nu hn1 hn2) | (refine W_region_any [] ⟨[], [], [], [], [], [], 0⟩ mixedOrders_ok (by kernel_rfl) ?_; intro nu hn1 hn2) | refine fn_ret ?_ | refine fn_normal ?_ | refine Hold_P ?_ | refine prun_go ?_ | refine drun_go ?_); simp -dsimp only [go_sem, Nat.reduceLT, Nat.reduceLeDiff, Nat.reduceEqDiff, Nat.reduceAdd, Nat.reduceMul, Int.reduceNeg, Nat.reduceBEq, reduceCtorEq, ↓reduceIte, d.rh, d.rm, d.ro, d.wh, d.wm, d.wo, l.rd, l.wr, c1, hw3])
          | (refine W_cond rfl (fun h => ?_) (fun h => ?_) <;> (try (cases h; done)))
          | refine W_ret ?_
          | refine W_skip ?_
          | refine W_exit ?_
          | refine then_normal ?_
          | refine then_ret ?_
          | refine then_exit ?_
          | refine inBlock_normal ?_
          | refine inBlock_ret ?_
          | refine inBlock_exit ?_
          | refine inBlock_ne (by decide) ?_
          | refine Hold_E ?_
          | (refine And.intro ?_ ?_; omega)
          | ((first | (refine ite_goB (fun h => ?_) (fun h => ?_) <;> (try exact absurd ((h : _ = false).symm.trans (by assumption : _ = true)) (by decide)) <;> (try exact absurd ((by assumption : _ = false).symm.trans (h : _ = true)) (by decide))) | (refine ite_go (fun h => ?_) (fun h => ?_) <;> (try exact absurd h (by assumption)) <;> (try exact absurd (by assumption) h))) <;> (try refine Hold_P ?_) <;> (try simp -dsimp only [h, go_sem, Nat.reduceLT, Nat.reduceLeDiff, Nat.reduceEqDiff, Nat.reduceAdd, Nat.reduceMul, Int.reduceNeg, Nat.reduceBEq, reduceCtorEq, ↓reduceIte, d.rh, d.rm, d.ro, d.wh, d.wm, d.wo, l.rd, l.wr, c1, hw3]))
          | refine Exists.intro _ (Exists.intro _ (And.intro (And.intro rfl rfl) ?_))
        exact ⟨Env.Sub_of_has (by simp [Env.Has, Env.get, hk1]), Store.Sub.refl _⟩
    · rcases (Bool.eq_false_or_eq_true (ahead lt (ls.getD kk noTh) x)).symm with ha | ha
      · have hend : n ≤ 2 * i + 1 ∨ ahead lt (ls.getD (child lt n ls i) noTh) x = false := .inr (by rw [← hk]; exact ha)
        repeat' first
          | refine W_seq ?_
          | refine W_block ?_
          | ((first | refine W_region (mu := []) ?_ | (refine W_region_any (id := 5) [] ⟨[4,7,8,9], [], [], [], [], [], 0⟩ mixedOrders_ok (by kernel_rfl) ?_; intro nu hn1 hn2) | (refine W_region_any [] ⟨[], [], [], [], [], [], 0⟩ mixedOrders_ok (by kernel_rfl) ?_; intro nu hn1 hn2) | refine fn_ret ?_ | refine fn_normal ?_ | refine Hold_P ?_ | refine prun_go ?_ | refine drun_go ?_); simp -dsimp only [go_sem, Nat.reduceLT, Nat.reduceLeDiff, Nat.reduceEqDiff, Nat.reduceAdd, Nat.reduceMul, Int.reduceNeg, Nat.reduceBEq, reduceCtorEq, ↓reduceIte, d.rh, d.rm, d.ro, d.wh, d.wm, d.wo, l.rd, l.wr, gk, qk, ha])
          | (refine W_cond rfl (fun h => ?_) (fun h => ?_) <;> (try (cases h; done)))
          | refine W_ret ?_
          | refine W_skip ?_
          | refine W_exit ?_
          | refine then_normal ?_
          | refine then_ret ?_
          | refine then_exit ?_
          | refine inBlock_normal ?_
          | refine inBlock_ret ?_
          | refine inBlock_exit ?_
          | refine inBlock_ne (by decide) ?_
          | refine Hold_E ?_
          | (refine And.intro ?_ ?_; omega)
          | ((first | (refine ite_goB (fun h => ?_) (fun h => ?_) <;> (try exact absurd ((h : _ = false).symm.trans (by assumption : _ = true)) (by decide)) <;> (try exact absurd ((by assumption : _ = false).symm.trans (h : _ = true)) (by decide))) | (refine ite_go (fun h => ?_) (fun h => ?_) <;> (try exact absurd h (by assumption)) <;> (try exact absurd (by assumption) h))) <;> (try refine Hold_P ?_) <;> (try simp -dsimp only [h, go_sem, Nat.reduceLT, Nat.reduceLeDiff, Nat.reduceEqDiff, Nat.reduceAdd, Nat.reduceMul, Int.reduceNeg, Nat.reduceBEq, reduceCtorEq, ↓reduceIte, d.rh, d.rm, d.ro, d.wh, d.wm, d.wo, l.rd, l.wr, gk, qk, ha]))
          | refine Exists.intro _ (Exists.intro _ (And.intro (And.intro rfl rfl) ?_))
          | (refine PCall_use (ahead_spec hf (ls.getD kk noTh) x _ (d.rh _ _ _ _ _ _)) ?_; rintro _ _ ⟨rfl, hq⟩; obtain rfl := hq.symm; clear hq)
          | (refine Exists.intro _ (And.intro (fun _ => ahead_spec hf (ls.getD kk noTh) x _ (d.rh _ _ _ _ _ _)) ?_))
          | (refine Exists.intro _ (And.intro (ahead_spec hf (ls.getD kk noTh) x _ (d.rh _ _ _ _ _ _)) ?_))
          | (refine Exists.intro _ (Exists.intro _ (And.intro (ahead_spec hf (ls.getD kk noTh) x _ (d.rh _ _ _ _ _ _)) ?_)))
          | (refine PCall_use (lay_spec d _ n ls b2 em w i b1 x _) ?_; rintro _ _ ⟨rfl, hq⟩; obtain rfl := hq.symm; clear hq)
          | (refine Exists.intro _ (And.intro (fun _ => lay_spec d _ n ls b2 em w i b1 x _) ?_))
          | (refine Exists.intro _ (And.intro (lay_spec d _ n ls b2 em w i b1 x _) ?_))
          | (refine Exists.intro _ (Exists.intro _ (And.intro (lay_spec d _ n ls b2 em w i b1 x _) ?_)))
        exact ⟨_, hsub _ _, ls, em, i, hi, hend, rfl⟩
      · skip
        repeat' first
          | refine W_seq ?_
          | refine W_block ?_
          | ((first | refine W_region (mu := []) ?_ | (refine W_region_any (id := 5) [] ⟨[4,7,8,9], [], [], [], [], [], 0⟩ mixedOrders_ok (by kernel_rfl) ?_; intro nu hn1 hn2) | (refine W_region_any [] ⟨[], [], [], [], [], [], 0⟩ mixedOrders_ok (by kernel_rfl) ?_; intro nu hn1 hn2) | refine fn_ret ?_ | refine fn_normal ?_ | refine Hold_P ?_ | refine prun_go ?_ | refine drun_go ?_); simp -dsimp only [go_sem, Nat.reduceLT, Nat.reduceLeDiff, Nat.reduceEqDiff, Nat.reduceAdd, Nat.reduceMul, Int.reduceNeg, Nat.reduceBEq, reduceCtorEq, ↓reduceIte, d.rh, d.rm, d.ro, d.wh, d.wm, d.wo, l.rd, l.wr, gk, qk, ha])
          | (refine W_cond rfl (fun h => ?_) (fun h => ?_) <;> (try (cases h; done)))
          | refine W_ret ?_
          | refine W_skip ?_
          | refine W_exit ?_
          | refine then_normal ?_
          | refine then_ret ?_
          | refine then_exit ?_
          | refine inBlock_normal ?_
          | refine inBlock_ret ?_
          | refine inBlock_exit ?_
          | refine inBlock_ne (by decide) ?_
          | refine Hold_E ?_
          | (refine And.intro ?_ ?_; omega)
          | ((first | (refine ite_goB (fun h => ?_) (fun h => ?_) <;> (try exact absurd ((h : _ = false).symm.trans (by assumption : _ = true)) (by decide)) <;> (try exact absurd ((by assumption : _ = false).symm.trans (h : _ = true)) (by decide))) | (refine ite_go (fun h => ?_) (fun h => ?_) <;> (try exact absurd h (by assumption)) <;> (try exact absurd (by assumption) h))) <;> (try refine Hold_P ?_) <;> (try simp -dsimp only [h, go_sem, Nat.reduceLT, Nat.reduceLeDiff, Nat.reduceEqDiff, Nat.reduceAdd, Nat.reduceMul, Int.reduceNeg, Nat.reduceBEq, reduceCtorEq, ↓reduceIte, d.rh, d.rm, d.ro, d.wh, d.wm, d.wo, l.rd, l.wr, gk, qk, ha]))
          | refine Exists.intro _ (Exists.intro _ (And.intro (And.intro rfl rfl) ?_))
          | (refine PCall_use (ahead_spec hf (ls.getD kk noTh) x _ (d.rh _ _ _ _ _ _)) ?_; rintro _ _ ⟨rfl, hq⟩; obtain rfl := hq.symm; clear hq)
          | (refine Exists.intro _ (And.intro (fun _ => ahead_spec hf (ls.getD kk noTh) x _ (d.rh _ _ _ _ _ _)) ?_))
          | (refine Exists.intro _ (And.intro (ahead_spec hf (ls.getD kk noTh) x _ (d.rh _ _ _ _ _ _)) ?_))
          | (refine Exists.intro _ (Exists.intro _ (And.intro (ahead_spec hf (ls.getD kk noTh) x _ (d.rh _ _ _ _ _ _)) ?_)))
          | (refine PCall_use (lay_spec d _ n ls b2 em w i b1 (ls.getD kk noTh) _) ?_; rintro _ _ ⟨rfl, hq⟩; obtain rfl := hq.symm; clear hq)
          | (refine Exists.intro _ (And.intro (fun _ => lay_spec d _ n ls b2 em w i b1 (ls.getD kk noTh) _) ?_))
          | (refine Exists.intro _ (And.intro (lay_spec d _ n ls b2 em w i b1 (ls.getD kk noTh) _) ?_))
          | (refine Exists.intro _ (Exists.intro _ (And.intro (lay_spec d _ n ls b2 em w i b1 (ls.getD kk noTh) _) ?_)))
        exact ⟨(ls.set i (ls.getD kk noTh), asetM (ls.getD kk noTh).k i em, kk), by simp only; omega, hstep' ha, Env.Sub_of_has (by simp [Env.Has, Env.get]), Store.Sub.refl _⟩
end Go.Proofs.Ytoekaigdacaghaa.Duo
