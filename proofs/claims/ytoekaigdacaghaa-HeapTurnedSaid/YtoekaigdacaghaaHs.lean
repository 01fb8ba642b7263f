/- The law HeapSorts, as a contract of the abstract layer. Conditions: none. -/
import Derived.Test.YtoekaigdacaghaaHm
set_option linter.unusedVariables false
set_option linter.unusedSimpArgs false
namespace Go.Proofs.Ytoekaigdacaghaa
open Go.Kern
/-- What is known of an answer may be less. -/
theorem PCall_less {P : Program} {f : FuncId} {args : List AV} {σ : Store} {K K' : AV → Store → Prop} (h : PCall P f args σ K) (hk : ∀ r s, K r s → ∃ r', (∀ g v, R g r v → R g r' v) ∧ K' r' s) : PCall P f args σ K' :=
  ⟨h.1, fun g w vs hl hr hc => (h.2 g w vs hl hr hc).mono fun _ _ ⟨v, he, g', r, σ', h1, h2, h3, h4⟩ => by
    obtain ⟨r', h5, h6⟩ := hk _ _ h4
    exact ⟨v, he, g', r', σ', h1, h2, h5 _ _ h3, h6⟩⟩
theorem R_imm {g : Gh} {k : SK} {xs : List AV} {v : Value} (hk : k.isNil = false) (h : R g (.sl k xs) v) : R g (.sl .imm xs) v := by
  cases h with
  | slnil => simp [SK.isNil] at hk
  | sl hkk hs hu hi hr =>
    refine .sl ?_ hs hu hi hr
    cases k with
    | nil => simp [SK.isNil] at hk
    | imm => exact hkk
    | full => have e : _ = _ := hkk; simp only [SKOk]; omega
    | tip o => exact hkk.1
theorem R_tup_imm {g : Gh} {k : SK} {xs : List AV} {b : Bool} {v : Value} (hk : k.isNil = false) (h : R g (.tup [.sl k xs, .bool b]) v) : R g (.tup [.sl .imm xs, .bool b]) v := by
  cases h with
  | tup hl h =>
    refine .tup hl fun i c u hc hu => ?_
    cases i with
    | zero =>
      simp at hc
      subst hc
      exact R_imm hk (h 0 _ u rfl hu)
    | succ i => exact h (i + 1) c u (by simpa using hc) hu

set_option maxRecDepth 100000
set_option maxHeartbeats 4000000
attribute [local go_sem] drun_nil drun_cons prun_nil prun_cons dstOk ev ofConst leafOf Env.putO Env.get envOf readRs_nil oneRes nilSide SK.isNil isMu fillA partsFit boundA SK.cut SK.cutFull SK.fresh rowOk rowsOk_nil rowsOk_cons rowsOk_append rowsOk_ints splice oneOf keyKind zeroFits TK.agg AV.cells AV.known AV.one List.set_cons_zero List.set_cons_succ put_same put_put forall_const implies_true exists_eq_left exists_eq_left' exists_eq_right exists_eq Store.Sub.refl and_self Int.toNat_natCast length_ints List.length_map true_and and_true decide_true decide_false if_true if_false Bool.false_eq_true Bool.true_eq_false List.getElem?_cons_zero List.getElem?_cons_succ List.length_cons List.length_nil List.drop_zero List.drop_succ_cons List.take_succ_cons List.take_zero List.drop_nil List.take_nil List.append_nil List.map_cons List.map_nil List.cons_append List.nil_append beq_self_eq_true Bool.false_beq Bool.true_beq Bool.not_true Bool.not_false Option.map_some Option.map_none Option.bind_some ne_eq not_false_eq_true List.contains_cons List.contains_nil Bool.or_false Bool.or_true Bool.and_true Bool.and_false Bool.true_and Bool.false_and List.all_cons List.all_nil Nat.one_ne_zero Nat.zero_ne_one Option.isSome_some Option.isSome_none List.getElem?_toArray beq_true beq_false decide_eq_true_eq Int.toNat_zero forall_ints take_ints drop_ints Int.le_refl Int.natCast_nonneg Nat.zero_add Nat.add_zero or_true true_or false_or or_false
attribute [local go_sem ↓] allocN guardP OpSem callA readRs_cons readR binA intOpA strOpA nilOpA unA convA boxA allocA behind loadA buildA buildSliceA fieldAddrA fieldA indexAddrA indexA lenA sliceA extractA nilCheckA storeA lookupA mapSetA mapDelA makeSliceA appendA appendN apN
attribute [local irreducible] PCall W

/-- The sum of a text's first i bytes. -/
def sumTo (k : ByteArray) : Nat → Nat
  | 0 => 0
  | i + 1 => sumTo k i + (k.data.getD i 0).toNat
theorem sumTo_le (k : ByteArray) : ∀ i, sumTo k i ≤ 255 * i
  | 0 => by simp [sumTo]
  | i + 1 => by
    have h := sumTo_le k i
    have hb : (k.data.getD i 0).toNat < 256 := (k.data.getD i 0).toNat_lt
    simp only [sumTo]
    omega
def rankZ (ranks : List Int) (k : ByteArray) : Int := if ranks = [] then 0 else ranks.getD (sumTo k k.size % ranks.length) 0

theorem rank_spec (k2 : SK) (ranks : List Int) (k : ByteArray) (hk : k.size ≤ 200) (σ : Store) :
    PCall Try.prog 20 [.str k, .ip (.sl k2 (ints ranks)) 0] σ (fun r t => r = .int .i64 (rankZ ranks k) ∧ t = σ) := by
  refine PCall_q [.tmp 3] 28 Try.func20 (by rfl) rfl rfl rfl rfl ?_
  repeat' first
    | refine W_seq ?_
    | refine W_block ?_
    | ((first | refine W_region (mu := []) ?_ | (refine W_region_any [] ⟨[], [], [], [], []⟩ mixedOrders_ok (by kernel_rfl) ?_; intro nu hn1 hn2) | refine fn_ret ?_ | refine fn_normal ?_ | refine Hold_P ?_ | refine prun_go ?_ | refine drun_go ?_); simp -dsimp only [go_sem, Nat.reduceLT, Nat.reduceLeDiff, Nat.reduceEqDiff, Nat.reduceAdd, Nat.reduceMul, Int.reduceNeg, Nat.reduceBEq, reduceCtorEq, ↓reduceIte])
    | (refine W_cond rfl (fun h => ?_) (fun h => ?_) <;> (try (cases h; done)))
    | refine W_ret ?_
    | refine W_skip ?_
    | refine W_exit ?_
    | refine then_normal ?_
    | refine then_ret ?_
    | refine then_exit ?_
    | refine inBlock_normal ?_
    | refine inBlock_ret ?_
    | refine inBlock_exit ?_
    | refine inBlock_ne (by decide) ?_
    | refine Hold_E ?_
    | (refine And.intro ?_ ?_; omega)
    | ((first | (refine ite_goB (fun h => ?_) (fun h => ?_) <;> (try exact absurd ((h : _ = false).symm.trans (by assumption : _ = true)) (by decide)) <;> (try exact absurd ((by assumption : _ = false).symm.trans (h : _ = true)) (by decide))) | (refine ite_go (fun h => ?_) (fun h => ?_) <;> (try exact absurd h (by assumption)) <;> (try exact absurd (by assumption) h))) <;> (try refine Hold_P ?_) <;> (try simp -dsimp only [h, go_sem, Nat.reduceLT, Nat.reduceLeDiff, Nat.reduceEqDiff, Nat.reduceAdd, Nat.reduceMul, Int.reduceNeg, Nat.reduceBEq, reduceCtorEq, ↓reduceIte]))
    | refine Exists.intro _ (Exists.intro _ (And.intro (And.intro rfl rfl) ?_))
  refine W_loop_st (fun i : Nat => [(0, .str k), (1, .ip (.sl k2 (ints ranks)) 0), (4, .int .i64 (sumTo k i)), (5, .int .i64 i)]) (fun _ => σ) (fun i => i ≤ k.size) (fun i => k.size - i) 0 (Nat.zero_le _) (Env.Sub_of_has (by simp [Env.Has, Env.get, sumTo])) (Store.Sub.refl _) ?_
  rintro i hi
  have hs := sumTo_le k i
  by_cases hlt : i < k.size
  · have c0 : decide ((i : Int) < (k.size : Int)) = true := decT (by omega)
    have q1 : ((i : Int) < (k.size : Int)) = True := eq_true (by omega)
    have hb : (k.data.getD i 0).toNat < 256 := (k.data.getD i 0).toNat_lt
    have w1 : IntKind.i64.wrap (((k.data.getD i 0).toNat : Nat) : Int) = ((k.data.getD i 0).toNat : Int) := wrap64_id (by omega) (by omega)
    have w2 : IntKind.i64.wrap ((sumTo k i : Int) + ((k.data.getD i 0).toNat : Int)) = (sumTo k (i + 1) : Int) := by rw [wrap64_id (by omega) (by omega)]; simp only [sumTo]; omega
    repeat' first
      | refine W_seq ?_
      | refine W_block ?_
      | ((first | refine W_region (mu := []) ?_ | (refine W_region_any [] ⟨[], [], [], [], []⟩ mixedOrders_ok (by kernel_rfl) ?_; intro nu hn1 hn2) | refine fn_ret ?_ | refine fn_normal ?_ | refine Hold_P ?_ | refine prun_go ?_ | refine drun_go ?_); simp -dsimp only [go_sem, Nat.reduceLT, Nat.reduceLeDiff, Nat.reduceEqDiff, Nat.reduceAdd, Nat.reduceMul, Int.reduceNeg, Nat.reduceBEq, reduceCtorEq, ↓reduceIte, c0, q1, w1, w2])
      | (refine W_cond rfl (fun h => ?_) (fun h => ?_) <;> (try (cases h; done)))
      | refine W_ret ?_
      | refine W_skip ?_
      | refine W_exit ?_
      | refine then_normal ?_
      | refine then_ret ?_
      | refine then_exit ?_
      | refine inBlock_normal ?_
      | refine inBlock_ret ?_
      | refine inBlock_exit ?_
      | refine inBlock_ne (by decide) ?_
      | refine Hold_E ?_
      | (refine And.intro ?_ ?_; omega)
      | ((first | (refine ite_goB (fun h => ?_) (fun h => ?_) <;> (try exact absurd ((h : _ = false).symm.trans (by assumption : _ = true)) (by decide)) <;> (try exact absurd ((by assumption : _ = false).symm.trans (h : _ = true)) (by decide))) | (refine ite_go (fun h => ?_) (fun h => ?_) <;> (try exact absurd h (by assumption)) <;> (try exact absurd (by assumption) h))) <;> (try refine Hold_P ?_) <;> (try simp -dsimp only [h, go_sem, Nat.reduceLT, Nat.reduceLeDiff, Nat.reduceEqDiff, Nat.reduceAdd, Nat.reduceMul, Int.reduceNeg, Nat.reduceBEq, reduceCtorEq, ↓reduceIte, c0, q1, w1, w2]))
      | refine Exists.intro _ (Exists.intro _ (And.intro (And.intro rfl rfl) ?_))
    exact ⟨i + 1, by omega, by omega, Env.Sub_of_has (by simp [Env.Has, Env.get, wrap_succ (show i < 4611686018427387904 by omega)]), Store.Sub.refl _⟩
  · have c0 : decide ((i : Int) < (k.size : Int)) = false := decF (by omega)
    have hi' : i = k.size := by omega
    subst hi'
    by_cases hr : ranks = []
    · subst hr
      have h00 : (((0 : Nat) : Int) = 0) = True := by simp
      repeat' first
        | refine W_seq ?_
        | refine W_block ?_
        | ((first | refine W_region (mu := []) ?_ | (refine W_region_any [] ⟨[], [], [], [], []⟩ mixedOrders_ok (by kernel_rfl) ?_; intro nu hn1 hn2) | refine fn_ret ?_ | refine fn_normal ?_ | refine Hold_P ?_ | refine prun_go ?_ | refine drun_go ?_); simp -dsimp only [go_sem, Nat.reduceLT, Nat.reduceLeDiff, Nat.reduceEqDiff, Nat.reduceAdd, Nat.reduceMul, Int.reduceNeg, Nat.reduceBEq, reduceCtorEq, ↓reduceIte, c0, h00])
        | (refine W_cond rfl (fun h => ?_) (fun h => ?_) <;> (try (cases h; done)))
        | refine W_ret ?_
        | refine W_skip ?_
        | refine W_exit ?_
        | refine then_normal ?_
        | refine then_ret ?_
        | refine then_exit ?_
        | refine inBlock_normal ?_
        | refine inBlock_ret ?_
        | refine inBlock_exit ?_
        | refine inBlock_ne (by decide) ?_
        | refine Hold_E ?_
        | (refine And.intro ?_ ?_; omega)
        | ((first | (refine ite_goB (fun h => ?_) (fun h => ?_) <;> (try exact absurd ((h : _ = false).symm.trans (by assumption : _ = true)) (by decide)) <;> (try exact absurd ((by assumption : _ = false).symm.trans (h : _ = true)) (by decide))) | (refine ite_go (fun h => ?_) (fun h => ?_) <;> (try exact absurd h (by assumption)) <;> (try exact absurd (by assumption) h))) <;> (try refine Hold_P ?_) <;> (try simp -dsimp only [h, go_sem, Nat.reduceLT, Nat.reduceLeDiff, Nat.reduceEqDiff, Nat.reduceAdd, Nat.reduceMul, Int.reduceNeg, Nat.reduceBEq, reduceCtorEq, ↓reduceIte, c0, h00]))
        | refine Exists.intro _ (Exists.intro _ (And.intro (And.intro rfl rfl) ?_))
      rfl
    · have hl : 0 < ranks.length := List.length_pos_iff.2 hr
      have h00 : ((ranks.length : Int) = 0) = False := eq_false (by omega)
      have ht : ((sumTo k k.size : Nat) : Int).tmod (ranks.length : Int) = ((sumTo k k.size % ranks.length : Nat) : Int) := rfl
      have hlt : sumTo k k.size % ranks.length < ranks.length := Nat.mod_lt _ hl
      have q1 : (((sumTo k k.size % ranks.length : Nat) : Int) < (ranks.length : Int)) = True := eq_true (by omega)
      have hx := getD_ints hlt
      repeat' first
        | refine W_seq ?_
        | refine W_block ?_
        | ((first | refine W_region (mu := []) ?_ | (refine W_region_any [] ⟨[], [], [], [], []⟩ mixedOrders_ok (by kernel_rfl) ?_; intro nu hn1 hn2) | refine fn_ret ?_ | refine fn_normal ?_ | refine Hold_P ?_ | refine prun_go ?_ | refine drun_go ?_); simp -dsimp only [go_sem, Nat.reduceLT, Nat.reduceLeDiff, Nat.reduceEqDiff, Nat.reduceAdd, Nat.reduceMul, Int.reduceNeg, Nat.reduceBEq, reduceCtorEq, ↓reduceIte, c0, h00, ht, q1, hx])
        | (refine W_cond rfl (fun h => ?_) (fun h => ?_) <;> (try (cases h; done)))
        | refine W_ret ?_
        | refine W_skip ?_
        | refine W_exit ?_
        | refine then_normal ?_
        | refine then_ret ?_
        | refine then_exit ?_
        | refine inBlock_normal ?_
        | refine inBlock_ret ?_
        | refine inBlock_exit ?_
        | refine inBlock_ne (by decide) ?_
        | refine Hold_E ?_
        | (refine And.intro ?_ ?_; omega)
        | ((first | (refine ite_goB (fun h => ?_) (fun h => ?_) <;> (try exact absurd ((h : _ = false).symm.trans (by assumption : _ = true)) (by decide)) <;> (try exact absurd ((by assumption : _ = false).symm.trans (h : _ = true)) (by decide))) | (refine ite_go (fun h => ?_) (fun h => ?_) <;> (try exact absurd h (by assumption)) <;> (try exact absurd (by assumption) h))) <;> (try refine Hold_P ?_) <;> (try simp -dsimp only [h, go_sem, Nat.reduceLT, Nat.reduceLeDiff, Nat.reduceEqDiff, Nat.reduceAdd, Nat.reduceMul, Int.reduceNeg, Nat.reduceBEq, reduceCtorEq, ↓reduceIte, c0, h00, ht, q1, hx]))
        | refine Exists.intro _ (Exists.intro _ (And.intro (And.intro rfl rfl) ?_))
      rw [rankZ, if_neg hr]

theorem rset_imm (kd : SK) (c : List Th) (hc : c.length < 1000000) (hk : Keys c) (k : ByteArray) (r w : Int) (σ : Store) :
    PCall Try.prog 13 [.sl kd (krs c), .str k, .int .i64 r] σ (fun a t => a = .tup [.sl .imm (krs (without c k ++ [⟨k, r, w⟩])), .bool (hasK c k)] ∧ t = σ) := by
  refine PCall_less (rset_spec kd c hc hk k r w σ) ?_
  rintro _ t ⟨⟨kd', rfl⟩, rfl⟩
  refine ⟨_, fun g v h => ?_, rfl, rfl⟩
  cases hn : kd'.isNil with
  | false => exact R_tup_imm hn h
  | true =>
    exfalso
    cases kd' <;> simp [SK.isNil] at hn
    cases h with
    | tup hl h =>
      rename_i vs
      obtain ⟨u, hu⟩ : ∃ u, vs[0]? = some u := ⟨vs[0]'(by rw [← hl]; simp), Array.getElem?_eq_getElem _⟩
      have := h 0 _ u rfl hu
      generalize hx : krs (without c k ++ [⟨k, r, w⟩]) = xs at this
      cases this with
      | slnil => simp [krs] at hx
      | sl hkk _ _ _ _ => exact hkk

/-- The keys' content: each as it comes first. -/
def addK (ranks : List Int) (c : List Th) (k : ByteArray) : List Th := if hasK c k = true then c else c ++ [⟨k, rankZ ranks k, (c.length : Int) + 1⟩]
theorem addK_len (ranks : List Int) (c : List Th) (k : ByteArray) : (addK ranks c k).length ≤ c.length + 1 := by
  unfold addK; split <;> simp
def content (ranks : List Int) (keys : List ByteArray) (i : Nat) : List Th := (keys.take i).foldl (addK ranks) []
theorem content_succ (ranks : List Int) {keys : List ByteArray} {i : Nat} (h : i < keys.length) : content ranks keys (i + 1) = addK ranks (content ranks keys i) (keys.getD i ⟨#[]⟩) := by
  unfold content
  rw [List.take_succ_eq_append_getElem h, List.foldl_append]
  simp [List.getD_eq_getElem?_getD, h]

section
variable {σ : Store} {fi : Nat} {p m : Nat} {v : Option (Nat × Nat × List Th)} {c : List Th} {em : EM} {w : Int} {s : Store}
theorem hasK_find (H : HS σ idr (.fn fi []) p m v c em w s) (k : ByteArray) : (findM k em).isSome = hasK c k := by
  cases hfi : findM k em with
  | none =>
    have hn := H.find_none.1 hfi
    cases h : hasK c k with
    | false => rfl
    | true => obtain ⟨t, h1, h2⟩ := hasK_iff.1 h; exact absurd h2 (hn t h1)
  | some i =>
    symm
    rw [Option.isSome_some, hasK_iff]
    refine Classical.byContradiction fun h => ?_
    have := H.find_none.2 (fun t ht e => h ⟨t, ht, e⟩)
    rw [this] at hfi; cases hfi
end

theorem sort_spec (kd k2 : SK) (ranks : List Int) (keys : List ByteArray) (hl : keys.length ≤ 60) (hs : ∀ i, i < keys.length → (keys.getD i ⟨#[]⟩).size ≤ 200) (σ : Store) :
    PCall Try.prog 22 [.sl kd (strs keys), .fn 20 [.ip (.sl k2 (ints ranks)) 0], .fn 23 []] σ
      (fun r t => (∃ kd' l, PopSeq idr (content ranks keys keys.length) l ∧ r = .sl kd' (strs l) ∧ l.length ≤ 60) ∧ t = σ) := by
  have getS : ∀ {l : List ByteArray} {i : Nat}, i < l.length → (strs l).getD i .any = .str (l.getD i ⟨#[]⟩) := fun h => getD_map AV.str ⟨#[]⟩ h
  refine PCall_w [.tmp 6] 40 Try.func22 (by rfl) rfl rfl rfl rfl ?_
  repeat' first
    | refine W_seq ?_
    | refine W_block ?_
    | ((first | refine W_region (mu := []) ?_ | (refine W_region_any [] ⟨[], [], [], [], []⟩ mixedOrders_ok (by kernel_rfl) ?_; intro nu hn1 hn2) | refine fn_ret ?_ | refine fn_normal ?_ | refine Hold_P ?_ | refine prun_go ?_ | refine drun_go ?_); simp -dsimp only [go_sem, Nat.reduceLT, Nat.reduceLeDiff, Nat.reduceEqDiff, Nat.reduceAdd, Nat.reduceMul, Int.reduceNeg, Nat.reduceBEq, reduceCtorEq, ↓reduceIte])
    | (refine W_cond rfl (fun h => ?_) (fun h => ?_) <;> (try (cases h; done)))
    | refine W_ret ?_
    | refine W_skip ?_
    | refine W_exit ?_
    | refine then_normal ?_
    | refine then_ret ?_
    | refine then_exit ?_
    | refine inBlock_normal ?_
    | refine inBlock_ret ?_
    | refine inBlock_exit ?_
    | refine inBlock_ne (by decide) ?_
    | refine Hold_E ?_
    | (refine And.intro ?_ ?_; omega)
    | ((first | (refine ite_goB (fun h => ?_) (fun h => ?_) <;> (try exact absurd ((h : _ = false).symm.trans (by assumption : _ = true)) (by decide)) <;> (try exact absurd ((by assumption : _ = false).symm.trans (h : _ = true)) (by decide))) | (refine ite_go (fun h => ?_) (fun h => ?_) <;> (try exact absurd h (by assumption)) <;> (try exact absurd (by assumption) h))) <;> (try refine Hold_P ?_) <;> (try simp -dsimp only [h, go_sem, Nat.reduceLT, Nat.reduceLeDiff, Nat.reduceEqDiff, Nat.reduceAdd, Nat.reduceMul, Int.reduceNeg, Nat.reduceBEq, reduceCtorEq, ↓reduceIte]))
    | refine Exists.intro _ (Exists.intro _ (And.intro (And.intro rfl rfl) ?_))
  refine PCall_use (new_spec idr _ σ) ?_
  rintro _ s0 ⟨p, m, rfl, H0⟩
  repeat' first
    | refine W_seq ?_
    | refine W_block ?_
    | ((first | refine W_region (mu := []) ?_ | (refine W_region_any [] ⟨[], [], [], [], []⟩ mixedOrders_ok (by kernel_rfl) ?_; intro nu hn1 hn2) | refine fn_ret ?_ | refine fn_normal ?_ | refine Hold_P ?_ | refine prun_go ?_ | refine drun_go ?_); simp -dsimp only [go_sem, Nat.reduceLT, Nat.reduceLeDiff, Nat.reduceEqDiff, Nat.reduceAdd, Nat.reduceMul, Int.reduceNeg, Nat.reduceBEq, reduceCtorEq, ↓reduceIte])
    | (refine W_cond rfl (fun h => ?_) (fun h => ?_) <;> (try (cases h; done)))
    | refine W_ret ?_
    | refine W_skip ?_
    | refine W_exit ?_
    | refine then_normal ?_
    | refine then_ret ?_
    | refine then_exit ?_
    | refine inBlock_normal ?_
    | refine inBlock_ret ?_
    | refine inBlock_exit ?_
    | refine inBlock_ne (by decide) ?_
    | refine Hold_E ?_
    | (refine And.intro ?_ ?_; omega)
    | ((first | (refine ite_goB (fun h => ?_) (fun h => ?_) <;> (try exact absurd ((h : _ = false).symm.trans (by assumption : _ = true)) (by decide)) <;> (try exact absurd ((by assumption : _ = false).symm.trans (h : _ = true)) (by decide))) | (refine ite_go (fun h => ?_) (fun h => ?_) <;> (try exact absurd h (by assumption)) <;> (try exact absurd (by assumption) h))) <;> (try refine Hold_P ?_) <;> (try simp -dsimp only [h, go_sem, Nat.reduceLT, Nat.reduceLeDiff, Nat.reduceEqDiff, Nat.reduceAdd, Nat.reduceMul, Int.reduceNeg, Nat.reduceBEq, reduceCtorEq, ↓reduceIte]))
    | refine Exists.intro _ (Exists.intro _ (And.intro (And.intro rfl rfl) ?_))
  refine W_loop_st (fun a : Nat × Option (Nat × Nat × List Th) × EM × Store => [(1, .fn 20 [.ip (.sl k2 (ints ranks)) 0]), (7, .ptr p 0 0), (14, .sl kd (strs keys)), (15, .int .i64 keys.length), (16, .int .i64 a.1)]) (fun a => a.2.2.2)
    (fun a => a.1 ≤ keys.length ∧ (content ranks keys a.1).length ≤ a.1 ∧ HS σ idr (.fn 23 []) p m a.2.1 (content ranks keys a.1) a.2.2.1 ((content ranks keys a.1).length : Int) a.2.2.2) (fun a => keys.length - a.1) (0, none, [], s0) ⟨Nat.zero_le _, Nat.le_refl _, H0⟩ (Env.Sub_of_has (by simp [Env.Has, Env.get, length_strs])) (Store.Sub.refl _) ?_
  rintro ⟨i, v, em, T⟩ ⟨hi, hcl, H⟩
  simp only at hi hcl H
  by_cases hlt : i < keys.length
  · have c0 : decide ((i : Int) < (keys.length : Int)) = true := decT (by omega)
    have q1 : ((i : Int) < (keys.length : Int)) = True := eq_true (by omega)
    have hx := getS hlt
    have hsz := hs i hlt
    have hsc := wrap_succ (show i < 4611686018427387904 by omega)
    have hcs := content_succ ranks hlt
    obtain ⟨k, hk⟩ : ∃ k, k = keys.getD i ⟨#[]⟩ := ⟨_, rfl⟩
    rw [← hk] at hx hsz hcs
    have hm := H.rm
    have he := find_es k em
    have hhk := hasK_find H k
    obtain ⟨x, hp⟩ := H.ptr
    cases hfi : findM k em with
    | some j =>
      rw [hfi] at he hhk
      have hc2 : content ranks keys (i + 1) = content ranks keys i := by rw [hcs, addK, if_pos (show hasK (content ranks keys i) k = true from hhk.symm)]
      repeat' first
        | refine W_seq ?_
        | refine W_block ?_
        | ((first | refine W_region (mu := []) ?_ | (refine W_region_any [] ⟨[], [], [], [], []⟩ mixedOrders_ok (by kernel_rfl) ?_; intro nu hn1 hn2) | refine fn_ret ?_ | refine fn_normal ?_ | refine Hold_P ?_ | refine prun_go ?_ | refine drun_go ?_); simp -dsimp only [go_sem, Nat.reduceLT, Nat.reduceLeDiff, Nat.reduceEqDiff, Nat.reduceAdd, Nat.reduceMul, Int.reduceNeg, Nat.reduceBEq, reduceCtorEq, ↓reduceIte, length_strs, c0, q1, hx, hp, hm, he, all_es])
        | (refine W_cond rfl (fun h => ?_) (fun h => ?_) <;> (try (cases h; done)))
        | refine W_ret ?_
        | refine W_skip ?_
        | refine W_exit ?_
        | refine then_normal ?_
        | refine then_ret ?_
        | refine then_exit ?_
        | refine inBlock_normal ?_
        | refine inBlock_ret ?_
        | refine inBlock_exit ?_
        | refine inBlock_ne (by decide) ?_
        | refine Hold_E ?_
        | (refine And.intro ?_ ?_; omega)
        | ((first | (refine ite_goB (fun h => ?_) (fun h => ?_) <;> (try exact absurd ((h : _ = false).symm.trans (by assumption : _ = true)) (by decide)) <;> (try exact absurd ((by assumption : _ = false).symm.trans (h : _ = true)) (by decide))) | (refine ite_go (fun h => ?_) (fun h => ?_) <;> (try exact absurd h (by assumption)) <;> (try exact absurd (by assumption) h))) <;> (try refine Hold_P ?_) <;> (try simp -dsimp only [h, go_sem, Nat.reduceLT, Nat.reduceLeDiff, Nat.reduceEqDiff, Nat.reduceAdd, Nat.reduceMul, Int.reduceNeg, Nat.reduceBEq, reduceCtorEq, ↓reduceIte, length_strs, c0, q1, hx, hp, hm, he, all_es]))
        | refine Exists.intro _ (Exists.intro _ (And.intro (And.intro rfl rfl) ?_))
      exact ⟨(i + 1, v, em, T), by simp only; omega, ⟨by simp only; omega, by simp only; rw [hc2]; omega, by simp only; rw [hc2]; exact H⟩, Env.Sub_of_has (by simp [Env.Has, Env.get, hsc]), Store.Sub.refl _⟩
    | none =>
      rw [hfi] at he hhk
      have hnk : hasK (content ranks keys i) k = false := hhk.symm
      have hno : without (content ranks keys i) k = content ranks keys i := without_none (H.find_none.1 hfi)
      have hc2 : content ranks keys (i + 1) = content ranks keys i ++ [⟨k, rankZ ranks k, ((content ranks keys i).length : Int) + 1⟩] := by rw [hcs, addK, if_neg (by rw [hnk]; simp)]
      repeat' first
        | refine W_seq ?_
        | refine W_block ?_
        | ((first | refine W_region (mu := []) ?_ | (refine W_region_any [] ⟨[], [], [], [], []⟩ mixedOrders_ok (by kernel_rfl) ?_; intro nu hn1 hn2) | refine fn_ret ?_ | refine fn_normal ?_ | refine Hold_P ?_ | refine prun_go ?_ | refine drun_go ?_); simp -dsimp only [go_sem, Nat.reduceLT, Nat.reduceLeDiff, Nat.reduceEqDiff, Nat.reduceAdd, Nat.reduceMul, Int.reduceNeg, Nat.reduceBEq, reduceCtorEq, ↓reduceIte, length_strs, c0, q1, hx, hp, hm, he, all_es])
        | (refine W_cond rfl (fun h => ?_) (fun h => ?_) <;> (try (cases h; done)))
        | refine W_ret ?_
        | refine W_skip ?_
        | refine W_exit ?_
        | refine then_normal ?_
        | refine then_ret ?_
        | refine then_exit ?_
        | refine inBlock_normal ?_
        | refine inBlock_ret ?_
        | refine inBlock_exit ?_
        | refine inBlock_ne (by decide) ?_
        | refine Hold_E ?_
        | (refine And.intro ?_ ?_; omega)
        | ((first | (refine ite_goB (fun h => ?_) (fun h => ?_) <;> (try exact absurd ((h : _ = false).symm.trans (by assumption : _ = true)) (by decide)) <;> (try exact absurd ((by assumption : _ = false).symm.trans (h : _ = true)) (by decide))) | (refine ite_go (fun h => ?_) (fun h => ?_) <;> (try exact absurd h (by assumption)) <;> (try exact absurd (by assumption) h))) <;> (try refine Hold_P ?_) <;> (try simp -dsimp only [h, go_sem, Nat.reduceLT, Nat.reduceLeDiff, Nat.reduceEqDiff, Nat.reduceAdd, Nat.reduceMul, Int.reduceNeg, Nat.reduceBEq, reduceCtorEq, ↓reduceIte, length_strs, c0, q1, hx, hp, hm, he, all_es]))
        | refine Exists.intro _ (Exists.intro _ (And.intro (And.intro rfl rfl) ?_))
        | (refine PCall_use (rank_spec k2 ranks k hsz _) ?_; rintro _ _ ⟨rfl, hq⟩; obtain rfl := hq.symm; clear hq)
        | (refine Exists.intro _ (And.intro (fun _ => rank_spec k2 ranks k hsz _) ?_))
        | (refine Exists.intro _ (And.intro (rank_spec k2 ranks k hsz _) ?_))
        | (refine Exists.intro _ (Exists.intro _ (And.intro (rank_spec k2 ranks k hsz _) ?_)))
      refine PCall_use (set_spec byRank_I less_spec H (by omega) (by omega) k (rankZ ranks k)) ?_
      rintro _ T' ⟨v', em', rfl, H'⟩
      rw [hno, ← hc2] at H'
      have hl2 : ((content ranks keys i).length : Int) + 1 = ((content ranks keys (i + 1)).length : Int) := by rw [hc2]; simp
      rw [hl2] at H'
      repeat' first
        | refine W_seq ?_
        | refine W_block ?_
        | ((first | refine W_region (mu := []) ?_ | (refine W_region_any [] ⟨[], [], [], [], []⟩ mixedOrders_ok (by kernel_rfl) ?_; intro nu hn1 hn2) | refine fn_ret ?_ | refine fn_normal ?_ | refine Hold_P ?_ | refine prun_go ?_ | refine drun_go ?_); simp -dsimp only [go_sem, Nat.reduceLT, Nat.reduceLeDiff, Nat.reduceEqDiff, Nat.reduceAdd, Nat.reduceMul, Int.reduceNeg, Nat.reduceBEq, reduceCtorEq, ↓reduceIte])
        | (refine W_cond rfl (fun h => ?_) (fun h => ?_) <;> (try (cases h; done)))
        | refine W_ret ?_
        | refine W_skip ?_
        | refine W_exit ?_
        | refine then_normal ?_
        | refine then_ret ?_
        | refine then_exit ?_
        | refine inBlock_normal ?_
        | refine inBlock_ret ?_
        | refine inBlock_exit ?_
        | refine inBlock_ne (by decide) ?_
        | refine Hold_E ?_
        | (refine And.intro ?_ ?_; omega)
        | ((first | (refine ite_goB (fun h => ?_) (fun h => ?_) <;> (try exact absurd ((h : _ = false).symm.trans (by assumption : _ = true)) (by decide)) <;> (try exact absurd ((by assumption : _ = false).symm.trans (h : _ = true)) (by decide))) | (refine ite_go (fun h => ?_) (fun h => ?_) <;> (try exact absurd h (by assumption)) <;> (try exact absurd (by assumption) h))) <;> (try refine Hold_P ?_) <;> (try simp -dsimp only [h, go_sem, Nat.reduceLT, Nat.reduceLeDiff, Nat.reduceEqDiff, Nat.reduceAdd, Nat.reduceMul, Int.reduceNeg, Nat.reduceBEq, reduceCtorEq, ↓reduceIte]))
        | refine Exists.intro _ (Exists.intro _ (And.intro (And.intro rfl rfl) ?_))
      exact ⟨(i + 1, v', em', T'), by simp only; omega, ⟨by simp only; omega, by simp only; omega, H'⟩, Env.Sub_of_has (by simp [Env.Has, Env.get, hsc]), Store.Sub.refl _⟩
  · have c0 : decide ((i : Int) < (keys.length : Int)) = false := decF (by omega)
    have hi' : i = keys.length := by omega
    subst hi'
    repeat' first
      | refine W_seq ?_
      | refine W_block ?_
      | ((first | refine W_region (mu := []) ?_ | (refine W_region_any [] ⟨[], [], [], [], []⟩ mixedOrders_ok (by kernel_rfl) ?_; intro nu hn1 hn2) | refine fn_ret ?_ | refine fn_normal ?_ | refine Hold_P ?_ | refine prun_go ?_ | refine drun_go ?_); simp -dsimp only [go_sem, Nat.reduceLT, Nat.reduceLeDiff, Nat.reduceEqDiff, Nat.reduceAdd, Nat.reduceMul, Int.reduceNeg, Nat.reduceBEq, reduceCtorEq, ↓reduceIte, length_strs, c0])
      | (refine W_cond rfl (fun h => ?_) (fun h => ?_) <;> (try (cases h; done)))
      | refine W_ret ?_
      | refine W_skip ?_
      | refine W_exit ?_
      | refine then_normal ?_
      | refine then_ret ?_
      | refine then_exit ?_
      | refine inBlock_normal ?_
      | refine inBlock_ret ?_
      | refine inBlock_exit ?_
      | refine inBlock_ne (by decide) ?_
      | refine Hold_E ?_
      | (refine And.intro ?_ ?_; omega)
      | ((first | (refine ite_goB (fun h => ?_) (fun h => ?_) <;> (try exact absurd ((h : _ = false).symm.trans (by assumption : _ = true)) (by decide)) <;> (try exact absurd ((by assumption : _ = false).symm.trans (h : _ = true)) (by decide))) | (refine ite_go (fun h => ?_) (fun h => ?_) <;> (try exact absurd h (by assumption)) <;> (try exact absurd (by assumption) h))) <;> (try refine Hold_P ?_) <;> (try simp -dsimp only [h, go_sem, Nat.reduceLT, Nat.reduceLeDiff, Nat.reduceEqDiff, Nat.reduceAdd, Nat.reduceMul, Int.reduceNeg, Nat.reduceBEq, reduceCtorEq, ↓reduceIte, length_strs, c0]))
      | refine Exists.intro _ (Exists.intro _ (And.intro (And.intro rfl rfl) ?_))
    refine PCall_use (all_spec byRank_I less_spec H) ?_
    rintro _ T2 ⟨⟨k3, l, h1, rfl, _⟩, hq⟩
    obtain rfl := hq.symm
    clear hq
    have hll := h1.len H.srt
    repeat' first
      | refine W_seq ?_
      | refine W_block ?_
      | ((first | refine W_region (mu := []) ?_ | (refine W_region_any [] ⟨[], [], [], [], []⟩ mixedOrders_ok (by kernel_rfl) ?_; intro nu hn1 hn2) | refine fn_ret ?_ | refine fn_normal ?_ | refine Hold_P ?_ | refine prun_go ?_ | refine drun_go ?_); simp -dsimp only [go_sem, Nat.reduceLT, Nat.reduceLeDiff, Nat.reduceEqDiff, Nat.reduceAdd, Nat.reduceMul, Int.reduceNeg, Nat.reduceBEq, reduceCtorEq, ↓reduceIte])
      | (refine W_cond rfl (fun h => ?_) (fun h => ?_) <;> (try (cases h; done)))
      | refine W_ret ?_
      | refine W_skip ?_
      | refine W_exit ?_
      | refine then_normal ?_
      | refine then_ret ?_
      | refine then_exit ?_
      | refine inBlock_normal ?_
      | refine inBlock_ret ?_
      | refine inBlock_exit ?_
      | refine inBlock_ne (by decide) ?_
      | refine Hold_E ?_
      | (refine And.intro ?_ ?_; omega)
      | ((first | (refine ite_goB (fun h => ?_) (fun h => ?_) <;> (try exact absurd ((h : _ = false).symm.trans (by assumption : _ = true)) (by decide)) <;> (try exact absurd ((by assumption : _ = false).symm.trans (h : _ = true)) (by decide))) | (refine ite_go (fun h => ?_) (fun h => ?_) <;> (try exact absurd h (by assumption)) <;> (try exact absurd (by assumption) h))) <;> (try refine Hold_P ?_) <;> (try simp -dsimp only [h, go_sem, Nat.reduceLT, Nat.reduceLeDiff, Nat.reduceEqDiff, Nat.reduceAdd, Nat.reduceMul, Int.reduceNeg, Nat.reduceBEq, reduceCtorEq, ↓reduceIte]))
      | refine Exists.intro _ (Exists.intro _ (And.intro (And.intro rfl rfl) ?_))
    exact ⟨σ, H.sub, ⟨_, l, h1, rfl, by omega⟩, rfl⟩
end Go.Proofs.Ytoekaigdacaghaa
