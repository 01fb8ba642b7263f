/- Contract of a heap's All. Conditions: none. -/
import Derived.Test.YtoekaigdacaghaaHf
set_option linter.unusedVariables false
set_option linter.unusedSimpArgs false
namespace Go.Proofs.Ytoekaigdacaghaa
open Go.Kern
set_option maxRecDepth 100000
set_option maxHeartbeats 4000000
attribute [local go_sem] drun_nil drun_cons prun_nil prun_cons wrOk tqOk lateOp lateB dstOk ev ofConst leafOf Env.putO Env.get envOf readRs_nil oneRes nilSide SK.isNil isMu fillA partsFit boundA SK.cut SK.cutFull SK.fresh rowOk rowsOk_nil rowsOk_cons rowsOk_append rowsOk_ints splice oneOf keyKind cellsKind cellKind cellsB cellB zeroFits TK.agg AV.cells AV.known AV.one List.set_cons_zero List.set_cons_succ put_same put_put forall_const implies_true exists_eq_left exists_eq_left' exists_eq_right exists_eq Store.Sub.refl and_self Int.toNat_natCast length_ints List.length_map true_and and_true decide_true decide_false if_true if_false Bool.false_eq_true Bool.true_eq_false List.getElem?_cons_zero List.getElem?_cons_succ List.length_cons List.length_nil List.drop_zero List.drop_succ_cons List.take_succ_cons List.take_zero List.drop_nil List.take_nil List.append_nil List.map_cons List.map_nil List.cons_append List.nil_append beq_self_eq_true Bool.false_beq Bool.true_beq Bool.not_true Bool.not_false Option.map_some Option.map_none Option.bind_some ne_eq not_false_eq_true List.contains_cons List.contains_nil Bool.or_false Bool.or_true Bool.and_true Bool.and_false Bool.true_and Bool.false_and List.all_cons List.all_nil Nat.one_ne_zero Nat.zero_ne_one Option.isSome_some Option.isSome_none List.getElem?_toArray beq_true beq_false decide_eq_true_eq Int.toNat_zero forall_ints take_ints drop_ints Int.le_refl Int.natCast_nonneg Nat.zero_add Nat.add_zero or_true true_or false_or or_false
attribute [local go_sem ↓] allocN guardP OpSem callA readRs_cons readR binA intOpA strOpA nilOpA unA convA boxA allocA behind loadA buildA buildSliceA fieldAddrA fieldA indexAddrA indexA lenA sliceA extractA nilCheckA storeA lookupA mapSetA mapDelA makeSliceA appendA appendN apN
attribute [local irreducible] PCall W

def strs (l : List ByteArray) : List AV := l.map .str
theorem length_strs (l : List ByteArray) : (strs l).length = l.length := by simp [strs]
theorem rowsOk_strs (l : List ByteArray) : rowsOk 1 (strs l) = true := rowsOk_map 1 _ (fun _ => rfl) l
theorem strs_snoc (l : List ByteArray) (k : ByteArray) : strs l ++ [.str k] = strs (l ++ [k]) := by simp [strs]

/-- The keys one by one, the most urgent one first. -/
inductive PopSeq (ρ : Int → Int) : List Th → List ByteArray → Prop
  | nil : PopSeq ρ [] []
  | cons {c : List Th} {t : Th} {l : List ByteArray} (ht : t ∈ c) (hl : ∀ u, u ∈ c → ¬ lex ρ u t) (h : PopSeq ρ (without c t.k) l) : PopSeq ρ c (t.k :: l)

/-- The map from keys to places of a row's first i. -/
def mkE (ls : List Th) : Nat → EM
  | 0 => []
  | i + 1 => asetM (ls.getD i noTh).k i (mkE ls i)
theorem mkE_uk (ls : List Th) : ∀ i, UK (mkE ls i)
  | 0 => .nil
  | i + 1 => UK_aset _ _ (mkE_uk ls i)
theorem mkE_none (ls : List Th) (k : ByteArray) : ∀ i, (∀ j, j < i → (ls.getD j noTh).k ≠ k) → findM k (mkE ls i) = none
  | 0, _ => rfl
  | i + 1, h => by
    rw [mkE, findM_aset, if_neg (fun e => h i (by omega) e.symm)]
    exact mkE_none ls k i fun j hj => h j (by omega)
theorem mkE_some (ls : List Th) : ∀ i, (∀ a b, a < i → b < i → b ≠ a → (ls.getD b noTh).k ≠ (ls.getD a noTh).k) → ∀ j, j < i → findM (ls.getD j noTh).k (mkE ls i) = some j
  | 0, _, j, hj => by omega
  | i + 1, h, j, hj => by
    rw [mkE, findM_aset]
    by_cases e : j = i
    · subst e; rw [if_pos rfl]
    · rw [if_neg (h i j (by omega) hj e)]
      exact mkE_some ls i (fun a b ha hb => h a b (by omega) (by omega)) j (by omega)
theorem getD_take {ls : List Th} {n j : Nat} (h : j < n) : (ls.take n).getD j noTh = ls.getD j noTh := by
  simp only [List.getD_eq_getElem?_getD]
  rw [List.getElem?_take, if_pos h]
theorem Heap.copy {ρ : Int → Int} {c : List Th} {n : Nat} {ls : List Th} {em : EM} (h : Heap ρ c n ls em) : Heap ρ c n (ls.take n) (mkE ls n) := by
  have hl := h.len
  have htl : (ls.take n).length = n := by rw [List.length_take]; omega
  refine ⟨by omega, by have := h.big; omega, h.cnt, fun j hj => by rw [getD_take hj]; exact h.mem j hj, fun t ht => ?_, fun j hj => ?_, fun k hk => ?_, mkE_uk _ _, fun j hj hjn => ?_⟩
  · obtain ⟨j, hj, e⟩ := h.sur t ht
    exact ⟨j, hj, by rw [getD_take hj]; exact e⟩
  · rw [getD_take hj]
    exact mkE_some ls n (fun a b ha hb hne => h.other ha hb hne) j hj
  · exact mkE_none ls k n fun j hj => hk _ (h.mem j hj)
  · rw [getD_take hjn, getD_take (by omega)]; exact h.ord j hj hjn

section
variable {σ : Store} {ρ : Int → Int} {lt : Int → Int → Bool} {fi : Nat} {p m : Nat} {v : Option (Nat × Nat × List Th)} {c : List Th} {em : EM} {w : Int} {s : Store}

/-- An object beside the heap is made or written. -/
theorem HS.put_base (H : HS σ ρ (.fn fi []) p m v c em w s) {q : Nat} (y : Ob) (hq : (∃ x, σ q = some x) ∨ s q = none) : HS (σ.put q y) ρ (.fn fi []) p m v c em w (s.put q y) := by
  have ne : ∀ {r : Nat} {x : Ob}, σ r = none → s r = some x → r ≠ q := by
    rintro r x h1 h2 rfl
    rcases hq with ⟨z, h⟩ | h
    · rw [h] at h1; cases h1
    · rw [h] at h2; cases h2
  obtain ⟨x, hx⟩ := H.ptr
  have np := ne H.fh hx
  have nm := ne H.fm H.rm
  refine ⟨fun r z hr => ?_, by rw [put_ne np]; exact H.fh, by rw [put_ne nm]; exact H.fm, H.hm, by rw [put_ne nm]; exact H.rm, H.lo, H.hi, H.srt, H.top, fun e => ?_, fun o n ls e => ?_⟩
  · simp only [Store.put] at hr ⊢
    split
    · rename_i e; rw [if_pos e] at hr; exact hr
    · rename_i e; rw [if_neg e] at hr; exact H.sub r z hr
  · obtain ⟨h1, h2, h3⟩ := H.nil e
    exact ⟨h1, h2, by rw [put_ne np]; exact h3⟩
  · obtain ⟨h1, h2, h3, h4, h5⟩ := H.row o n ls e
    have no := ne h1 h4
    exact ⟨by rw [put_ne no]; exact h1, h2, by rw [put_ne np]; exact h3, by rw [put_ne no]; exact h4, h5⟩

/-- Popping till nothing is left. -/
theorem without_shorter {c : List Th} (hs : c.Pairwise fun a b => a.w < b.w ∧ a.k ≠ b.k) {t : Th} (ht : t ∈ c) : (without c t.k).length < c.length := by
  have := without_len hs ⟨t, ht, rfl⟩
  omega

theorem HS.set_when (H : HS σ ρ (.fn fi []) p m none [] [] 0 s) {w : Int} (h1 : 0 ≤ w) (h2 : w < 1000000) : HS σ ρ (.fn fi []) p m none [] [] w (s.put p (.arr [.agg [.fn fi [], .sl .nil [], .map m, .int .i64 w]])) :=
  ⟨Sub_put H.sub H.fh _, H.fh, H.fm, H.hm, by rw [put_ne (fun e => H.hm e.symm)]; exact H.rm, h1, h2, .nil, nofun, fun _ => ⟨rfl, rfl, put_same _ _ _⟩, nofun⟩

/-- A copy under way: i things are in it. -/
structure Copy (s : Store) (f : AV) (p2 m2 : Nat) (w : Int) (ls : List Th) (i o2 : Nat) (S : Store) : Prop where
  sub : s.Sub S
  fp : s p2 = none
  fm : s m2 = none
  hm : p2 ≠ m2
  rm : S m2 = some (.map (esA (mkE ls i)))
  zero : i = 0 → S p2 = some (.arr [.agg [f, .sl .nil [], .map m2, .int .i64 w]])
  more : i ≠ 0 → s o2 = none ∧ Apart p2 m2 o2 ∧ S p2 = some (.arr [.agg [f, .ms o2 3 0 i, .map m2, .int .i64 w]]) ∧ S o2 = some (.arr (things (ls.take i)))

theorem Copy.done {n o2 : Nat} {ls : List Th} {p2 m2 : Nat} {S : Store} (h : Copy s (.fn fi []) p2 m2 w ls n o2 S) (hp : Heap ρ c n ls em) (h1 : 0 ≤ w) (h2 : w < 1000000) (srt : c.Pairwise fun a b => a.w < b.w ∧ a.k ≠ b.k) (top : ∀ t, t ∈ c → t.w ≤ w) :
    ∃ v2, HS s ρ (.fn fi []) p2 m2 v2 c (mkE ls n) w S := by
  by_cases e : n = 0
  · subst e
    have hc : c = [] := List.eq_nil_of_length_eq_zero hp.cnt.symm
    subst hc
    exact ⟨none, h.sub, h.fp, h.fm, h.hm, h.rm, h1, h2, srt, top, fun _ => ⟨rfl, rfl, h.zero rfl⟩, nofun⟩
  · obtain ⟨a1, a2, a3, a4⟩ := h.more e
    refine ⟨some (o2, n, ls.take n), h.sub, h.fp, h.fm, h.hm, h.rm, h1, h2, srt, top, nofun, fun _ _ _ e => ?_⟩
    injection e with e
    injection e with e1 e
    injection e with e2 e3
    subst e1; subst e2; subst e3
    exact ⟨a1, a2, a3, a4, hp.copy⟩

theorem things_snoc {ls : List Th} {i : Nat} (h : i < ls.length) : things (ls.take i) ++ [.agg [.str (ls.getD i noTh).k, .int .i64 (ls.getD i noTh).r, .int .i64 (ls.getD i noTh).w]] = things (ls.take (i + 1)) := by
  rw [List.take_succ_eq_append_getElem h, getD_th h]
  unfold things
  rw [List.map_append]; rfl

theorem all_spec (hr : ByRank ρ lt) (hf : Less fi lt) (H : HS σ ρ (.fn fi []) p m v c em w s) :
    PCall Try.prog 17 [.ptr p 0 0] s (fun r t => (∃ kd l, PopSeq ρ c l ∧ r = .sl kd (strs l) ∧ (kd.isNil = true → l = [])) ∧ t = s) := by
  obtain ⟨xv, hx⟩ := H.ptr
  refine PCall_w [.tmp 2] 66 Try.func17 (by rfl) rfl rfl rfl rfl ?_
  repeat' first
    | refine W_seq ?_
    | refine W_block ?_
    | ((first | refine W_region (mu := []) ?_ | (refine W_region_any [] ⟨[], [], [], [], [], [], 0⟩ mixedOrders_ok (by kernel_rfl) ?_; intro nu hn1 hn2) | refine fn_ret ?_ | refine fn_normal ?_ | refine Hold_P ?_ | refine prun_go ?_ | refine drun_go ?_); simp -dsimp only [go_sem, Nat.reduceLT, Nat.reduceLeDiff, Nat.reduceEqDiff, Nat.reduceAdd, Nat.reduceMul, Int.reduceNeg, Nat.reduceBEq, reduceCtorEq, ↓reduceIte, hx])
    | (refine W_cond rfl (fun h => ?_) (fun h => ?_) <;> (try (cases h; done)))
    | refine W_ret ?_
    | refine W_skip ?_
    | refine W_exit ?_
    | refine then_normal ?_
    | refine then_ret ?_
    | refine then_exit ?_
    | refine inBlock_normal ?_
    | refine inBlock_ret ?_
    | refine inBlock_exit ?_
    | refine inBlock_ne (by decide) ?_
    | refine Hold_E ?_
    | (refine And.intro ?_ ?_; omega)
    | ((first | (refine ite_goB (fun h => ?_) (fun h => ?_) <;> (try exact absurd ((h : _ = false).symm.trans (by assumption : _ = true)) (by decide)) <;> (try exact absurd ((by assumption : _ = false).symm.trans (h : _ = true)) (by decide))) | (refine ite_go (fun h => ?_) (fun h => ?_) <;> (try exact absurd h (by assumption)) <;> (try exact absurd (by assumption) h))) <;> (try refine Hold_P ?_) <;> (try simp -dsimp only [h, go_sem, Nat.reduceLT, Nat.reduceLeDiff, Nat.reduceEqDiff, Nat.reduceAdd, Nat.reduceMul, Int.reduceNeg, Nat.reduceBEq, reduceCtorEq, ↓reduceIte, hx]))
    | refine Exists.intro _ (Exists.intro _ (And.intro (And.intro rfl rfl) ?_))
  refine PCall_use (new_spec ρ fi s) ?_
  rintro _ s1 ⟨p2, m2, rfl, H2⟩
  have hx1 := H2.sub _ _ hx
  have h2 := (H2.nil rfl).2.2
  have H3 := H2.set_when H.lo H.hi
  obtain ⟨S, hS⟩ : ∃ S, S = s1.put p2 (.arr [.agg [.fn fi [], .sl .nil [], .map m2, .int .i64 w]]) := ⟨_, rfl⟩
  rw [← hS] at H3
  repeat' first
    | ((fail_if_success (first | show W _ _ (Code.seq (Code.region 6 _ _) _) _ _ _ | show W _ _ (Code.seq (Code.seq (Code.region 6 _ _) _) _) _ _ _)); refine W_seq ?_)
    | refine W_block ?_
    | ((first | refine W_region (mu := []) ?_ | (refine W_region_any [] ⟨[], [], [], [], [], [], 0⟩ mixedOrders_ok (by kernel_rfl) ?_; intro nu hn1 hn2) | refine fn_ret ?_ | refine fn_normal ?_ | refine Hold_P ?_ | refine prun_go ?_ | refine drun_go ?_); simp -dsimp only [go_sem, Nat.reduceLT, Nat.reduceLeDiff, Nat.reduceEqDiff, Nat.reduceAdd, Nat.reduceMul, Int.reduceNeg, Nat.reduceBEq, reduceCtorEq, ↓reduceIte, hx1, h2, splice])
    | (refine W_cond rfl (fun h => ?_) (fun h => ?_) <;> (try (cases h; done)))
    | refine W_ret ?_
    | refine W_skip ?_
    | refine W_exit ?_
    | refine then_normal ?_
    | refine then_ret ?_
    | refine then_exit ?_
    | refine inBlock_normal ?_
    | refine inBlock_ret ?_
    | refine inBlock_exit ?_
    | refine inBlock_ne (by decide) ?_
    | refine Hold_E ?_
    | (refine And.intro ?_ ?_; omega)
    | ((first | (refine ite_goB (fun h => ?_) (fun h => ?_) <;> (try exact absurd ((h : _ = false).symm.trans (by assumption : _ = true)) (by decide)) <;> (try exact absurd ((by assumption : _ = false).symm.trans (h : _ = true)) (by decide))) | (refine ite_go (fun h => ?_) (fun h => ?_) <;> (try exact absurd h (by assumption)) <;> (try exact absurd (by assumption) h))) <;> (try refine Hold_P ?_) <;> (try simp -dsimp only [h, go_sem, Nat.reduceLT, Nat.reduceLeDiff, Nat.reduceEqDiff, Nat.reduceAdd, Nat.reduceMul, Int.reduceNeg, Nat.reduceBEq, reduceCtorEq, ↓reduceIte, hx1, h2, splice]))
    | refine Exists.intro _ (Exists.intro _ (And.intro (And.intro rfl rfl) ?_))
  rw [← hS]
  have hxS := H3.sub _ _ hx
  refine W_midE (fun a : Option (Nat × Nat × List Th) × EM × Store => [(3, .sl .nil []), (4, .ptr p2 0 0)]) (fun a => a.2.2) (fun a => HS s ρ (.fn fi []) p2 m2 a.1 c a.2.1 w a.2.2) ?_ ?_
  · match v, H.nil, H.row with
    | none, h1, _ =>
      obtain ⟨rfl, rfl, hx0⟩ := h1 rfl
      have hx0S := H3.sub _ _ hx0
      have h00 : (((0 : Nat) : Int)) = 0 := rfl
      repeat' first
        | refine W_seq ?_
        | refine W_block ?_
        | ((first | refine W_region (mu := []) ?_ | (refine W_region_any [] ⟨[], [], [], [], [], [], 0⟩ mixedOrders_ok (by kernel_rfl) ?_; intro nu hn1 hn2) | refine fn_ret ?_ | refine fn_normal ?_ | refine Hold_P ?_ | refine prun_go ?_ | refine drun_go ?_); simp -dsimp only [go_sem, Nat.reduceLT, Nat.reduceLeDiff, Nat.reduceEqDiff, Nat.reduceAdd, Nat.reduceMul, Int.reduceNeg, Nat.reduceBEq, reduceCtorEq, ↓reduceIte, hx0S, h00])
        | (refine W_cond rfl (fun h => ?_) (fun h => ?_) <;> (try (cases h; done)))
        | refine W_ret ?_
        | refine W_skip ?_
        | refine W_exit ?_
        | refine then_normal ?_
        | refine then_ret ?_
        | refine then_exit ?_
        | refine inBlock_normal ?_
        | refine inBlock_ret ?_
        | refine inBlock_exit ?_
        | refine inBlock_ne (by decide) ?_
        | refine Hold_E ?_
        | (refine And.intro ?_ ?_; omega)
        | ((first | (refine ite_goB (fun h => ?_) (fun h => ?_) <;> (try exact absurd ((h : _ = false).symm.trans (by assumption : _ = true)) (by decide)) <;> (try exact absurd ((by assumption : _ = false).symm.trans (h : _ = true)) (by decide))) | (refine ite_go (fun h => ?_) (fun h => ?_) <;> (try exact absurd h (by assumption)) <;> (try exact absurd (by assumption) h))) <;> (try refine Hold_P ?_) <;> (try simp -dsimp only [h, go_sem, Nat.reduceLT, Nat.reduceLeDiff, Nat.reduceEqDiff, Nat.reduceAdd, Nat.reduceMul, Int.reduceNeg, Nat.reduceBEq, reduceCtorEq, ↓reduceIte, hx0S, h00]))
        | refine Exists.intro _ (Exists.intro _ (And.intro (And.intro rfl rfl) ?_))
      refine W_loop_st (fun _ : Unit => [(3, .sl .nil []), (4, .ptr p2 0 0), (29, .int .i64 0), (30, .int .i64 0)]) (fun _ => S) (fun _ => True) (fun _ => 0) () trivial (Env.Sub_of_has (by simp [Env.Has, Env.get])) (Store.Sub.refl _) ?_
      rintro ⟨⟩ _
      repeat' first
        | refine W_seq ?_
        | refine W_block ?_
        | ((first | refine W_region (mu := []) ?_ | (refine W_region_any [] ⟨[], [], [], [], [], [], 0⟩ mixedOrders_ok (by kernel_rfl) ?_; intro nu hn1 hn2) | refine fn_ret ?_ | refine fn_normal ?_ | refine Hold_P ?_ | refine prun_go ?_ | refine drun_go ?_); simp -dsimp only [go_sem, Nat.reduceLT, Nat.reduceLeDiff, Nat.reduceEqDiff, Nat.reduceAdd, Nat.reduceMul, Int.reduceNeg, Nat.reduceBEq, reduceCtorEq, ↓reduceIte])
        | (refine W_cond rfl (fun h => ?_) (fun h => ?_) <;> (try (cases h; done)))
        | refine W_ret ?_
        | refine W_skip ?_
        | refine W_exit ?_
        | refine then_normal ?_
        | refine then_ret ?_
        | refine then_exit ?_
        | refine inBlock_normal ?_
        | refine inBlock_ret ?_
        | refine inBlock_exit ?_
        | refine inBlock_ne (by decide) ?_
        | refine Hold_E ?_
        | (refine And.intro ?_ ?_; omega)
        | ((first | (refine ite_goB (fun h => ?_) (fun h => ?_) <;> (try exact absurd ((h : _ = false).symm.trans (by assumption : _ = true)) (by decide)) <;> (try exact absurd ((by assumption : _ = false).symm.trans (h : _ = true)) (by decide))) | (refine ite_go (fun h => ?_) (fun h => ?_) <;> (try exact absurd h (by assumption)) <;> (try exact absurd (by assumption) h))) <;> (try refine Hold_P ?_) <;> (try simp -dsimp only [h, go_sem, Nat.reduceLT, Nat.reduceLeDiff, Nat.reduceEqDiff, Nat.reduceAdd, Nat.reduceMul, Int.reduceNeg, Nat.reduceBEq, reduceCtorEq, ↓reduceIte]))
        | refine Exists.intro _ (Exists.intro _ (And.intro (And.intro rfl rfl) ?_))
      exact ⟨(none, [], S), H3, Env.Sub_of_has (by simp [Env.Has, Env.get]), Store.Sub.refl _⟩
    | some (o, n, ls), _, h1 =>
      obtain ⟨fo, d, hx0, h3, hp⟩ := h1 _ _ _ rfl
      have hx0S := H3.sub _ _ hx0
      have hlen := hp.len
      have hbig := hp.big
      repeat' first
        | refine W_seq ?_
        | refine W_block ?_
        | ((first | refine W_region (mu := []) ?_ | (refine W_region_any [] ⟨[], [], [], [], [], [], 0⟩ mixedOrders_ok (by kernel_rfl) ?_; intro nu hn1 hn2) | refine fn_ret ?_ | refine fn_normal ?_ | refine Hold_P ?_ | refine prun_go ?_ | refine drun_go ?_); simp -dsimp only [go_sem, Nat.reduceLT, Nat.reduceLeDiff, Nat.reduceEqDiff, Nat.reduceAdd, Nat.reduceMul, Int.reduceNeg, Nat.reduceBEq, reduceCtorEq, ↓reduceIte, hx0S])
        | (refine W_cond rfl (fun h => ?_) (fun h => ?_) <;> (try (cases h; done)))
        | refine W_ret ?_
        | refine W_skip ?_
        | refine W_exit ?_
        | refine then_normal ?_
        | refine then_ret ?_
        | refine then_exit ?_
        | refine inBlock_normal ?_
        | refine inBlock_ret ?_
        | refine inBlock_exit ?_
        | refine inBlock_ne (by decide) ?_
        | refine Hold_E ?_
        | (refine And.intro ?_ ?_; omega)
        | ((first | (refine ite_goB (fun h => ?_) (fun h => ?_) <;> (try exact absurd ((h : _ = false).symm.trans (by assumption : _ = true)) (by decide)) <;> (try exact absurd ((by assumption : _ = false).symm.trans (h : _ = true)) (by decide))) | (refine ite_go (fun h => ?_) (fun h => ?_) <;> (try exact absurd h (by assumption)) <;> (try exact absurd (by assumption) h))) <;> (try refine Hold_P ?_) <;> (try simp -dsimp only [h, go_sem, Nat.reduceLT, Nat.reduceLeDiff, Nat.reduceEqDiff, Nat.reduceAdd, Nat.reduceMul, Int.reduceNeg, Nat.reduceBEq, reduceCtorEq, ↓reduceIte, hx0S]))
        | refine Exists.intro _ (Exists.intro _ (And.intro (And.intro rfl rfl) ?_))
      refine W_loop_st (fun a : Nat × Nat × Store => [(0, .ptr p 0 0), (3, .sl .nil []), (4, .ptr p2 0 0), (28, .ms o 3 0 n), (29, .int .i64 n), (30, .int .i64 a.1)]) (fun a => a.2.2) (fun a => a.1 ≤ n ∧ Copy s (.fn fi []) p2 m2 w ls a.1 a.2.1 a.2.2) (fun a => n - a.1) (0, 0, S) ⟨Nat.zero_le _, ⟨H3.sub, H3.fh, H3.fm, H3.hm, H3.rm, fun _ => (H3.nil rfl).2.2, fun h => absurd rfl h⟩⟩ (Env.Sub_of_has (by simp [Env.Has, Env.get])) (Store.Sub.refl _) ?_
      rintro ⟨i, o2, T⟩ ⟨hi, C⟩
      simp only at hi C
      by_cases hlt : i < n
      · have c0 : decide ((i : Int) < (n : Int)) = true := decT (by omega)
        have q1 : ((i : Int) < (n : Int)) = True := eq_true (by omega)
        have g0 := get_things (show i < ls.length by omega)
        have h3T := C.sub _ _ h3
        have hm2 := C.rm
        have nxt : ∀ (q : Nat) (T' : Store) (ρ' : Env), Copy s (.fn fi []) p2 m2 w ls (i + 1) q T' → Env.Sub [(0, .ptr p 0 0), (3, .sl .nil []), (4, .ptr p2 0 0), (28, .ms o 3 0 n), (29, .int .i64 n), (30, .int .i64 ((i + 1 : Nat) : Int))] ρ' →
            ∃ a' : Nat × Nat × Store, n - a'.1 < n - (i, o2, T).1 ∧ (a'.1 ≤ n ∧ Copy s (.fn fi []) p2 m2 w ls a'.1 a'.2.1 a'.2.2) ∧ Env.Sub [(0, .ptr p 0 0), (3, .sl .nil []), (4, .ptr p2 0 0), (28, .ms o 3 0 n), (29, .int .i64 n), (30, .int .i64 a'.1)] ρ' ∧ a'.2.2.Sub T' :=
          fun q T' ρ' h1 h2 => ⟨(i + 1, q, T'), by simp only; omega, ⟨by simp only; omega, h1⟩, h2, Store.Sub.refl _⟩
        by_cases i0 : i = 0
        · have hp2 := C.zero i0
          repeat' first
            | refine W_seq ?_
            | refine W_block ?_
            | ((first | refine W_region (mu := [42]) ?_ | (refine W_region_any (id := 9) [42] ⟨[4,5], [7,10], [], [7], [], [], 0⟩ mixedOrders_ok (by kernel_rfl) ?_; intro nu hn1 hn2) | (refine W_region_any (id := 10) [42] ⟨[3,5], [7], [], [], [], [], 0⟩ mixedOrders_ok (by kernel_rfl) ?_; intro nu hn1 hn2) | (refine W_region_any [42] ⟨[], [], [], [], [], [], 0⟩ mixedOrders_ok (by kernel_rfl) ?_; intro nu hn1 hn2) | refine fn_ret ?_ | refine fn_normal ?_ | refine Hold_P ?_ | refine prun_go ?_ | refine drun_go ?_); simp -dsimp only [go_sem, Nat.reduceLT, Nat.reduceLeDiff, Nat.reduceEqDiff, Nat.reduceAdd, Nat.reduceMul, Int.reduceNeg, Nat.reduceBEq, reduceCtorEq, ↓reduceIte, hp2, h3T, hm2, c0, q1, g0])
            | (refine W_cond rfl (fun h => ?_) (fun h => ?_) <;> (try (cases h; done)))
            | refine W_ret ?_
            | refine W_skip ?_
            | refine W_exit ?_
            | refine then_normal ?_
            | refine then_ret ?_
            | refine then_exit ?_
            | refine inBlock_normal ?_
            | refine inBlock_ret ?_
            | refine inBlock_exit ?_
            | refine inBlock_ne (by decide) ?_
            | refine Hold_E ?_
            | (refine And.intro ?_ ?_; omega)
            | ((first | (refine ite_goB (fun h => ?_) (fun h => ?_) <;> (try exact absurd ((h : _ = false).symm.trans (by assumption : _ = true)) (by decide)) <;> (try exact absurd ((by assumption : _ = false).symm.trans (h : _ = true)) (by decide))) | (refine ite_go (fun h => ?_) (fun h => ?_) <;> (try exact absurd h (by assumption)) <;> (try exact absurd (by assumption) h))) <;> (try refine Hold_P ?_) <;> (try simp -dsimp only [h, go_sem, Nat.reduceLT, Nat.reduceLeDiff, Nat.reduceEqDiff, Nat.reduceAdd, Nat.reduceMul, Int.reduceNeg, Nat.reduceBEq, reduceCtorEq, ↓reduceIte, hp2, h3T, hm2, c0, q1, g0]))
            | refine Exists.intro _ (Exists.intro _ (And.intro (And.intro rfl rfl) ?_))
          intro o1 ho1
          have n1 : p2 ≠ o1 := fun e => by rw [← e, hp2] at ho1; cases ho1
          have n2 : m2 ≠ o1 := fun e => by rw [← e, hm2] at ho1; cases ho1
          have rd1 : ∀ (s : Store) (x : Ob), (s.put o1 x) p2 = s p2 := fun s x => put_ne n1
          have rd2 : ∀ (s : Store) (x : Ob), (s.put o1 x) m2 = s m2 := fun s x => put_ne n2
          repeat' first
            | refine W_seq ?_
            | refine W_block ?_
            | ((first | refine W_region (mu := [42]) ?_ | (refine W_region_any (id := 9) [42] ⟨[4,5], [7,10], [], [7], [], [], 0⟩ mixedOrders_ok (by kernel_rfl) ?_; intro nu hn1 hn2) | (refine W_region_any (id := 10) [42] ⟨[3,5], [7], [], [], [], [], 0⟩ mixedOrders_ok (by kernel_rfl) ?_; intro nu hn1 hn2) | (refine W_region_any [42] ⟨[], [], [], [], [], [], 0⟩ mixedOrders_ok (by kernel_rfl) ?_; intro nu hn1 hn2) | refine fn_ret ?_ | refine fn_normal ?_ | refine Hold_P ?_ | refine prun_go ?_ | refine drun_go ?_); simp -dsimp only [go_sem, Nat.reduceLT, Nat.reduceLeDiff, Nat.reduceEqDiff, Nat.reduceAdd, Nat.reduceMul, Int.reduceNeg, Nat.reduceBEq, reduceCtorEq, ↓reduceIte, hp2, h3T, hm2, c0, q1, g0, rd1, rd2, splice])
            | (refine W_cond rfl (fun h => ?_) (fun h => ?_) <;> (try (cases h; done)))
            | refine W_ret ?_
            | refine W_skip ?_
            | refine W_exit ?_
            | refine then_normal ?_
            | refine then_ret ?_
            | refine then_exit ?_
            | refine inBlock_normal ?_
            | refine inBlock_ret ?_
            | refine inBlock_exit ?_
            | refine inBlock_ne (by decide) ?_
            | refine Hold_E ?_
            | (refine And.intro ?_ ?_; omega)
            | ((first | (refine ite_goB (fun h => ?_) (fun h => ?_) <;> (try exact absurd ((h : _ = false).symm.trans (by assumption : _ = true)) (by decide)) <;> (try exact absurd ((by assumption : _ = false).symm.trans (h : _ = true)) (by decide))) | (refine ite_go (fun h => ?_) (fun h => ?_) <;> (try exact absurd h (by assumption)) <;> (try exact absurd (by assumption) h))) <;> (try refine Hold_P ?_) <;> (try simp -dsimp only [h, go_sem, Nat.reduceLT, Nat.reduceLeDiff, Nat.reduceEqDiff, Nat.reduceAdd, Nat.reduceMul, Int.reduceNeg, Nat.reduceBEq, reduceCtorEq, ↓reduceIte, hp2, h3T, hm2, c0, q1, g0, rd1, rd2, splice]))
            | refine Exists.intro _ (Exists.intro _ (And.intro (And.intro rfl rfl) ?_))
          have hnu := hn1 7 (by simp)
          clear hn2 hn1
          revert hnu
          generalize nu 7 = q
          intro hnu
          have n3 : p2 ≠ q := fun e => by rw [← e, rd1, hp2] at hnu; cases hnu
          have n4 : m2 ≠ q := fun e => by rw [← e, rd2, hm2] at hnu; cases hnu
          have n5 : o1 ≠ q := fresh_ne hnu
          have rd3 : ∀ (s : Store) (x : Ob), (s.put q x) p2 = s p2 := fun s x => put_ne n3
          have rd4 : ∀ (s : Store) (x : Ob), (s.put q x) m2 = s m2 := fun s x => put_ne n4
          have rd5 : ∀ (s : Store) (x : Ob), (s.put q x) o1 = s o1 := fun s x => put_ne n5
          have rd6 : ∀ (s : Store) (x : Ob), (s.put p2 x) m2 = s m2 := fun s x => put_ne (fun e => C.hm e.symm)
          have rd7 : ∀ (s : Store) (x : Ob), (s.put p2 x) o1 = s o1 := fun s x => put_ne n1.symm
          simp -dsimp only [rd1, rd2, rd3, rd4, rd5, rd6, rd7, hp2, hm2, splice, go_sem, Nat.reduceLT, Nat.reduceLeDiff, Nat.reduceEqDiff, Nat.reduceAdd, Nat.reduceMul, Int.reduceNeg, Nat.reduceBEq, reduceCtorEq, ↓reduceIte]
          repeat' first
            | refine W_seq ?_
            | refine W_block ?_
            | ((first | refine W_region (mu := [42]) ?_ | (refine W_region_any (id := 9) [42] ⟨[4,5], [7,10], [], [7], [], [], 0⟩ mixedOrders_ok (by kernel_rfl) ?_; intro nu hn1 hn2) | (refine W_region_any (id := 10) [42] ⟨[3,5], [7], [], [], [], [], 0⟩ mixedOrders_ok (by kernel_rfl) ?_; intro nu hn1 hn2) | (refine W_region_any [42] ⟨[], [], [], [], [], [], 0⟩ mixedOrders_ok (by kernel_rfl) ?_; intro nu hn1 hn2) | refine fn_ret ?_ | refine fn_normal ?_ | refine Hold_P ?_ | refine prun_go ?_ | refine drun_go ?_); simp -dsimp only [go_sem, Nat.reduceLT, Nat.reduceLeDiff, Nat.reduceEqDiff, Nat.reduceAdd, Nat.reduceMul, Int.reduceNeg, Nat.reduceBEq, reduceCtorEq, ↓reduceIte, hp2, h3T, hm2, c0, q1, g0, rd1, rd2, rd3, rd4, rd5, rd6, rd7, splice, asetA_es, all_es])
            | (refine W_cond rfl (fun h => ?_) (fun h => ?_) <;> (try (cases h; done)))
            | refine W_ret ?_
            | refine W_skip ?_
            | refine W_exit ?_
            | refine then_normal ?_
            | refine then_ret ?_
            | refine then_exit ?_
            | refine inBlock_normal ?_
            | refine inBlock_ret ?_
            | refine inBlock_exit ?_
            | refine inBlock_ne (by decide) ?_
            | refine Hold_E ?_
            | (refine And.intro ?_ ?_; omega)
            | ((first | (refine ite_goB (fun h => ?_) (fun h => ?_) <;> (try exact absurd ((h : _ = false).symm.trans (by assumption : _ = true)) (by decide)) <;> (try exact absurd ((by assumption : _ = false).symm.trans (h : _ = true)) (by decide))) | (refine ite_go (fun h => ?_) (fun h => ?_) <;> (try exact absurd h (by assumption)) <;> (try exact absurd (by assumption) h))) <;> (try refine Hold_P ?_) <;> (try simp -dsimp only [h, go_sem, Nat.reduceLT, Nat.reduceLeDiff, Nat.reduceEqDiff, Nat.reduceAdd, Nat.reduceMul, Int.reduceNeg, Nat.reduceBEq, reduceCtorEq, ↓reduceIte, hp2, h3T, hm2, c0, q1, g0, rd1, rd2, rd3, rd4, rd5, rd6, rd7, splice, asetA_es, all_es]))
            | refine Exists.intro _ (Exists.intro _ (And.intro (And.intro rfl rfl) ?_))
          refine nxt q _ _ ?_ (Env.Sub_of_has (by simp [Env.Has, Env.get, wrap_succ (show i < 4611686018427387904 by omega)]))
          · have fnu : s q = none := Sub_fresh C.sub (fresh_old hnu)
            have fo1 : s o1 = none := Sub_fresh C.sub ho1
            refine ⟨Sub_put (Sub_put (Sub_put (Sub_put C.sub fo1 _) fnu _) C.fp _) C.fm _, C.fp, C.fm, C.hm, ?_, fun h => by simp at h, fun _ => ⟨fnu, ⟨C.hm, n3, n4⟩, ?_, ?_⟩⟩
            · rw [put_same]; simp only [mkE]
            · rw [put_ne C.hm, put_same, i0]
            · rw [put_ne n4.symm, put_ne n3.symm, put_same]
              have := things_snoc (show 0 < ls.length by omega)
              rw [i0]; exact congrArg (fun z => some (Ob.arr z)) this
        · obtain ⟨fo2, d2, hp2, ho2⟩ := C.more i0
          repeat' first
            | refine W_seq ?_
            | refine W_block ?_
            | ((first | refine W_region (mu := [42]) ?_ | (refine W_region_any (id := 9) [42] ⟨[4,5], [7,10], [], [7], [], [], 0⟩ mixedOrders_ok (by kernel_rfl) ?_; intro nu hn1 hn2) | (refine W_region_any (id := 10) [42] ⟨[3,5], [7], [], [], [], [], 0⟩ mixedOrders_ok (by kernel_rfl) ?_; intro nu hn1 hn2) | (refine W_region_any [42] ⟨[], [], [], [], [], [], 0⟩ mixedOrders_ok (by kernel_rfl) ?_; intro nu hn1 hn2) | refine fn_ret ?_ | refine fn_normal ?_ | refine Hold_P ?_ | refine prun_go ?_ | refine drun_go ?_); simp -dsimp only [go_sem, Nat.reduceLT, Nat.reduceLeDiff, Nat.reduceEqDiff, Nat.reduceAdd, Nat.reduceMul, Int.reduceNeg, Nat.reduceBEq, reduceCtorEq, ↓reduceIte, hp2, h3T, hm2, c0, q1, g0])
            | (refine W_cond rfl (fun h => ?_) (fun h => ?_) <;> (try (cases h; done)))
            | refine W_ret ?_
            | refine W_skip ?_
            | refine W_exit ?_
            | refine then_normal ?_
            | refine then_ret ?_
            | refine then_exit ?_
            | refine inBlock_normal ?_
            | refine inBlock_ret ?_
            | refine inBlock_exit ?_
            | refine inBlock_ne (by decide) ?_
            | refine Hold_E ?_
            | (refine And.intro ?_ ?_; omega)
            | ((first | (refine ite_goB (fun h => ?_) (fun h => ?_) <;> (try exact absurd ((h : _ = false).symm.trans (by assumption : _ = true)) (by decide)) <;> (try exact absurd ((by assumption : _ = false).symm.trans (h : _ = true)) (by decide))) | (refine ite_go (fun h => ?_) (fun h => ?_) <;> (try exact absurd h (by assumption)) <;> (try exact absurd (by assumption) h))) <;> (try refine Hold_P ?_) <;> (try simp -dsimp only [h, go_sem, Nat.reduceLT, Nat.reduceLeDiff, Nat.reduceEqDiff, Nat.reduceAdd, Nat.reduceMul, Int.reduceNeg, Nat.reduceBEq, reduceCtorEq, ↓reduceIte, hp2, h3T, hm2, c0, q1, g0]))
            | refine Exists.intro _ (Exists.intro _ (And.intro (And.intro rfl rfl) ?_))
          intro o1 ho1
          have n1 : p2 ≠ o1 := fun e => by rw [← e, hp2] at ho1; cases ho1
          have n2 : m2 ≠ o1 := fun e => by rw [← e, hm2] at ho1; cases ho1
          have n8 : o1 ≠ o2 := fun e => by rw [e, ho2] at ho1; cases ho1
          have rd1 : ∀ (s : Store) (x : Ob), (s.put o1 x) p2 = s p2 := fun s x => put_ne n1
          have rd2 : ∀ (s : Store) (x : Ob), (s.put o1 x) m2 = s m2 := fun s x => put_ne n2
          have rdo : ∀ (s : Store) (x : Ob), (s.put o1 x) o2 = s o2 := fun s x => put_ne n8.symm
          have hsn := things_snoc (show i < ls.length by omega)
          have hti : (ls.take i).length = i := by rw [List.length_take]; omega
          have htt : (ls.take i).take i = ls.take i := by rw [List.take_take, Nat.min_self]
          repeat' first
            | refine W_seq ?_
            | refine W_block ?_
            | ((first | refine W_region (mu := [42]) ?_ | (refine W_region_any (id := 9) [42] ⟨[4,5], [7,10], [], [7], [], [], 0⟩ mixedOrders_ok (by kernel_rfl) ?_; intro nu hn1 hn2) | (refine W_region_any (id := 10) [42] ⟨[3,5], [7], [], [], [], [], 0⟩ mixedOrders_ok (by kernel_rfl) ?_; intro nu hn1 hn2) | (refine W_region_any [42] ⟨[], [], [], [], [], [], 0⟩ mixedOrders_ok (by kernel_rfl) ?_; intro nu hn1 hn2) | refine fn_ret ?_ | refine fn_normal ?_ | refine Hold_P ?_ | refine prun_go ?_ | refine drun_go ?_); simp -dsimp only [go_sem, Nat.reduceLT, Nat.reduceLeDiff, Nat.reduceEqDiff, Nat.reduceAdd, Nat.reduceMul, Int.reduceNeg, Nat.reduceBEq, reduceCtorEq, ↓reduceIte, hp2, h3T, hm2, ho2, c0, q1, g0, rd1, rd2, rdo, splice, hsn, hti, htt, length_things, take_things])
            | (refine W_cond rfl (fun h => ?_) (fun h => ?_) <;> (try (cases h; done)))
            | refine W_ret ?_
            | refine W_skip ?_
            | refine W_exit ?_
            | refine then_normal ?_
            | refine then_ret ?_
            | refine then_exit ?_
            | refine inBlock_normal ?_
            | refine inBlock_ret ?_
            | refine inBlock_exit ?_
            | refine inBlock_ne (by decide) ?_
            | refine Hold_E ?_
            | (refine And.intro ?_ ?_; omega)
            | ((first | (refine ite_goB (fun h => ?_) (fun h => ?_) <;> (try exact absurd ((h : _ = false).symm.trans (by assumption : _ = true)) (by decide)) <;> (try exact absurd ((by assumption : _ = false).symm.trans (h : _ = true)) (by decide))) | (refine ite_go (fun h => ?_) (fun h => ?_) <;> (try exact absurd h (by assumption)) <;> (try exact absurd (by assumption) h))) <;> (try refine Hold_P ?_) <;> (try simp -dsimp only [h, go_sem, Nat.reduceLT, Nat.reduceLeDiff, Nat.reduceEqDiff, Nat.reduceAdd, Nat.reduceMul, Int.reduceNeg, Nat.reduceBEq, reduceCtorEq, ↓reduceIte, hp2, h3T, hm2, ho2, c0, q1, g0, rd1, rd2, rdo, splice, hsn, hti, htt, length_things, take_things]))
            | refine Exists.intro _ (Exists.intro _ (And.intro (And.intro rfl rfl) ?_))
          have hnu := hn1 7 (by simp)
          clear hn2 hn1
          revert hnu
          generalize nu 7 = q
          intro hnu
          have n3 : p2 ≠ q := fun e => by rw [← e, rd1, hp2] at hnu; cases hnu
          have n4 : m2 ≠ q := fun e => by rw [← e, rd2, hm2] at hnu; cases hnu
          have n5 : o1 ≠ q := fresh_ne hnu
          have rd3 : ∀ (s : Store) (x : Ob), (s.put q x) p2 = s p2 := fun s x => put_ne n3
          have rd4 : ∀ (s : Store) (x : Ob), (s.put q x) m2 = s m2 := fun s x => put_ne n4
          have rd5 : ∀ (s : Store) (x : Ob), (s.put q x) o1 = s o1 := fun s x => put_ne n5
          have rd0 : ∀ (s : Store), (s.drop o2) p2 = s p2 := fun s => drop_ne d2.ho
          have rd8 : ∀ (s : Store), (s.drop o2) m2 = s m2 := fun s => drop_ne d2.mo
          have rd9 : ∀ (s : Store), (s.drop o2) o1 = s o1 := fun s => drop_ne n8
          have rd6 : ∀ (s : Store) (x : Ob), (s.put p2 x) m2 = s m2 := fun s x => put_ne (fun e => C.hm e.symm)
          have rd7 : ∀ (s : Store) (x : Ob), (s.put p2 x) o1 = s o1 := fun s x => put_ne n1.symm
          simp -dsimp only [rd1, rd2, rd3, rd4, rd5, rd6, rd7, rd0, rd8, rd9, hp2, hm2, splice, go_sem, Nat.reduceLT, Nat.reduceLeDiff, Nat.reduceEqDiff, Nat.reduceAdd, Nat.reduceMul, Int.reduceNeg, Nat.reduceBEq, reduceCtorEq, ↓reduceIte]
          repeat' first
            | refine W_seq ?_
            | refine W_block ?_
            | ((first | refine W_region (mu := [42]) ?_ | (refine W_region_any (id := 9) [42] ⟨[4,5], [7,10], [], [7], [], [], 0⟩ mixedOrders_ok (by kernel_rfl) ?_; intro nu hn1 hn2) | (refine W_region_any (id := 10) [42] ⟨[3,5], [7], [], [], [], [], 0⟩ mixedOrders_ok (by kernel_rfl) ?_; intro nu hn1 hn2) | (refine W_region_any [42] ⟨[], [], [], [], [], [], 0⟩ mixedOrders_ok (by kernel_rfl) ?_; intro nu hn1 hn2) | refine fn_ret ?_ | refine fn_normal ?_ | refine Hold_P ?_ | refine prun_go ?_ | refine drun_go ?_); simp -dsimp only [go_sem, Nat.reduceLT, Nat.reduceLeDiff, Nat.reduceEqDiff, Nat.reduceAdd, Nat.reduceMul, Int.reduceNeg, Nat.reduceBEq, reduceCtorEq, ↓reduceIte, hp2, h3T, hm2, c0, q1, g0, rd1, rd2, rd3, rd4, rd5, rd6, rd7, rd0, rd8, rd9, splice, asetA_es, all_es])
            | (refine W_cond rfl (fun h => ?_) (fun h => ?_) <;> (try (cases h; done)))
            | refine W_ret ?_
            | refine W_skip ?_
            | refine W_exit ?_
            | refine then_normal ?_
            | refine then_ret ?_
            | refine then_exit ?_
            | refine inBlock_normal ?_
            | refine inBlock_ret ?_
            | refine inBlock_exit ?_
            | refine inBlock_ne (by decide) ?_
            | refine Hold_E ?_
            | (refine And.intro ?_ ?_; omega)
            | ((first | (refine ite_goB (fun h => ?_) (fun h => ?_) <;> (try exact absurd ((h : _ = false).symm.trans (by assumption : _ = true)) (by decide)) <;> (try exact absurd ((by assumption : _ = false).symm.trans (h : _ = true)) (by decide))) | (refine ite_go (fun h => ?_) (fun h => ?_) <;> (try exact absurd h (by assumption)) <;> (try exact absurd (by assumption) h))) <;> (try refine Hold_P ?_) <;> (try simp -dsimp only [h, go_sem, Nat.reduceLT, Nat.reduceLeDiff, Nat.reduceEqDiff, Nat.reduceAdd, Nat.reduceMul, Int.reduceNeg, Nat.reduceBEq, reduceCtorEq, ↓reduceIte, hp2, h3T, hm2, c0, q1, g0, rd1, rd2, rd3, rd4, rd5, rd6, rd7, rd0, rd8, rd9, splice, asetA_es, all_es]))
            | refine Exists.intro _ (Exists.intro _ (And.intro (And.intro rfl rfl) ?_))
          refine nxt q _ _ ?_ (Env.Sub_of_has (by simp [Env.Has, Env.get, wrap_succ (show i < 4611686018427387904 by omega)]))
          · have fnu : s q = none := Sub_fresh C.sub (fresh_old hnu)
            have fo1 : s o1 = none := Sub_fresh C.sub ho1
            refine ⟨Sub_put (Sub_put (Sub_put (Sub_drop (Sub_put C.sub fo1 _) fo2) fnu _) C.fp _) C.fm _, C.fp, C.fm, C.hm, ?_, fun h => by simp at h, fun _ => ⟨fnu, ⟨C.hm, n3, n4⟩, ?_, ?_⟩⟩
            · rw [put_same]; simp only [mkE]
            · rw [put_ne C.hm, put_same]
            · rw [put_ne n4.symm, put_ne n3.symm, put_same]
      · have c0 : decide ((i : Int) < (n : Int)) = false := decF (by omega)
        have hin : i = n := by omega
        subst hin
        obtain ⟨v2, hv2⟩ := C.done hp H.lo H.hi H.srt H.top
        repeat' first
          | refine W_seq ?_
          | refine W_block ?_
          | ((first | refine W_region (mu := []) ?_ | (refine W_region_any [] ⟨[], [], [], [], [], [], 0⟩ mixedOrders_ok (by kernel_rfl) ?_; intro nu hn1 hn2) | refine fn_ret ?_ | refine fn_normal ?_ | refine Hold_P ?_ | refine prun_go ?_ | refine drun_go ?_); simp -dsimp only [go_sem, Nat.reduceLT, Nat.reduceLeDiff, Nat.reduceEqDiff, Nat.reduceAdd, Nat.reduceMul, Int.reduceNeg, Nat.reduceBEq, reduceCtorEq, ↓reduceIte, c0])
          | (refine W_cond rfl (fun h => ?_) (fun h => ?_) <;> (try (cases h; done)))
          | refine W_ret ?_
          | refine W_skip ?_
          | refine W_exit ?_
          | refine then_normal ?_
          | refine then_ret ?_
          | refine then_exit ?_
          | refine inBlock_normal ?_
          | refine inBlock_ret ?_
          | refine inBlock_exit ?_
          | refine inBlock_ne (by decide) ?_
          | refine Hold_E ?_
          | (refine And.intro ?_ ?_; omega)
          | ((first | (refine ite_goB (fun h => ?_) (fun h => ?_) <;> (try exact absurd ((h : _ = false).symm.trans (by assumption : _ = true)) (by decide)) <;> (try exact absurd ((by assumption : _ = false).symm.trans (h : _ = true)) (by decide))) | (refine ite_go (fun h => ?_) (fun h => ?_) <;> (try exact absurd h (by assumption)) <;> (try exact absurd (by assumption) h))) <;> (try refine Hold_P ?_) <;> (try simp -dsimp only [h, go_sem, Nat.reduceLT, Nat.reduceLeDiff, Nat.reduceEqDiff, Nat.reduceAdd, Nat.reduceMul, Int.reduceNeg, Nat.reduceBEq, reduceCtorEq, ↓reduceIte, c0]))
          | refine Exists.intro _ (Exists.intro _ (And.intro (And.intro rfl rfl) ?_))
        exact ⟨(v2, mkE ls i, T), hv2, Env.Sub_of_has (by simp [Env.Has, Env.get]), Store.Sub.refl _⟩
  · rintro ⟨v2, em2, T⟩ HT
    simp only at HT
    show W _ _ _ _ [(3, .sl .nil []), (4, .ptr p2 0 0)] T
    refine W_block ?_
    have hbase : ∀ {c2 : List Th} {em2 : EM} {v2 : Option (Nat × Nat × List Th)} {acc : List ByteArray} {q : Nat} {T : Store}, (acc ≠ [] → s q = none) → HS (if acc = [] then s else s.put q (.tip acc.length 9 1)) ρ (.fn fi []) p2 m2 v2 c2 em2 w T → s.Sub T := by
      intro c2 em2 v2 acc q T hq h
      have hs := h.sub
      split at hs
      · exact hs
      · rename_i e
        exact fun r x hr => hs r x (Sub_put (Store.Sub.refl _) (hq e) _ r x hr)
    have hcl : c.length < 1000000 := by
      match v, H.nil, H.row with
      | none, h1, _ => rw [(h1 rfl).1]; simp
      | some (o, n, ls), _, h1 =>
        have hp := (h1 _ _ _ rfl).2.2.2.2
        have := hp.len; have := hp.big; have := hp.cnt
        omega
    refine W_loop_st (fun a : List ByteArray × Nat × Option (Nat × Nat × List Th) × List Th × EM × Store => [(3, if a.1 = [] then .sl .nil [] else .sl (.tip a.2.1) (strs a.1)), (4, .ptr p2 0 0)]) (fun a => a.2.2.2.2.2)
      (fun a => HS (if a.1 = [] then s else s.put a.2.1 (.tip a.1.length 9 1)) ρ (.fn fi []) p2 m2 a.2.2.1 a.2.2.2.1 a.2.2.2.2.1 w a.2.2.2.2.2 ∧ (a.1 ≠ [] → s a.2.1 = none) ∧ (∀ l, PopSeq ρ a.2.2.2.1 l → PopSeq ρ c (a.1 ++ l)) ∧ a.1.length + a.2.2.2.1.length = c.length)
      (fun a => a.2.2.2.1.length) ([], 0, v2, c, em2, T) ⟨HT, fun h => absurd rfl h, fun l h => h, by simp⟩ (Env.Sub_of_has (by simp [Env.Has, Env.get])) (Store.Sub.refl _) ?_
    rintro ⟨acc, q, v2, c2, em2, T⟩ ⟨HT, hq, hseq, hln⟩
    simp only at HT hq hseq hln
    have nxt : ∀ (acc : List ByteArray) (q : Nat) (v2 : Option (Nat × Nat × List Th)) (c3 : List Th) (em2 : EM) (T' : Store) (ρ' : Env), c3.length < c2.length → HS (if acc = [] then s else s.put q (.tip acc.length 9 1)) ρ (.fn fi []) p2 m2 v2 c3 em2 w T' → (acc ≠ [] → s q = none) → (∀ l, PopSeq ρ c3 l → PopSeq ρ c (acc ++ l)) → acc.length + c3.length = c.length →
        Env.Sub [(3, if acc = [] then .sl .nil [] else .sl (.tip q) (strs acc)), (4, .ptr p2 0 0)] ρ' →
        ∃ a' : List ByteArray × Nat × Option (Nat × Nat × List Th) × List Th × EM × Store, a'.2.2.2.1.length < c2.length ∧ (HS (if a'.1 = [] then s else s.put a'.2.1 (.tip a'.1.length 9 1)) ρ (.fn fi []) p2 m2 a'.2.2.1 a'.2.2.2.1 a'.2.2.2.2.1 w a'.2.2.2.2.2 ∧ (a'.1 ≠ [] → s a'.2.1 = none) ∧ (∀ l, PopSeq ρ a'.2.2.2.1 l → PopSeq ρ c (a'.1 ++ l)) ∧ a'.1.length + a'.2.2.2.1.length = c.length) ∧
          Env.Sub [(3, if a'.1 = [] then .sl .nil [] else .sl (.tip a'.2.1) (strs a'.1)), (4, .ptr p2 0 0)] ρ' ∧ a'.2.2.2.2.2.Sub T' :=
      fun acc q v2 c3 em2 T' ρ' h1 h2 h3 h4 h5 h6 => ⟨(acc, q, v2, c3, em2, T'), h1, ⟨h2, h3, h4, h5⟩, h6, Store.Sub.refl _⟩
    by_cases hc2 : c2 = []
    · subst hc2
      by_cases ha : acc = []
      · subst ha
        repeat' first
          | refine W_seq ?_
          | refine W_block ?_
          | ((first | refine W_region (mu := []) ?_ | (refine W_region_any [] ⟨[], [], [], [], [], [], 0⟩ mixedOrders_ok (by kernel_rfl) ?_; intro nu hn1 hn2) | refine fn_ret ?_ | refine fn_normal ?_ | refine Hold_P ?_ | refine prun_go ?_ | refine drun_go ?_); simp -dsimp only [go_sem, Nat.reduceLT, Nat.reduceLeDiff, Nat.reduceEqDiff, Nat.reduceAdd, Nat.reduceMul, Int.reduceNeg, Nat.reduceBEq, reduceCtorEq, ↓reduceIte])
          | (refine W_cond rfl (fun h => ?_) (fun h => ?_) <;> (try (cases h; done)))
          | refine W_ret ?_
          | refine W_skip ?_
          | refine W_exit ?_
          | refine then_normal ?_
          | refine then_ret ?_
          | refine then_exit ?_
          | refine inBlock_normal ?_
          | refine inBlock_ret ?_
          | refine inBlock_exit ?_
          | refine inBlock_ne (by decide) ?_
          | refine Hold_E ?_
          | (refine And.intro ?_ ?_; omega)
          | ((first | (refine ite_goB (fun h => ?_) (fun h => ?_) <;> (try exact absurd ((h : _ = false).symm.trans (by assumption : _ = true)) (by decide)) <;> (try exact absurd ((by assumption : _ = false).symm.trans (h : _ = true)) (by decide))) | (refine ite_go (fun h => ?_) (fun h => ?_) <;> (try exact absurd h (by assumption)) <;> (try exact absurd (by assumption) h))) <;> (try refine Hold_P ?_) <;> (try simp -dsimp only [h, go_sem, Nat.reduceLT, Nat.reduceLeDiff, Nat.reduceEqDiff, Nat.reduceAdd, Nat.reduceMul, Int.reduceNeg, Nat.reduceBEq, reduceCtorEq, ↓reduceIte]))
          | refine Exists.intro _ (Exists.intro _ (And.intro (And.intro rfl rfl) ?_))
          | (refine PCall_use (pop_nil HT) ?_; rintro _ _ ⟨rfl, hq⟩; obtain rfl := hq.symm; clear hq)
          | (refine Exists.intro _ (And.intro (fun _ => pop_nil HT) ?_))
          | (refine Exists.intro _ (And.intro (pop_nil HT) ?_))
          | (refine Exists.intro _ (Exists.intro _ (And.intro (pop_nil HT) ?_)))
        exact ⟨s, HT.sub, ⟨.nil, [], hseq [] .nil, rfl, fun _ => rfl⟩, rfl⟩
      · have ha' : (acc = []) = False := eq_false ha
        have hsT := hbase hq HT
        repeat' first
          | refine W_seq ?_
          | refine W_block ?_
          | ((first | refine W_region (mu := []) ?_ | (refine W_region_any [] ⟨[], [], [], [], [], [], 0⟩ mixedOrders_ok (by kernel_rfl) ?_; intro nu hn1 hn2) | refine fn_ret ?_ | refine fn_normal ?_ | refine Hold_P ?_ | refine prun_go ?_ | refine drun_go ?_); simp -dsimp only [go_sem, Nat.reduceLT, Nat.reduceLeDiff, Nat.reduceEqDiff, Nat.reduceAdd, Nat.reduceMul, Int.reduceNeg, Nat.reduceBEq, reduceCtorEq, ↓reduceIte, ha'])
          | (refine W_cond rfl (fun h => ?_) (fun h => ?_) <;> (try (cases h; done)))
          | refine W_ret ?_
          | refine W_skip ?_
          | refine W_exit ?_
          | refine then_normal ?_
          | refine then_ret ?_
          | refine then_exit ?_
          | refine inBlock_normal ?_
          | refine inBlock_ret ?_
          | refine inBlock_exit ?_
          | refine inBlock_ne (by decide) ?_
          | refine Hold_E ?_
          | (refine And.intro ?_ ?_; omega)
          | ((first | (refine ite_goB (fun h => ?_) (fun h => ?_) <;> (try exact absurd ((h : _ = false).symm.trans (by assumption : _ = true)) (by decide)) <;> (try exact absurd ((by assumption : _ = false).symm.trans (h : _ = true)) (by decide))) | (refine ite_go (fun h => ?_) (fun h => ?_) <;> (try exact absurd h (by assumption)) <;> (try exact absurd (by assumption) h))) <;> (try refine Hold_P ?_) <;> (try simp -dsimp only [h, go_sem, Nat.reduceLT, Nat.reduceLeDiff, Nat.reduceEqDiff, Nat.reduceAdd, Nat.reduceMul, Int.reduceNeg, Nat.reduceBEq, reduceCtorEq, ↓reduceIte, ha']))
          | refine Exists.intro _ (Exists.intro _ (And.intro (And.intro rfl rfl) ?_))
          | (refine PCall_use (pop_nil HT) ?_; rintro _ _ ⟨rfl, hq⟩; obtain rfl := hq.symm; clear hq)
          | (refine Exists.intro _ (And.intro (fun _ => pop_nil HT) ?_))
          | (refine Exists.intro _ (And.intro (pop_nil HT) ?_))
          | (refine Exists.intro _ (Exists.intro _ (And.intro (pop_nil HT) ?_)))
        refine ⟨s, hsT, ⟨.tip q, acc, ?_, rfl, fun h => by simp [SK.isNil] at h⟩, rfl⟩
        have := hseq [] .nil
        rwa [List.append_nil] at this
    · obtain ⟨t, ht, hl, hP⟩ := pop_some hr hf HT hc2
      have hsh := without_shorter HT.srt ht
      have hlw := without_len HT.srt ⟨t, ht, rfl⟩
      have hsq : ∀ l, PopSeq ρ (without c2 t.k) l → PopSeq ρ c ((acc ++ [t.k]) ++ l) := fun l h => by
        have := hseq _ (.cons ht hl h)
        rwa [List.append_assoc]
      by_cases ha : acc = []
      · subst ha
        repeat' first
          | refine W_seq ?_
          | refine W_block ?_
          | ((first | refine W_region (mu := []) ?_ | (refine W_region_any [] ⟨[], [], [], [], [], [], 0⟩ mixedOrders_ok (by kernel_rfl) ?_; intro nu hn1 hn2) | refine fn_ret ?_ | refine fn_normal ?_ | refine Hold_P ?_ | refine prun_go ?_ | refine drun_go ?_); simp -dsimp only [go_sem, Nat.reduceLT, Nat.reduceLeDiff, Nat.reduceEqDiff, Nat.reduceAdd, Nat.reduceMul, Int.reduceNeg, Nat.reduceBEq, reduceCtorEq, ↓reduceIte])
          | (refine W_cond rfl (fun h => ?_) (fun h => ?_) <;> (try (cases h; done)))
          | refine W_ret ?_
          | refine W_skip ?_
          | refine W_exit ?_
          | refine then_normal ?_
          | refine then_ret ?_
          | refine then_exit ?_
          | refine inBlock_normal ?_
          | refine inBlock_ret ?_
          | refine inBlock_exit ?_
          | refine inBlock_ne (by decide) ?_
          | refine Hold_E ?_
          | (refine And.intro ?_ ?_; omega)
          | ((first | (refine ite_goB (fun h => ?_) (fun h => ?_) <;> (try exact absurd ((h : _ = false).symm.trans (by assumption : _ = true)) (by decide)) <;> (try exact absurd ((by assumption : _ = false).symm.trans (h : _ = true)) (by decide))) | (refine ite_go (fun h => ?_) (fun h => ?_) <;> (try exact absurd h (by assumption)) <;> (try exact absurd (by assumption) h))) <;> (try refine Hold_P ?_) <;> (try simp -dsimp only [h, go_sem, Nat.reduceLT, Nat.reduceLeDiff, Nat.reduceEqDiff, Nat.reduceAdd, Nat.reduceMul, Int.reduceNeg, Nat.reduceBEq, reduceCtorEq, ↓reduceIte]))
          | refine Exists.intro _ (Exists.intro _ (And.intro (And.intro rfl rfl) ?_))
        refine PCall_use hP ?_
        rintro _ T' ⟨v3, em3, rfl, HT'⟩
        repeat' first
          | refine W_seq ?_
          | refine W_block ?_
          | ((first | refine W_region (mu := []) ?_ | (refine W_region_any [] ⟨[], [], [], [], [], [], 0⟩ mixedOrders_ok (by kernel_rfl) ?_; intro nu hn1 hn2) | refine fn_ret ?_ | refine fn_normal ?_ | refine Hold_P ?_ | refine prun_go ?_ | refine drun_go ?_); simp -dsimp only [go_sem, Nat.reduceLT, Nat.reduceLeDiff, Nat.reduceEqDiff, Nat.reduceAdd, Nat.reduceMul, Int.reduceNeg, Nat.reduceBEq, reduceCtorEq, ↓reduceIte, rowsOk_strs, length_strs])
          | (refine W_cond rfl (fun h => ?_) (fun h => ?_) <;> (try (cases h; done)))
          | refine W_ret ?_
          | refine W_skip ?_
          | refine W_exit ?_
          | refine then_normal ?_
          | refine then_ret ?_
          | refine then_exit ?_
          | refine inBlock_normal ?_
          | refine inBlock_ret ?_
          | refine inBlock_exit ?_
          | refine inBlock_ne (by decide) ?_
          | refine Hold_E ?_
          | (refine And.intro ?_ ?_; omega)
          | ((first | (refine ite_goB (fun h => ?_) (fun h => ?_) <;> (try exact absurd ((h : _ = false).symm.trans (by assumption : _ = true)) (by decide)) <;> (try exact absurd ((by assumption : _ = false).symm.trans (h : _ = true)) (by decide))) | (refine ite_go (fun h => ?_) (fun h => ?_) <;> (try exact absurd h (by assumption)) <;> (try exact absurd (by assumption) h))) <;> (try refine Hold_P ?_) <;> (try simp -dsimp only [h, go_sem, Nat.reduceLT, Nat.reduceLeDiff, Nat.reduceEqDiff, Nat.reduceAdd, Nat.reduceMul, Int.reduceNeg, Nat.reduceBEq, reduceCtorEq, ↓reduceIte, rowsOk_strs, length_strs]))
          | refine Exists.intro _ (Exists.intro _ (And.intro (And.intro rfl rfl) ?_))
        intro o' ho'
        repeat' first
          | refine W_seq ?_
          | refine W_block ?_
          | ((first | refine W_region (mu := []) ?_ | (refine W_region_any [] ⟨[], [], [], [], [], [], 0⟩ mixedOrders_ok (by kernel_rfl) ?_; intro nu hn1 hn2) | refine fn_ret ?_ | refine fn_normal ?_ | refine Hold_P ?_ | refine prun_go ?_ | refine drun_go ?_); simp -dsimp only [go_sem, Nat.reduceLT, Nat.reduceLeDiff, Nat.reduceEqDiff, Nat.reduceAdd, Nat.reduceMul, Int.reduceNeg, Nat.reduceBEq, reduceCtorEq, ↓reduceIte])
          | (refine W_cond rfl (fun h => ?_) (fun h => ?_) <;> (try (cases h; done)))
          | refine W_ret ?_
          | refine W_skip ?_
          | refine W_exit ?_
          | refine then_normal ?_
          | refine then_ret ?_
          | refine then_exit ?_
          | refine inBlock_normal ?_
          | refine inBlock_ret ?_
          | refine inBlock_exit ?_
          | refine inBlock_ne (by decide) ?_
          | refine Hold_E ?_
          | (refine And.intro ?_ ?_; omega)
          | ((first | (refine ite_goB (fun h => ?_) (fun h => ?_) <;> (try exact absurd ((h : _ = false).symm.trans (by assumption : _ = true)) (by decide)) <;> (try exact absurd ((by assumption : _ = false).symm.trans (h : _ = true)) (by decide))) | (refine ite_go (fun h => ?_) (fun h => ?_) <;> (try exact absurd h (by assumption)) <;> (try exact absurd (by assumption) h))) <;> (try refine Hold_P ?_) <;> (try simp -dsimp only [h, go_sem, Nat.reduceLT, Nat.reduceLeDiff, Nat.reduceEqDiff, Nat.reduceAdd, Nat.reduceMul, Int.reduceNeg, Nat.reduceBEq, reduceCtorEq, ↓reduceIte]))
          | refine Exists.intro _ (Exists.intro _ (And.intro (And.intro rfl rfl) ?_))
        refine nxt [t.k] o' v3 _ em3 _ _ hsh ?_ (fun _ => Sub_fresh HT'.sub ho') hsq (by simp; simp at hln; omega) (Env.Sub_of_has (by simp [Env.Has, Env.get, strs]))
        exact HT'.put_base _ (.inr ho')
      · have ha' : (acc = []) = False := eq_false ha
        rw [if_neg ha] at HT hP
        repeat' first
          | refine W_seq ?_
          | refine W_block ?_
          | ((first | refine W_region (mu := []) ?_ | (refine W_region_any [] ⟨[], [], [], [], [], [], 0⟩ mixedOrders_ok (by kernel_rfl) ?_; intro nu hn1 hn2) | refine fn_ret ?_ | refine fn_normal ?_ | refine Hold_P ?_ | refine prun_go ?_ | refine drun_go ?_); simp -dsimp only [go_sem, Nat.reduceLT, Nat.reduceLeDiff, Nat.reduceEqDiff, Nat.reduceAdd, Nat.reduceMul, Int.reduceNeg, Nat.reduceBEq, reduceCtorEq, ↓reduceIte, ha'])
          | (refine W_cond rfl (fun h => ?_) (fun h => ?_) <;> (try (cases h; done)))
          | refine W_ret ?_
          | refine W_skip ?_
          | refine W_exit ?_
          | refine then_normal ?_
          | refine then_ret ?_
          | refine then_exit ?_
          | refine inBlock_normal ?_
          | refine inBlock_ret ?_
          | refine inBlock_exit ?_
          | refine inBlock_ne (by decide) ?_
          | refine Hold_E ?_
          | (refine And.intro ?_ ?_; omega)
          | ((first | (refine ite_goB (fun h => ?_) (fun h => ?_) <;> (try exact absurd ((h : _ = false).symm.trans (by assumption : _ = true)) (by decide)) <;> (try exact absurd ((by assumption : _ = false).symm.trans (h : _ = true)) (by decide))) | (refine ite_go (fun h => ?_) (fun h => ?_) <;> (try exact absurd h (by assumption)) <;> (try exact absurd (by assumption) h))) <;> (try refine Hold_P ?_) <;> (try simp -dsimp only [h, go_sem, Nat.reduceLT, Nat.reduceLeDiff, Nat.reduceEqDiff, Nat.reduceAdd, Nat.reduceMul, Int.reduceNeg, Nat.reduceBEq, reduceCtorEq, ↓reduceIte, ha']))
          | refine Exists.intro _ (Exists.intro _ (And.intro (And.intro rfl rfl) ?_))
        refine PCall_use hP ?_
        rintro _ T' ⟨v3, em3, rfl, HT'⟩
        have hTq := HT'.sub _ _ (put_same s q _)
        have hbl : (strs acc).length = acc.length := length_strs _
        repeat' first
          | refine W_seq ?_
          | refine W_block ?_
          | ((first | refine W_region (mu := []) ?_ | (refine W_region_any [] ⟨[], [], [], [], [], [], 0⟩ mixedOrders_ok (by kernel_rfl) ?_; intro nu hn1 hn2) | refine fn_ret ?_ | refine fn_normal ?_ | refine Hold_P ?_ | refine prun_go ?_ | refine drun_go ?_); simp -dsimp only [go_sem, Nat.reduceLT, Nat.reduceLeDiff, Nat.reduceEqDiff, Nat.reduceAdd, Nat.reduceMul, Int.reduceNeg, Nat.reduceBEq, reduceCtorEq, ↓reduceIte, rowsOk_strs, length_strs, hTq, ha', strs_snoc])
          | (refine W_cond rfl (fun h => ?_) (fun h => ?_) <;> (try (cases h; done)))
          | refine W_ret ?_
          | refine W_skip ?_
          | refine W_exit ?_
          | refine then_normal ?_
          | refine then_ret ?_
          | refine then_exit ?_
          | refine inBlock_normal ?_
          | refine inBlock_ret ?_
          | refine inBlock_exit ?_
          | refine inBlock_ne (by decide) ?_
          | refine Hold_E ?_
          | (refine And.intro ?_ ?_; omega)
          | ((first | (refine ite_goB (fun h => ?_) (fun h => ?_) <;> (try exact absurd ((h : _ = false).symm.trans (by assumption : _ = true)) (by decide)) <;> (try exact absurd ((by assumption : _ = false).symm.trans (h : _ = true)) (by decide))) | (refine ite_go (fun h => ?_) (fun h => ?_) <;> (try exact absurd h (by assumption)) <;> (try exact absurd (by assumption) h))) <;> (try refine Hold_P ?_) <;> (try simp -dsimp only [h, go_sem, Nat.reduceLT, Nat.reduceLeDiff, Nat.reduceEqDiff, Nat.reduceAdd, Nat.reduceMul, Int.reduceNeg, Nat.reduceBEq, reduceCtorEq, ↓reduceIte, rowsOk_strs, length_strs, hTq, ha', strs_snoc]))
          | refine Exists.intro _ (Exists.intro _ (And.intro (And.intro rfl rfl) ?_))
        refine nxt (acc ++ [t.k]) q v3 _ em3 _ _ hsh ?_ (fun _ => hq ha) hsq (by simp; omega) (Env.Sub_of_has (by simp [Env.Has, Env.get]))
        rw [if_neg (by simp)]
        have := HT'.put_base (q := q) (.tip (acc ++ [t.k]).length 9 1) (.inl ⟨_, put_same _ _ _⟩)
        rw [put_put] at this
        exact this
end
end Go.Proofs.Ytoekaigdacaghaa
