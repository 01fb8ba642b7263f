/- Contracts of a heap's Set, Drop, Pop. Conditions: none. -/
import Derived.Test.YtoekaigdacaghaaHd
import Derived.Test.YtoekaigdacaghaaHe
set_option linter.unusedVariables false
set_option linter.unusedSimpArgs false
namespace Go.Proofs.Ytoekaigdacaghaa
open Go.Kern
set_option maxRecDepth 100000
set_option maxHeartbeats 4000000
attribute [local go_sem] drun_nil drun_cons prun_nil prun_cons wrOk tqOk lateOp lateB dstOk ev ofConst leafOf Env.putO Env.get envOf readRs_nil oneRes nilSide SK.isNil isMu fillA partsFit boundA SK.cut SK.cutFull SK.fresh rowOk rowsOk_nil rowsOk_cons rowsOk_append rowsOk_ints splice oneOf keyKind cellsKind cellKind cellsB cellB zeroFits TK.agg AV.cells AV.known AV.one List.set_cons_zero List.set_cons_succ put_same put_put forall_const implies_true exists_eq_left exists_eq_left' exists_eq_right exists_eq Store.Sub.refl and_self Int.toNat_natCast length_ints List.length_map true_and and_true decide_true decide_false if_true if_false Bool.false_eq_true Bool.true_eq_false List.getElem?_cons_zero List.getElem?_cons_succ List.length_cons List.length_nil List.drop_zero List.drop_succ_cons List.take_succ_cons List.take_zero List.drop_nil List.take_nil List.append_nil List.map_cons List.map_nil List.cons_append List.nil_append beq_self_eq_true Bool.false_beq Bool.true_beq Bool.not_true Bool.not_false Option.map_some Option.map_none Option.bind_some ne_eq not_false_eq_true List.contains_cons List.contains_nil Bool.or_false Bool.or_true Bool.and_true Bool.and_false Bool.true_and Bool.false_and List.all_cons List.all_nil Nat.one_ne_zero Nat.zero_ne_one Option.isSome_some Option.isSome_none List.getElem?_toArray beq_true beq_false decide_eq_true_eq Int.toNat_zero forall_ints take_ints drop_ints Int.le_refl Int.natCast_nonneg Nat.zero_add Nat.add_zero or_true true_or false_or or_false
attribute [local go_sem ↓] allocN guardP OpSem callA readRs_cons readR binA intOpA strOpA nilOpA unA convA boxA allocA behind loadA buildA buildSliceA fieldAddrA fieldA indexAddrA indexA lenA sliceA extractA nilCheckA storeA lookupA mapSetA mapDelA makeSliceA appendA appendN apN
attribute [local irreducible] PCall W

section
variable {σ : Store} {ρ : Int → Int} {lt : Int → Int → Bool} {fi : Nat} {p m : Nat} {v : Option (Nat × Nat × List Th)} {c : List Th} {em : EM} {w : Int} {s : Store}

theorem up_inv {n : Nat} {x : Th} (hr : ByRank ρ lt) : (∀ ls em i, UpI ρ c n x ls em i → i < n ∧ n ≤ ls.length ∧ ls.length < 1000000) ∧
    (∀ ls em i, UpI ρ c n x ls em i → 0 < i → ahead lt x (ls.getD ((i - 1) / 2) noTh) = true → UpI ρ c n x (ls.set i (ls.getD ((i - 1) / 2) noTh)) (asetM (ls.getD ((i - 1) / 2) noTh).k i em) ((i - 1) / 2)) :=
  ⟨fun _ _ _ h => ⟨h.hole.bi, h.hole.len, h.hole.big⟩, fun _ _ _ h hi ha => h.step hi ((ahead_T hr).1 ha)⟩
theorem down_inv {n : Nat} {x : Th} (hr : ByRank ρ lt) : (∀ ls em i, DownI ρ c n x ls em i → i < n ∧ n ≤ ls.length ∧ ls.length < 1000000) ∧
    (∀ ls em i, DownI ρ c n x ls em i → 2 * i + 1 < n → ahead lt (ls.getD (child lt n ls i) noTh) x = true → DownI ρ c n x (ls.set i (ls.getD (child lt n ls i) noTh)) (asetM (ls.getD (child lt n ls i) noTh).k i em) (child lt n ls i)) :=
  ⟨fun _ _ _ h => ⟨h.hole.bi, h.hole.len, h.hole.big⟩, fun _ _ _ h hi ha => h.step hr hi ha⟩

/-- down(up(i)), as both of its callers have it. -/
theorem settle_up (hr : ByRank ρ lt) (hf : Less fi lt) {o : Nat} (d : Apart p m o) {n : Nat} {x : Th} {ls : List Th} {i : Nat} (hx : ls.getD i noTh = x) (h : UpI ρ c n x ls em i) (w : Int) (σ : Store) :
    PCall Try.prog 38 [.ptr p 0 0, .int .i64 i] (hst σ p m o (.fn fi []) n ls em w)
      (fun r s => ∃ ls' em' i', DownI ρ c n x ls' em' i' ∧ ls'.getD i' noTh = x ∧ r = .int .i64 i' ∧ s = hst σ p m o (.fn fi []) n ls' em' w) := by
  refine (up_spec hf d n w x (UpI ρ c n x) (up_inv hr).1 (up_inv hr).2 ls em i hx h σ).mono ?_
  rintro r s ⟨ls', em', i', h1, h2, rfl, rfl⟩
  have hb := h1.hole.bi
  have hl := h1.hole.len
  refine ⟨_, _, _, h1.turn (h2.imp_right fun h => (ahead_F hr).1 h), by rw [gset (by omega), if_pos rfl], rfl, rfl⟩
theorem settle_down (hr : ByRank ρ lt) (hf : Less fi lt) {o : Nat} (d : Apart p m o) {n : Nat} {x : Th} {ls : List Th} {i : Nat} (hx : ls.getD i noTh = x) (h : DownI ρ c n x ls em i) (w : Int) (σ : Store) :
    PCall Try.prog 37 [.ptr p 0 0, .int .i64 i] (hst σ p m o (.fn fi []) n ls em w)
      (fun r s => r = .tup [] ∧ ∃ ls' em', Heap ρ c n ls' em' ∧ s = hst σ p m o (.fn fi []) n ls' em' w) := by
  refine (down_spec hf d n w x (DownI ρ c n x) (down_inv hr).1 (down_inv hr).2 ls em i hx h σ).mono ?_
  rintro r s ⟨ls', em', i', h1, h2, rfl, rfl⟩
  exact ⟨rfl, _, _, h1.rest hr h2, rfl⟩

theorem noTh_enc : AV.agg [.str ⟨#[]⟩, .int .i64 0, .int .i64 0] = encT noTh := rfl

theorem sub_hst {σ s : Store} (hs : σ.Sub s) {p m o : Nat} (hp : σ p = none) (hm : σ m = none) (ho : σ o = none) (f : AV) (n : Nat) (ls : List Th) (em : EM) (w : Int) : σ.Sub (hst s p m o f n ls em w) := by
  intro q x hq
  have l : Loc q p m o := ⟨(fun e => by rw [e, hp] at hq; cases hq), (fun e => by rw [e, hm] at hq; cases hq), (fun e => by rw [e, ho] at hq; cases hq)⟩
  rw [l.rd]; exact hs q x hq
theorem HS.next {c' : List Th} {em' : EM} {n : Nat} {ls : List Th} {w' : Int} {o : Nat} {s' : Store} (H : HS σ ρ (.fn fi []) p m v c em w s) (hs : σ.Sub s') (fo : σ o = none) (d : Apart p m o) (hh : Heap ρ c' n ls em') (hlo : 0 ≤ w') (hhi : w' < 1000000)
    (srt : c'.Pairwise fun a b => a.w < b.w ∧ a.k ≠ b.k) (top : ∀ t, t ∈ c' → t.w ≤ w') : HS σ ρ (.fn fi []) p m (some (o, n, ls)) c' em' w' (hst s' p m o (.fn fi []) n ls em' w') :=
  ⟨sub_hst hs H.fh H.fm fo _ _ _ _ _, H.fh, H.fm, d.hm, d.rm _ _ _ _ _ _, hlo, hhi, srt, top, nofun, fun _ _ _ e => by
    injection e with e
    injection e with e1 e
    injection e with e2 e3
    subst e1; subst e2; subst e3
    exact ⟨fo, d, d.rh _ _ _ _ _ _, d.ro _ _ _ _ _ _, hh⟩⟩
theorem HS.set_top (H : HS σ ρ (.fn fi []) p m v c em w s) (k : ByteArray) (r : Int) : ∀ t, t ∈ without c k ++ [(⟨k, r, w + 1⟩ : Th)] → t.w ≤ w + 1 := by
  intro t ht
  rcases List.mem_append.1 ht with h | h
  · have := H.top t (mem_without.1 h).1; omega
  · rw [List.mem_singleton] at h; subst h; exact Int.le_refl _

/-- Setting a key that is there. -/
theorem set_old (hr : ByRank ρ lt) (hf : Less fi lt) (H : HS σ ρ (.fn fi []) p m v c em w s) (hw : w + 1 < 1000000) (k : ByteArray) (r : Int) {i : Nat} (hfi : findM k em = some i) :
    PCall Try.prog 12 [.ptr p 0 0, .str k, .int .i64 r] s (fun a t => ∃ v' em', a = .bool true ∧ HS σ ρ (.fn fi []) p m v' (without c k ++ [⟨k, r, w + 1⟩]) em' (w + 1) t) := by
  match v, H.nil, H.row with
  | none, h1, _ => rw [(h1 rfl).2.1] at hfi; cases hfi
  | some (o, n, ls), _, h1 =>
    obtain ⟨fo, d, h2, h3, hp⟩ := h1 _ _ _ rfl
    have hm := H.rm
    obtain ⟨hin, hk⟩ := hp.at_some hfi
    have hlen := hp.len
    have hup := hp.setOld H.srt (x := ⟨k, r, w + 1⟩) hfi
    have he := find_es k em
    rw [hfi] at he
    have hid := hst_id h2 hm h3
    have hw1 : IntKind.i64.wrap (w + 1) = w + 1 := wrap64_id (by have := H.lo; omega) (by omega)
    have hput := d.wh s (.fn fi []) (.fn fi []) n n ls em w (w + 1)
    rw [hid] at hput
    refine PCall_w [.tmp 6] 60 Try.func12 (by rfl) rfl rfl rfl rfl ?_
    repeat' first
      | refine W_seq ?_
      | refine W_block ?_
      | ((first | refine W_region (mu := []) ?_ | (refine W_region_any [] ⟨[], [], [], [], [], [], 0⟩ mixedOrders_ok (by kernel_rfl) ?_; intro nu hn1 hn2) | refine fn_ret ?_ | refine fn_normal ?_ | refine Hold_P ?_ | refine prun_go ?_ | refine drun_go ?_); simp -dsimp only [go_sem, Nat.reduceLT, Nat.reduceLeDiff, Nat.reduceEqDiff, Nat.reduceAdd, Nat.reduceMul, Int.reduceNeg, Nat.reduceBEq, reduceCtorEq, ↓reduceIte, h2, hm, he, all_es, hw1, hput, d.rh, d.rm, d.ro, d.wh])
      | (refine W_cond rfl (fun h => ?_) (fun h => ?_) <;> (try (cases h; done)))
      | refine W_ret ?_
      | refine W_skip ?_
      | refine W_exit ?_
      | refine then_normal ?_
      | refine then_ret ?_
      | refine then_exit ?_
      | refine inBlock_normal ?_
      | refine inBlock_ret ?_
      | refine inBlock_exit ?_
      | refine inBlock_ne (by decide) ?_
      | refine Hold_E ?_
      | (refine And.intro ?_ ?_; omega)
      | ((first | (refine ite_goB (fun h => ?_) (fun h => ?_) <;> (try exact absurd ((h : _ = false).symm.trans (by assumption : _ = true)) (by decide)) <;> (try exact absurd ((by assumption : _ = false).symm.trans (h : _ = true)) (by decide))) | (refine ite_go (fun h => ?_) (fun h => ?_) <;> (try exact absurd h (by assumption)) <;> (try exact absurd (by assumption) h))) <;> (try refine Hold_P ?_) <;> (try simp -dsimp only [h, go_sem, Nat.reduceLT, Nat.reduceLeDiff, Nat.reduceEqDiff, Nat.reduceAdd, Nat.reduceMul, Int.reduceNeg, Nat.reduceBEq, reduceCtorEq, ↓reduceIte, h2, hm, he, all_es, hw1, hput, d.rh, d.rm, d.ro, d.wh]))
      | refine Exists.intro _ (Exists.intro _ (And.intro (And.intro rfl rfl) ?_))
      | (refine PCall_use (lay_spec d _ n ls hlen em (w + 1) i hin ⟨k, r, w + 1⟩ s) ?_; rintro _ _ ⟨rfl, hq⟩; obtain rfl := hq.symm; clear hq)
      | (refine Exists.intro _ (And.intro (fun _ => lay_spec d _ n ls hlen em (w + 1) i hin ⟨k, r, w + 1⟩ s) ?_))
      | (refine Exists.intro _ (And.intro (lay_spec d _ n ls hlen em (w + 1) i hin ⟨k, r, w + 1⟩ s) ?_))
      | (refine Exists.intro _ (Exists.intro _ (And.intro (lay_spec d _ n ls hlen em (w + 1) i hin ⟨k, r, w + 1⟩ s) ?_)))
    refine PCall_use (settle_up hr hf d (by rw [gset (by omega), if_pos rfl]) hup _ _) ?_
    rintro _ _ ⟨ls1, em1, i1, hd, hx1, rfl, rfl⟩
    repeat' first
      | refine W_seq ?_
      | refine W_block ?_
      | ((first | refine W_region (mu := []) ?_ | (refine W_region_any [] ⟨[], [], [], [], [], [], 0⟩ mixedOrders_ok (by kernel_rfl) ?_; intro nu hn1 hn2) | refine fn_ret ?_ | refine fn_normal ?_ | refine Hold_P ?_ | refine prun_go ?_ | refine drun_go ?_); simp -dsimp only [go_sem, Nat.reduceLT, Nat.reduceLeDiff, Nat.reduceEqDiff, Nat.reduceAdd, Nat.reduceMul, Int.reduceNeg, Nat.reduceBEq, reduceCtorEq, ↓reduceIte])
      | (refine W_cond rfl (fun h => ?_) (fun h => ?_) <;> (try (cases h; done)))
      | refine W_ret ?_
      | refine W_skip ?_
      | refine W_exit ?_
      | refine then_normal ?_
      | refine then_ret ?_
      | refine then_exit ?_
      | refine inBlock_normal ?_
      | refine inBlock_ret ?_
      | refine inBlock_exit ?_
      | refine inBlock_ne (by decide) ?_
      | refine Hold_E ?_
      | (refine And.intro ?_ ?_; omega)
      | ((first | (refine ite_goB (fun h => ?_) (fun h => ?_) <;> (try exact absurd ((h : _ = false).symm.trans (by assumption : _ = true)) (by decide)) <;> (try exact absurd ((by assumption : _ = false).symm.trans (h : _ = true)) (by decide))) | (refine ite_go (fun h => ?_) (fun h => ?_) <;> (try exact absurd h (by assumption)) <;> (try exact absurd (by assumption) h))) <;> (try refine Hold_P ?_) <;> (try simp -dsimp only [h, go_sem, Nat.reduceLT, Nat.reduceLeDiff, Nat.reduceEqDiff, Nat.reduceAdd, Nat.reduceMul, Int.reduceNeg, Nat.reduceBEq, reduceCtorEq, ↓reduceIte]))
      | refine Exists.intro _ (Exists.intro _ (And.intro (And.intro rfl rfl) ?_))
    refine PCall_use (settle_down hr hf d hx1 hd _ _) ?_
    rintro _ _ ⟨rfl, ls2, em2, hh, rfl⟩
    repeat' first
      | refine W_seq ?_
      | refine W_block ?_
      | ((first | refine W_region (mu := []) ?_ | (refine W_region_any [] ⟨[], [], [], [], [], [], 0⟩ mixedOrders_ok (by kernel_rfl) ?_; intro nu hn1 hn2) | refine fn_ret ?_ | refine fn_normal ?_ | refine Hold_P ?_ | refine prun_go ?_ | refine drun_go ?_); simp -dsimp only [go_sem, Nat.reduceLT, Nat.reduceLeDiff, Nat.reduceEqDiff, Nat.reduceAdd, Nat.reduceMul, Int.reduceNeg, Nat.reduceBEq, reduceCtorEq, ↓reduceIte])
      | (refine W_cond rfl (fun h => ?_) (fun h => ?_) <;> (try (cases h; done)))
      | refine W_ret ?_
      | refine W_skip ?_
      | refine W_exit ?_
      | refine then_normal ?_
      | refine then_ret ?_
      | refine then_exit ?_
      | refine inBlock_normal ?_
      | refine inBlock_ret ?_
      | refine inBlock_exit ?_
      | refine inBlock_ne (by decide) ?_
      | refine Hold_E ?_
      | (refine And.intro ?_ ?_; omega)
      | ((first | (refine ite_goB (fun h => ?_) (fun h => ?_) <;> (try exact absurd ((h : _ = false).symm.trans (by assumption : _ = true)) (by decide)) <;> (try exact absurd ((by assumption : _ = false).symm.trans (h : _ = true)) (by decide))) | (refine ite_go (fun h => ?_) (fun h => ?_) <;> (try exact absurd h (by assumption)) <;> (try exact absurd (by assumption) h))) <;> (try refine Hold_P ?_) <;> (try simp -dsimp only [h, go_sem, Nat.reduceLT, Nat.reduceLeDiff, Nat.reduceEqDiff, Nat.reduceAdd, Nat.reduceMul, Int.reduceNeg, Nat.reduceBEq, reduceCtorEq, ↓reduceIte]))
      | refine Exists.intro _ (Exists.intro _ (And.intro (And.intro rfl rfl) ?_))
    exact ⟨_, Store.Sub.refl _, _, _, H.next H.sub fo d hh (by have := H.lo; omega) hw (with_srt H.srt H.top k r) (H.set_top k r)⟩

theorem take_things (l : List Th) (i : Nat) : (things l).take i = things (l.take i) := by simp [things, List.map_take]
theorem things_snoc0 (l : List Th) : things l ++ [.agg [.str ⟨#[]⟩, .int .i64 0, .int .i64 0]] = things (l ++ [noTh]) := by unfold things; rw [List.map_append]; rfl

/-- Setting a new key. -/
theorem set_new (hr : ByRank ρ lt) (hf : Less fi lt) (H : HS σ ρ (.fn fi []) p m v c em w s) (hw : w + 1 < 1000000) (hc : c.length + 1 < 1000000) (k : ByteArray) (r : Int) (hfi : findM k em = none) :
    PCall Try.prog 12 [.ptr p 0 0, .str k, .int .i64 r] s (fun a t => ∃ v' em', a = .bool false ∧ HS σ ρ (.fn fi []) p m v' (without c k ++ [⟨k, r, w + 1⟩]) em' (w + 1) t) := by
  have hm := H.rm
  have hw1 : IntKind.i64.wrap (w + 1) = w + 1 := wrap64_id (by have := H.lo; omega) (by omega)
  have he := find_es k em
  rw [hfi] at he
  match v, H.nil, H.row with
  | none, h1, _ =>
    obtain ⟨rfl, rfl, h2⟩ := h1 rfl
    have hup := (Heap.zero ρ).setNew (by omega) ⟨k, r, w + 1⟩ hfi
    refine PCall_w [.tmp 6] 60 Try.func12 (by rfl) rfl rfl rfl rfl ?_
    repeat' first
      | refine W_seq ?_
      | refine W_block ?_
      | ((first | refine W_region (mu := [34]) ?_ | (refine W_region_any [34] ⟨[], [], [], [], [], [], 0⟩ mixedOrders_ok (by kernel_rfl) ?_; intro nu hn1 hn2) | refine fn_ret ?_ | refine fn_normal ?_ | refine Hold_P ?_ | refine prun_go ?_ | refine drun_go ?_); simp -dsimp only [go_sem, Nat.reduceLT, Nat.reduceLeDiff, Nat.reduceEqDiff, Nat.reduceAdd, Nat.reduceMul, Int.reduceNeg, Nat.reduceBEq, reduceCtorEq, ↓reduceIte, h2, hm, he, all_es])
      | (refine W_cond rfl (fun h => ?_) (fun h => ?_) <;> (try (cases h; done)))
      | refine W_ret ?_
      | refine W_skip ?_
      | refine W_exit ?_
      | refine then_normal ?_
      | refine then_ret ?_
      | refine then_exit ?_
      | refine inBlock_normal ?_
      | refine inBlock_ret ?_
      | refine inBlock_exit ?_
      | refine inBlock_ne (by decide) ?_
      | refine Hold_E ?_
      | (refine And.intro ?_ ?_; omega)
      | ((first | (refine ite_goB (fun h => ?_) (fun h => ?_) <;> (try exact absurd ((h : _ = false).symm.trans (by assumption : _ = true)) (by decide)) <;> (try exact absurd ((by assumption : _ = false).symm.trans (h : _ = true)) (by decide))) | (refine ite_go (fun h => ?_) (fun h => ?_) <;> (try exact absurd h (by assumption)) <;> (try exact absurd (by assumption) h))) <;> (try refine Hold_P ?_) <;> (try simp -dsimp only [h, go_sem, Nat.reduceLT, Nat.reduceLeDiff, Nat.reduceEqDiff, Nat.reduceAdd, Nat.reduceMul, Int.reduceNeg, Nat.reduceBEq, reduceCtorEq, ↓reduceIte, h2, hm, he, all_es]))
      | refine Exists.intro _ (Exists.intro _ (And.intro (And.intro rfl rfl) ?_))
    intro o ho
    have d : Apart p m o := ⟨H.hm, (fun e => by rw [← e, h2] at ho; cases ho), (fun e => by rw [← e, hm] at ho; cases ho)⟩
    have hs1 : ∀ x, (s.put o x) p = some (.arr [.agg [.fn fi [], .sl .nil [], .map m, .int .i64 w]]) := fun x => by rw [put_ne d.ho]; exact h2
    have hput : (s.put o (.arr [.agg [.str ⟨#[]⟩, .int .i64 0, .int .i64 0]])).put p (.arr [.agg [.fn fi [], .ms o 3 0 1, .map m, .int .i64 w]]) = hst s p m o (.fn fi []) 1 [noTh] [] w := by
      funext q
      simp only [hst, Store.put]
      by_cases e1 : q = o
      · subst e1; simp [d.ho, things, encT, noTh]; exact fun h => absurd h.symm d.ho
      · by_cases e2 : q = m
        · subst e2; simp [e1, H.hm, hm]; exact fun h => absurd h.symm H.hm
        · simp [e1, e2]
    simp -dsimp only [hs1, hput, go_sem, Nat.reduceLT, Nat.reduceLeDiff, Nat.reduceEqDiff, Nat.reduceAdd, Nat.reduceMul, Int.reduceNeg, Nat.reduceBEq, reduceCtorEq, ↓reduceIte]
    repeat' first
      | refine W_seq ?_
      | refine W_block ?_
      | ((first | refine W_region (mu := []) ?_ | (refine W_region_any [] ⟨[], [], [], [], [], [], 0⟩ mixedOrders_ok (by kernel_rfl) ?_; intro nu hn1 hn2) | refine fn_ret ?_ | refine fn_normal ?_ | refine Hold_P ?_ | refine prun_go ?_ | refine drun_go ?_); simp -dsimp only [go_sem, Nat.reduceLT, Nat.reduceLeDiff, Nat.reduceEqDiff, Nat.reduceAdd, Nat.reduceMul, Int.reduceNeg, Nat.reduceBEq, reduceCtorEq, ↓reduceIte, d.rh, d.rm, d.ro, d.wh, hw1])
      | (refine W_cond rfl (fun h => ?_) (fun h => ?_) <;> (try (cases h; done)))
      | refine W_ret ?_
      | refine W_skip ?_
      | refine W_exit ?_
      | refine then_normal ?_
      | refine then_ret ?_
      | refine then_exit ?_
      | refine inBlock_normal ?_
      | refine inBlock_ret ?_
      | refine inBlock_exit ?_
      | refine inBlock_ne (by decide) ?_
      | refine Hold_E ?_
      | (refine And.intro ?_ ?_; omega)
      | ((first | (refine ite_goB (fun h => ?_) (fun h => ?_) <;> (try exact absurd ((h : _ = false).symm.trans (by assumption : _ = true)) (by decide)) <;> (try exact absurd ((by assumption : _ = false).symm.trans (h : _ = true)) (by decide))) | (refine ite_go (fun h => ?_) (fun h => ?_) <;> (try exact absurd h (by assumption)) <;> (try exact absurd (by assumption) h))) <;> (try refine Hold_P ?_) <;> (try simp -dsimp only [h, go_sem, Nat.reduceLT, Nat.reduceLeDiff, Nat.reduceEqDiff, Nat.reduceAdd, Nat.reduceMul, Int.reduceNeg, Nat.reduceBEq, reduceCtorEq, ↓reduceIte, d.rh, d.rm, d.ro, d.wh, hw1]))
      | refine Exists.intro _ (Exists.intro _ (And.intro (And.intro rfl rfl) ?_))
      | (refine PCall_use (lay_spec d _ 1 [noTh] (Nat.le_refl _) [] (w + 1) 0 (by omega) ⟨k, r, w + 1⟩ s) ?_; rintro _ _ ⟨rfl, hq⟩; obtain rfl := hq.symm; clear hq)
      | (refine Exists.intro _ (And.intro (fun _ => lay_spec d _ 1 [noTh] (Nat.le_refl _) [] (w + 1) 0 (by omega) ⟨k, r, w + 1⟩ s) ?_))
      | (refine Exists.intro _ (And.intro (lay_spec d _ 1 [noTh] (Nat.le_refl _) [] (w + 1) 0 (by omega) ⟨k, r, w + 1⟩ s) ?_))
      | (refine Exists.intro _ (Exists.intro _ (And.intro (lay_spec d _ 1 [noTh] (Nat.le_refl _) [] (w + 1) 0 (by omega) ⟨k, r, w + 1⟩ s) ?_)))
    refine PCall_use (settle_up hr hf d (i := 0) rfl hup _ _) ?_
    rintro _ _ ⟨ls1, em1, i1, hd, hx1, rfl, rfl⟩
    repeat' first
      | refine W_seq ?_
      | refine W_block ?_
      | ((first | refine W_region (mu := []) ?_ | (refine W_region_any [] ⟨[], [], [], [], [], [], 0⟩ mixedOrders_ok (by kernel_rfl) ?_; intro nu hn1 hn2) | refine fn_ret ?_ | refine fn_normal ?_ | refine Hold_P ?_ | refine prun_go ?_ | refine drun_go ?_); simp -dsimp only [go_sem, Nat.reduceLT, Nat.reduceLeDiff, Nat.reduceEqDiff, Nat.reduceAdd, Nat.reduceMul, Int.reduceNeg, Nat.reduceBEq, reduceCtorEq, ↓reduceIte])
      | (refine W_cond rfl (fun h => ?_) (fun h => ?_) <;> (try (cases h; done)))
      | refine W_ret ?_
      | refine W_skip ?_
      | refine W_exit ?_
      | refine then_normal ?_
      | refine then_ret ?_
      | refine then_exit ?_
      | refine inBlock_normal ?_
      | refine inBlock_ret ?_
      | refine inBlock_exit ?_
      | refine inBlock_ne (by decide) ?_
      | refine Hold_E ?_
      | (refine And.intro ?_ ?_; omega)
      | ((first | (refine ite_goB (fun h => ?_) (fun h => ?_) <;> (try exact absurd ((h : _ = false).symm.trans (by assumption : _ = true)) (by decide)) <;> (try exact absurd ((by assumption : _ = false).symm.trans (h : _ = true)) (by decide))) | (refine ite_go (fun h => ?_) (fun h => ?_) <;> (try exact absurd h (by assumption)) <;> (try exact absurd (by assumption) h))) <;> (try refine Hold_P ?_) <;> (try simp -dsimp only [h, go_sem, Nat.reduceLT, Nat.reduceLeDiff, Nat.reduceEqDiff, Nat.reduceAdd, Nat.reduceMul, Int.reduceNeg, Nat.reduceBEq, reduceCtorEq, ↓reduceIte]))
      | refine Exists.intro _ (Exists.intro _ (And.intro (And.intro rfl rfl) ?_))
    refine PCall_use (settle_down hr hf d hx1 hd _ _) ?_
    rintro _ _ ⟨rfl, ls2, em2, hh, rfl⟩
    repeat' first
      | refine W_seq ?_
      | refine W_block ?_
      | ((first | refine W_region (mu := []) ?_ | (refine W_region_any [] ⟨[], [], [], [], [], [], 0⟩ mixedOrders_ok (by kernel_rfl) ?_; intro nu hn1 hn2) | refine fn_ret ?_ | refine fn_normal ?_ | refine Hold_P ?_ | refine prun_go ?_ | refine drun_go ?_); simp -dsimp only [go_sem, Nat.reduceLT, Nat.reduceLeDiff, Nat.reduceEqDiff, Nat.reduceAdd, Nat.reduceMul, Int.reduceNeg, Nat.reduceBEq, reduceCtorEq, ↓reduceIte])
      | (refine W_cond rfl (fun h => ?_) (fun h => ?_) <;> (try (cases h; done)))
      | refine W_ret ?_
      | refine W_skip ?_
      | refine W_exit ?_
      | refine then_normal ?_
      | refine then_ret ?_
      | refine then_exit ?_
      | refine inBlock_normal ?_
      | refine inBlock_ret ?_
      | refine inBlock_exit ?_
      | refine inBlock_ne (by decide) ?_
      | refine Hold_E ?_
      | (refine And.intro ?_ ?_; omega)
      | ((first | (refine ite_goB (fun h => ?_) (fun h => ?_) <;> (try exact absurd ((h : _ = false).symm.trans (by assumption : _ = true)) (by decide)) <;> (try exact absurd ((by assumption : _ = false).symm.trans (h : _ = true)) (by decide))) | (refine ite_go (fun h => ?_) (fun h => ?_) <;> (try exact absurd h (by assumption)) <;> (try exact absurd (by assumption) h))) <;> (try refine Hold_P ?_) <;> (try simp -dsimp only [h, go_sem, Nat.reduceLT, Nat.reduceLeDiff, Nat.reduceEqDiff, Nat.reduceAdd, Nat.reduceMul, Int.reduceNeg, Nat.reduceBEq, reduceCtorEq, ↓reduceIte]))
      | refine Exists.intro _ (Exists.intro _ (And.intro (And.intro rfl rfl) ?_))
    exact ⟨_, Store.Sub.refl _, _, _, H.next H.sub (Sub_fresh H.sub ho) d hh (by have := H.lo; omega) hw (with_srt H.srt H.top k r) (H.set_top k r)⟩
  | some (o, n, ls), _, h1 =>
    obtain ⟨fo, d, h2, h3, hp⟩ := h1 _ _ _ rfl
    have hlen := hp.len
    have hcnt := hp.cnt
    have hup := hp.setNew (by omega) ⟨k, r, w + 1⟩ hfi
    refine PCall_w [.tmp 6] 60 Try.func12 (by rfl) rfl rfl rfl rfl ?_
    repeat' first
      | refine W_seq ?_
      | refine W_block ?_
      | ((first | refine W_region (mu := [34]) ?_ | (refine W_region_any [34] ⟨[], [], [], [], [], [], 0⟩ mixedOrders_ok (by kernel_rfl) ?_; intro nu hn1 hn2) | refine fn_ret ?_ | refine fn_normal ?_ | refine Hold_P ?_ | refine prun_go ?_ | refine drun_go ?_); simp -dsimp only [go_sem, Nat.reduceLT, Nat.reduceLeDiff, Nat.reduceEqDiff, Nat.reduceAdd, Nat.reduceMul, Int.reduceNeg, Nat.reduceBEq, reduceCtorEq, ↓reduceIte, h2, h3, hm, he, all_es, length_things, take_things, things_snoc0])
      | (refine W_cond rfl (fun h => ?_) (fun h => ?_) <;> (try (cases h; done)))
      | refine W_ret ?_
      | refine W_skip ?_
      | refine W_exit ?_
      | refine then_normal ?_
      | refine then_ret ?_
      | refine then_exit ?_
      | refine inBlock_normal ?_
      | refine inBlock_ret ?_
      | refine inBlock_exit ?_
      | refine inBlock_ne (by decide) ?_
      | refine Hold_E ?_
      | (refine And.intro ?_ ?_; omega)
      | ((first | (refine ite_goB (fun h => ?_) (fun h => ?_) <;> (try exact absurd ((h : _ = false).symm.trans (by assumption : _ = true)) (by decide)) <;> (try exact absurd ((by assumption : _ = false).symm.trans (h : _ = true)) (by decide))) | (refine ite_go (fun h => ?_) (fun h => ?_) <;> (try exact absurd h (by assumption)) <;> (try exact absurd (by assumption) h))) <;> (try refine Hold_P ?_) <;> (try simp -dsimp only [h, go_sem, Nat.reduceLT, Nat.reduceLeDiff, Nat.reduceEqDiff, Nat.reduceAdd, Nat.reduceMul, Int.reduceNeg, Nat.reduceBEq, reduceCtorEq, ↓reduceIte, h2, h3, hm, he, all_es, length_things, take_things, things_snoc0]))
      | refine Exists.intro _ (Exists.intro _ (And.intro (And.intro rfl rfl) ?_))
    intro o' ho'
    have d' : Apart p m o' := ⟨H.hm, (fun e => by rw [← e, h2] at ho'; cases ho'), (fun e => by rw [← e, hm] at ho'; cases ho')⟩
    have hso : σ o' = none := Sub_fresh H.sub ho'
    have hoo : o' ≠ o := fun e => by rw [e, h3] at ho'; cases ho'
    have hsub : σ.Sub (s.drop o) := Sub_drop H.sub fo
    have hs1 : ∀ x, ((s.drop o).put o' x) p = some (.arr [.agg [.fn fi [], .ms o 3 0 n, .map m, .int .i64 w]]) := fun x => by rw [put_ne d'.ho, drop_ne d.ho]; exact h2
    have hput : ((s.drop o).put o' (.arr (things (ls.take n ++ [noTh])))).put p (.arr [.agg [.fn fi [], .ms o' 3 0 (n + 1), .map m, .int .i64 w]]) = hst (s.drop o) p m o' (.fn fi []) (n + 1) (ls.take n ++ [noTh]) em w := by
      funext q
      simp only [hst, Store.put, Store.drop]
      by_cases e1 : q = o'
      · subst e1; simp [d'.ho]; exact fun h => absurd h.symm d'.ho
      · by_cases e2 : q = m
        · subst e2; simp [e1, H.hm, hm, d.mo]; exact fun h => absurd h.symm H.hm
        · simp [e1, e2]
    have hll : (ls.take n ++ [noTh]).length = n + 1 := by rw [List.length_append, List.length_take]; simp; omega
    simp -dsimp only [hs1, hput, go_sem, Nat.reduceLT, Nat.reduceLeDiff, Nat.reduceEqDiff, Nat.reduceAdd, Nat.reduceMul, Int.reduceNeg, Nat.reduceBEq, reduceCtorEq, ↓reduceIte]
    repeat' first
      | refine W_seq ?_
      | refine W_block ?_
      | ((first | refine W_region (mu := []) ?_ | (refine W_region_any [] ⟨[], [], [], [], [], [], 0⟩ mixedOrders_ok (by kernel_rfl) ?_; intro nu hn1 hn2) | refine fn_ret ?_ | refine fn_normal ?_ | refine Hold_P ?_ | refine prun_go ?_ | refine drun_go ?_); simp -dsimp only [go_sem, Nat.reduceLT, Nat.reduceLeDiff, Nat.reduceEqDiff, Nat.reduceAdd, Nat.reduceMul, Int.reduceNeg, Nat.reduceBEq, reduceCtorEq, ↓reduceIte, d'.rh, d'.rm, d'.ro, d'.wh, hw1])
      | (refine W_cond rfl (fun h => ?_) (fun h => ?_) <;> (try (cases h; done)))
      | refine W_ret ?_
      | refine W_skip ?_
      | refine W_exit ?_
      | refine then_normal ?_
      | refine then_ret ?_
      | refine then_exit ?_
      | refine inBlock_normal ?_
      | refine inBlock_ret ?_
      | refine inBlock_exit ?_
      | refine inBlock_ne (by decide) ?_
      | refine Hold_E ?_
      | (refine And.intro ?_ ?_; omega)
      | ((first | (refine ite_goB (fun h => ?_) (fun h => ?_) <;> (try exact absurd ((h : _ = false).symm.trans (by assumption : _ = true)) (by decide)) <;> (try exact absurd ((by assumption : _ = false).symm.trans (h : _ = true)) (by decide))) | (refine ite_go (fun h => ?_) (fun h => ?_) <;> (try exact absurd h (by assumption)) <;> (try exact absurd (by assumption) h))) <;> (try refine Hold_P ?_) <;> (try simp -dsimp only [h, go_sem, Nat.reduceLT, Nat.reduceLeDiff, Nat.reduceEqDiff, Nat.reduceAdd, Nat.reduceMul, Int.reduceNeg, Nat.reduceBEq, reduceCtorEq, ↓reduceIte, d'.rh, d'.rm, d'.ro, d'.wh, hw1]))
      | refine Exists.intro _ (Exists.intro _ (And.intro (And.intro rfl rfl) ?_))
      | (refine PCall_use (lay_spec d' _ (n + 1) (ls.take n ++ [noTh]) (by omega) em (w + 1) n (by omega) ⟨k, r, w + 1⟩ (s.drop o)) ?_; rintro _ _ ⟨rfl, hq⟩; obtain rfl := hq.symm; clear hq)
      | (refine Exists.intro _ (And.intro (fun _ => lay_spec d' _ (n + 1) (ls.take n ++ [noTh]) (by omega) em (w + 1) n (by omega) ⟨k, r, w + 1⟩ (s.drop o)) ?_))
      | (refine Exists.intro _ (And.intro (lay_spec d' _ (n + 1) (ls.take n ++ [noTh]) (by omega) em (w + 1) n (by omega) ⟨k, r, w + 1⟩ (s.drop o)) ?_))
      | (refine Exists.intro _ (Exists.intro _ (And.intro (lay_spec d' _ (n + 1) (ls.take n ++ [noTh]) (by omega) em (w + 1) n (by omega) ⟨k, r, w + 1⟩ (s.drop o)) ?_)))
    refine PCall_use (settle_up hr hf d' (by rw [gset (by omega), if_pos rfl]) hup _ _) ?_
    rintro _ _ ⟨ls1, em1, i1, hd, hx1, rfl, rfl⟩
    repeat' first
      | refine W_seq ?_
      | refine W_block ?_
      | ((first | refine W_region (mu := []) ?_ | (refine W_region_any [] ⟨[], [], [], [], [], [], 0⟩ mixedOrders_ok (by kernel_rfl) ?_; intro nu hn1 hn2) | refine fn_ret ?_ | refine fn_normal ?_ | refine Hold_P ?_ | refine prun_go ?_ | refine drun_go ?_); simp -dsimp only [go_sem, Nat.reduceLT, Nat.reduceLeDiff, Nat.reduceEqDiff, Nat.reduceAdd, Nat.reduceMul, Int.reduceNeg, Nat.reduceBEq, reduceCtorEq, ↓reduceIte])
      | (refine W_cond rfl (fun h => ?_) (fun h => ?_) <;> (try (cases h; done)))
      | refine W_ret ?_
      | refine W_skip ?_
      | refine W_exit ?_
      | refine then_normal ?_
      | refine then_ret ?_
      | refine then_exit ?_
      | refine inBlock_normal ?_
      | refine inBlock_ret ?_
      | refine inBlock_exit ?_
      | refine inBlock_ne (by decide) ?_
      | refine Hold_E ?_
      | (refine And.intro ?_ ?_; omega)
      | ((first | (refine ite_goB (fun h => ?_) (fun h => ?_) <;> (try exact absurd ((h : _ = false).symm.trans (by assumption : _ = true)) (by decide)) <;> (try exact absurd ((by assumption : _ = false).symm.trans (h : _ = true)) (by decide))) | (refine ite_go (fun h => ?_) (fun h => ?_) <;> (try exact absurd h (by assumption)) <;> (try exact absurd (by assumption) h))) <;> (try refine Hold_P ?_) <;> (try simp -dsimp only [h, go_sem, Nat.reduceLT, Nat.reduceLeDiff, Nat.reduceEqDiff, Nat.reduceAdd, Nat.reduceMul, Int.reduceNeg, Nat.reduceBEq, reduceCtorEq, ↓reduceIte]))
      | refine Exists.intro _ (Exists.intro _ (And.intro (And.intro rfl rfl) ?_))
    refine PCall_use (settle_down hr hf d' hx1 hd _ _) ?_
    rintro _ _ ⟨rfl, ls2, em2, hh, rfl⟩
    repeat' first
      | refine W_seq ?_
      | refine W_block ?_
      | ((first | refine W_region (mu := []) ?_ | (refine W_region_any [] ⟨[], [], [], [], [], [], 0⟩ mixedOrders_ok (by kernel_rfl) ?_; intro nu hn1 hn2) | refine fn_ret ?_ | refine fn_normal ?_ | refine Hold_P ?_ | refine prun_go ?_ | refine drun_go ?_); simp -dsimp only [go_sem, Nat.reduceLT, Nat.reduceLeDiff, Nat.reduceEqDiff, Nat.reduceAdd, Nat.reduceMul, Int.reduceNeg, Nat.reduceBEq, reduceCtorEq, ↓reduceIte])
      | (refine W_cond rfl (fun h => ?_) (fun h => ?_) <;> (try (cases h; done)))
      | refine W_ret ?_
      | refine W_skip ?_
      | refine W_exit ?_
      | refine then_normal ?_
      | refine then_ret ?_
      | refine then_exit ?_
      | refine inBlock_normal ?_
      | refine inBlock_ret ?_
      | refine inBlock_exit ?_
      | refine inBlock_ne (by decide) ?_
      | refine Hold_E ?_
      | (refine And.intro ?_ ?_; omega)
      | ((first | (refine ite_goB (fun h => ?_) (fun h => ?_) <;> (try exact absurd ((h : _ = false).symm.trans (by assumption : _ = true)) (by decide)) <;> (try exact absurd ((by assumption : _ = false).symm.trans (h : _ = true)) (by decide))) | (refine ite_go (fun h => ?_) (fun h => ?_) <;> (try exact absurd h (by assumption)) <;> (try exact absurd (by assumption) h))) <;> (try refine Hold_P ?_) <;> (try simp -dsimp only [h, go_sem, Nat.reduceLT, Nat.reduceLeDiff, Nat.reduceEqDiff, Nat.reduceAdd, Nat.reduceMul, Int.reduceNeg, Nat.reduceBEq, reduceCtorEq, ↓reduceIte]))
      | refine Exists.intro _ (Exists.intro _ (And.intro (And.intro rfl rfl) ?_))
    exact ⟨_, Store.Sub.refl _, _, _, H.next hsub hso d' hh (by have := H.lo; omega) hw (with_srt H.srt H.top k r) (H.set_top k r)⟩

theorem HS.ptr (H : HS σ ρ (.fn fi []) p m v c em w s) : ∃ x, s p = some (.arr [.agg [.fn fi [], x, .map m, .int .i64 w]]) := by
  match v, H.nil, H.row with
  | none, h1, _ => exact ⟨_, (h1 rfl).2.2⟩
  | some (o, n, ls), _, h1 => exact ⟨_, (h1 _ _ _ rfl).2.2.1⟩
theorem HS.find_none (H : HS σ ρ (.fn fi []) p m v c em w s) {k : ByteArray} : findM k em = none ↔ ∀ t, t ∈ c → t.k ≠ k := by
  match v, H.nil, H.row with
  | none, h1, _ =>
    obtain ⟨rfl, rfl, _⟩ := h1 rfl
    exact ⟨fun _ => nofun, fun _ => rfl⟩
  | some (o, n, ls), _, h1 =>
    have hp := (h1 _ _ _ rfl).2.2.2.2
    exact ⟨hp.at_none, hp.no k⟩

theorem drop_none (H : HS σ ρ (.fn fi []) p m v c em w s) (k : ByteArray) (hfi : findM k em = none) :
    PCall Try.prog 26 [.ptr p 0 0, .str k] s (fun a t => a = .bool false ∧ t = s) := by
  have hm := H.rm
  have he := find_es k em
  rw [hfi] at he
  obtain ⟨x, hx⟩ := H.ptr
  refine PCall_q [.tmp 4] 68 Try.func26 (by rfl) rfl rfl rfl rfl ?_
  repeat' first
    | refine W_seq ?_
    | refine W_block ?_
    | ((first | refine W_region (mu := []) ?_ | (refine W_region_any [] ⟨[], [], [], [], [], [], 0⟩ mixedOrders_ok (by kernel_rfl) ?_; intro nu hn1 hn2) | refine fn_ret ?_ | refine fn_normal ?_ | refine Hold_P ?_ | refine prun_go ?_ | refine drun_go ?_); simp -dsimp only [go_sem, Nat.reduceLT, Nat.reduceLeDiff, Nat.reduceEqDiff, Nat.reduceAdd, Nat.reduceMul, Int.reduceNeg, Nat.reduceBEq, reduceCtorEq, ↓reduceIte, hx, hm, he, all_es])
    | (refine W_cond rfl (fun h => ?_) (fun h => ?_) <;> (try (cases h; done)))
    | refine W_ret ?_
    | refine W_skip ?_
    | refine W_exit ?_
    | refine then_normal ?_
    | refine then_ret ?_
    | refine then_exit ?_
    | refine inBlock_normal ?_
    | refine inBlock_ret ?_
    | refine inBlock_exit ?_
    | refine inBlock_ne (by decide) ?_
    | refine Hold_E ?_
    | (refine And.intro ?_ ?_; omega)
    | ((first | (refine ite_goB (fun h => ?_) (fun h => ?_) <;> (try exact absurd ((h : _ = false).symm.trans (by assumption : _ = true)) (by decide)) <;> (try exact absurd ((by assumption : _ = false).symm.trans (h : _ = true)) (by decide))) | (refine ite_go (fun h => ?_) (fun h => ?_) <;> (try exact absurd h (by assumption)) <;> (try exact absurd (by assumption) h))) <;> (try refine Hold_P ?_) <;> (try simp -dsimp only [h, go_sem, Nat.reduceLT, Nat.reduceLeDiff, Nat.reduceEqDiff, Nat.reduceAdd, Nat.reduceMul, Int.reduceNeg, Nat.reduceBEq, reduceCtorEq, ↓reduceIte, hx, hm, he, all_es]))
    | refine Exists.intro _ (Exists.intro _ (And.intro (And.intro rfl rfl) ?_))

theorem drop_some (hr : ByRank ρ lt) (hf : Less fi lt) (H : HS σ ρ (.fn fi []) p m v c em w s) (k : ByteArray) {i : Nat} (hfi : findM k em = some i) :
    PCall Try.prog 26 [.ptr p 0 0, .str k] s (fun a t => ∃ v' em', a = .bool true ∧ HS σ ρ (.fn fi []) p m v' (without c k) em' w t) := by
  have hm := H.rm
  have he := find_es k em
  rw [hfi] at he
  have htop : ∀ t, t ∈ without c k → t.w ≤ w := fun t ht => H.top t (mem_without.1 ht).1
  match v, H.nil, H.row with
  | none, h1, _ => rw [(h1 rfl).2.1] at hfi; cases hfi
  | some (o, n, ls), _, h1 =>
    obtain ⟨fo, d, h2, h3, hp⟩ := h1 _ _ _ rfl
    have hlen := hp.len
    have hbig := hp.big
    obtain ⟨hin, hk⟩ := hp.at_some hfi
    have hw1 : IntKind.i64.wrap ((n : Int) - 1) = ((n - 1 : Nat) : Int) := by rw [wrap64_id (by omega) (by omega)]; omega
    have g0 := get_things (show n - 1 < ls.length by omega)
    have q1 : (((n - 1 : Nat) : Int) < (n : Int)) = True := eq_true (by omega)
    have q2 : (((n - 1 : Nat) : Int) ≤ (n : Int)) = True := eq_true (by omega)
    have hst0 := set_things ls (n - 1) ⟨#[]⟩ 0 0
    have hid := hst_id h2 hm h3
    refine PCall_w [.tmp 4] 68 Try.func26 (by rfl) rfl rfl rfl rfl ?_
    repeat' first
      | refine W_seq ?_
      | refine W_block ?_
      | ((first | refine W_region (mu := []) ?_ | (refine W_region_any [] ⟨[], [], [], [], [], [], 0⟩ mixedOrders_ok (by kernel_rfl) ?_; intro nu hn1 hn2) | refine fn_ret ?_ | refine fn_normal ?_ | refine Hold_P ?_ | refine prun_go ?_ | refine drun_go ?_); simp -dsimp only [go_sem, Nat.reduceLT, Nat.reduceLeDiff, Nat.reduceEqDiff, Nat.reduceAdd, Nat.reduceMul, Int.reduceNeg, Nat.reduceBEq, reduceCtorEq, ↓reduceIte, h2, h3, hm, he, all_es, hw1, g0, q1])
      | (refine W_cond rfl (fun h => ?_) (fun h => ?_) <;> (try (cases h; done)))
      | refine W_ret ?_
      | refine W_skip ?_
      | refine W_exit ?_
      | refine then_normal ?_
      | refine then_ret ?_
      | refine then_exit ?_
      | refine inBlock_normal ?_
      | refine inBlock_ret ?_
      | refine inBlock_exit ?_
      | refine inBlock_ne (by decide) ?_
      | refine Hold_E ?_
      | (refine And.intro ?_ ?_; omega)
      | ((first | (refine ite_goB (fun h => ?_) (fun h => ?_) <;> (try exact absurd ((h : _ = false).symm.trans (by assumption : _ = true)) (by decide)) <;> (try exact absurd ((by assumption : _ = false).symm.trans (h : _ = true)) (by decide))) | (refine ite_go (fun h => ?_) (fun h => ?_) <;> (try exact absurd h (by assumption)) <;> (try exact absurd (by assumption) h))) <;> (try refine Hold_P ?_) <;> (try simp -dsimp only [h, go_sem, Nat.reduceLT, Nat.reduceLeDiff, Nat.reduceEqDiff, Nat.reduceAdd, Nat.reduceMul, Int.reduceNeg, Nat.reduceBEq, reduceCtorEq, ↓reduceIte, h2, h3, hm, he, all_es, hw1, g0, q1]))
      | refine Exists.intro _ (Exists.intro _ (And.intro (And.intro rfl rfl) ?_))
    intro o1 ho1
    have l : Loc o1 p m o := ⟨(fun e => by rw [e, h2] at ho1; cases ho1), (fun e => by rw [e, hm] at ho1; cases ho1), (fun e => by rw [e, h3] at ho1; cases ho1)⟩
    have hso : σ o1 = none := Sub_fresh H.sub ho1
    rw [← hid, l.wr]
    have hnn : ls.set (n - 1) (⟨⟨#[]⟩, 0, 0⟩ : Th) = ls.set (n - 1) noTh := rfl
    have hsub : σ.Sub (s.put o1 (.arr [.agg [.str (ls.getD (n - 1) noTh).k, .int .i64 (ls.getD (n - 1) noTh).r, .int .i64 (ls.getD (n - 1) noTh).w]])) := Sub_put H.sub hso _
    by_cases hil : i < n - 1
    · have c0 : decide ((i : Int) < ((n - 1 : Nat) : Int)) = true := decT (by omega)
      have hup := hp.dropMid H.srt hfi hil
      have hll : n - 1 ≤ (ls.set (n - 1) noTh).length := by rw [List.length_set]; omega
      have g2 : ((ls.set (n - 1) noTh).set i (ls.getD (n - 1) noTh)).getD i noTh = ls.getD (n - 1) noTh := by rw [gset (by rw [List.length_set]; omega), if_pos rfl]
      repeat' first
        | refine W_seq ?_
        | refine W_block ?_
        | ((first | refine W_region (mu := []) ?_ | (refine W_region_any [] ⟨[], [], [], [], [], [], 0⟩ mixedOrders_ok (by kernel_rfl) ?_; intro nu hn1 hn2) | refine fn_ret ?_ | refine fn_normal ?_ | refine Hold_P ?_ | refine prun_go ?_ | refine drun_go ?_); simp -dsimp only [go_sem, Nat.reduceLT, Nat.reduceLeDiff, Nat.reduceEqDiff, Nat.reduceAdd, Nat.reduceMul, Int.reduceNeg, Nat.reduceBEq, reduceCtorEq, ↓reduceIte, d.rh, d.rm, d.ro, d.wh, d.wm, d.wo, l.rd, l.wr, g0, q1, q2, hst0, hnn, adelA_es, all_es, c0, Nat.sub_zero, splice])
        | (refine W_cond rfl (fun h => ?_) (fun h => ?_) <;> (try (cases h; done)))
        | refine W_ret ?_
        | refine W_skip ?_
        | refine W_exit ?_
        | refine then_normal ?_
        | refine then_ret ?_
        | refine then_exit ?_
        | refine inBlock_normal ?_
        | refine inBlock_ret ?_
        | refine inBlock_exit ?_
        | refine inBlock_ne (by decide) ?_
        | refine Hold_E ?_
        | (refine And.intro ?_ ?_; omega)
        | ((first | (refine ite_goB (fun h => ?_) (fun h => ?_) <;> (try exact absurd ((h : _ = false).symm.trans (by assumption : _ = true)) (by decide)) <;> (try exact absurd ((by assumption : _ = false).symm.trans (h : _ = true)) (by decide))) | (refine ite_go (fun h => ?_) (fun h => ?_) <;> (try exact absurd h (by assumption)) <;> (try exact absurd (by assumption) h))) <;> (try refine Hold_P ?_) <;> (try simp -dsimp only [h, go_sem, Nat.reduceLT, Nat.reduceLeDiff, Nat.reduceEqDiff, Nat.reduceAdd, Nat.reduceMul, Int.reduceNeg, Nat.reduceBEq, reduceCtorEq, ↓reduceIte, d.rh, d.rm, d.ro, d.wh, d.wm, d.wo, l.rd, l.wr, g0, q1, q2, hst0, hnn, adelA_es, all_es, c0, Nat.sub_zero, splice]))
        | refine Exists.intro _ (Exists.intro _ (And.intro (And.intro rfl rfl) ?_))
        | (refine PCall_use (lay_spec d _ (n - 1) (ls.set (n - 1) noTh) hll (adelM k em) w i hil (ls.getD (n - 1) noTh) _) ?_; rintro _ _ ⟨rfl, hq⟩; obtain rfl := hq.symm; clear hq)
        | (refine Exists.intro _ (And.intro (fun _ => lay_spec d _ (n - 1) (ls.set (n - 1) noTh) hll (adelM k em) w i hil (ls.getD (n - 1) noTh) _) ?_))
        | (refine Exists.intro _ (And.intro (lay_spec d _ (n - 1) (ls.set (n - 1) noTh) hll (adelM k em) w i hil (ls.getD (n - 1) noTh) _) ?_))
        | (refine Exists.intro _ (Exists.intro _ (And.intro (lay_spec d _ (n - 1) (ls.set (n - 1) noTh) hll (adelM k em) w i hil (ls.getD (n - 1) noTh) _) ?_)))
      refine PCall_use (settle_up hr hf d g2 hup _ _) ?_
      rintro _ _ ⟨ls1, em1, i1, hd, hx1, rfl, rfl⟩
      repeat' first
        | refine W_seq ?_
        | refine W_block ?_
        | ((first | refine W_region (mu := []) ?_ | (refine W_region_any [] ⟨[], [], [], [], [], [], 0⟩ mixedOrders_ok (by kernel_rfl) ?_; intro nu hn1 hn2) | refine fn_ret ?_ | refine fn_normal ?_ | refine Hold_P ?_ | refine prun_go ?_ | refine drun_go ?_); simp -dsimp only [go_sem, Nat.reduceLT, Nat.reduceLeDiff, Nat.reduceEqDiff, Nat.reduceAdd, Nat.reduceMul, Int.reduceNeg, Nat.reduceBEq, reduceCtorEq, ↓reduceIte])
        | (refine W_cond rfl (fun h => ?_) (fun h => ?_) <;> (try (cases h; done)))
        | refine W_ret ?_
        | refine W_skip ?_
        | refine W_exit ?_
        | refine then_normal ?_
        | refine then_ret ?_
        | refine then_exit ?_
        | refine inBlock_normal ?_
        | refine inBlock_ret ?_
        | refine inBlock_exit ?_
        | refine inBlock_ne (by decide) ?_
        | refine Hold_E ?_
        | (refine And.intro ?_ ?_; omega)
        | ((first | (refine ite_goB (fun h => ?_) (fun h => ?_) <;> (try exact absurd ((h : _ = false).symm.trans (by assumption : _ = true)) (by decide)) <;> (try exact absurd ((by assumption : _ = false).symm.trans (h : _ = true)) (by decide))) | (refine ite_go (fun h => ?_) (fun h => ?_) <;> (try exact absurd h (by assumption)) <;> (try exact absurd (by assumption) h))) <;> (try refine Hold_P ?_) <;> (try simp -dsimp only [h, go_sem, Nat.reduceLT, Nat.reduceLeDiff, Nat.reduceEqDiff, Nat.reduceAdd, Nat.reduceMul, Int.reduceNeg, Nat.reduceBEq, reduceCtorEq, ↓reduceIte]))
        | refine Exists.intro _ (Exists.intro _ (And.intro (And.intro rfl rfl) ?_))
      refine PCall_use (settle_down hr hf d hx1 hd _ _) ?_
      rintro _ _ ⟨rfl, ls2, em2, hh, rfl⟩
      repeat' first
        | refine W_seq ?_
        | refine W_block ?_
        | ((first | refine W_region (mu := []) ?_ | (refine W_region_any [] ⟨[], [], [], [], [], [], 0⟩ mixedOrders_ok (by kernel_rfl) ?_; intro nu hn1 hn2) | refine fn_ret ?_ | refine fn_normal ?_ | refine Hold_P ?_ | refine prun_go ?_ | refine drun_go ?_); simp -dsimp only [go_sem, Nat.reduceLT, Nat.reduceLeDiff, Nat.reduceEqDiff, Nat.reduceAdd, Nat.reduceMul, Int.reduceNeg, Nat.reduceBEq, reduceCtorEq, ↓reduceIte])
        | (refine W_cond rfl (fun h => ?_) (fun h => ?_) <;> (try (cases h; done)))
        | refine W_ret ?_
        | refine W_skip ?_
        | refine W_exit ?_
        | refine then_normal ?_
        | refine then_ret ?_
        | refine then_exit ?_
        | refine inBlock_normal ?_
        | refine inBlock_ret ?_
        | refine inBlock_exit ?_
        | refine inBlock_ne (by decide) ?_
        | refine Hold_E ?_
        | (refine And.intro ?_ ?_; omega)
        | ((first | (refine ite_goB (fun h => ?_) (fun h => ?_) <;> (try exact absurd ((h : _ = false).symm.trans (by assumption : _ = true)) (by decide)) <;> (try exact absurd ((by assumption : _ = false).symm.trans (h : _ = true)) (by decide))) | (refine ite_go (fun h => ?_) (fun h => ?_) <;> (try exact absurd h (by assumption)) <;> (try exact absurd (by assumption) h))) <;> (try refine Hold_P ?_) <;> (try simp -dsimp only [h, go_sem, Nat.reduceLT, Nat.reduceLeDiff, Nat.reduceEqDiff, Nat.reduceAdd, Nat.reduceMul, Int.reduceNeg, Nat.reduceBEq, reduceCtorEq, ↓reduceIte]))
        | refine Exists.intro _ (Exists.intro _ (And.intro (And.intro rfl rfl) ?_))
      exact ⟨_, Store.Sub.refl _, _, _, H.next hsub fo d hh H.lo H.hi (without_srt H.srt k) htop⟩
    · have c0 : decide ((i : Int) < ((n - 1 : Nat) : Int)) = false := decF (by omega)
      have hi1 : i = n - 1 := by omega
      rw [hi1] at hfi
      have hh := hp.dropLast H.srt hfi
      repeat' first
        | refine W_seq ?_
        | refine W_block ?_
        | ((first | refine W_region (mu := []) ?_ | (refine W_region_any [] ⟨[], [], [], [], [], [], 0⟩ mixedOrders_ok (by kernel_rfl) ?_; intro nu hn1 hn2) | refine fn_ret ?_ | refine fn_normal ?_ | refine Hold_P ?_ | refine prun_go ?_ | refine drun_go ?_); simp -dsimp only [go_sem, Nat.reduceLT, Nat.reduceLeDiff, Nat.reduceEqDiff, Nat.reduceAdd, Nat.reduceMul, Int.reduceNeg, Nat.reduceBEq, reduceCtorEq, ↓reduceIte, d.rh, d.rm, d.ro, d.wh, d.wm, d.wo, l.rd, l.wr, g0, q1, q2, hst0, hnn, adelA_es, all_es, c0, Nat.sub_zero, splice])
        | (refine W_cond rfl (fun h => ?_) (fun h => ?_) <;> (try (cases h; done)))
        | refine W_ret ?_
        | refine W_skip ?_
        | refine W_exit ?_
        | refine then_normal ?_
        | refine then_ret ?_
        | refine then_exit ?_
        | refine inBlock_normal ?_
        | refine inBlock_ret ?_
        | refine inBlock_exit ?_
        | refine inBlock_ne (by decide) ?_
        | refine Hold_E ?_
        | (refine And.intro ?_ ?_; omega)
        | ((first | (refine ite_goB (fun h => ?_) (fun h => ?_) <;> (try exact absurd ((h : _ = false).symm.trans (by assumption : _ = true)) (by decide)) <;> (try exact absurd ((by assumption : _ = false).symm.trans (h : _ = true)) (by decide))) | (refine ite_go (fun h => ?_) (fun h => ?_) <;> (try exact absurd h (by assumption)) <;> (try exact absurd (by assumption) h))) <;> (try refine Hold_P ?_) <;> (try simp -dsimp only [h, go_sem, Nat.reduceLT, Nat.reduceLeDiff, Nat.reduceEqDiff, Nat.reduceAdd, Nat.reduceMul, Int.reduceNeg, Nat.reduceBEq, reduceCtorEq, ↓reduceIte, d.rh, d.rm, d.ro, d.wh, d.wm, d.wo, l.rd, l.wr, g0, q1, q2, hst0, hnn, adelA_es, all_es, c0, Nat.sub_zero, splice]))
        | refine Exists.intro _ (Exists.intro _ (And.intro (And.intro rfl rfl) ?_))
      exact ⟨_, Store.Sub.refl _, _, _, H.next hsub fo d hh H.lo H.hi (without_srt H.srt k) htop⟩

/-- Pop of what is empty. -/
theorem pop_nil (H : HS σ ρ (.fn fi []) p m v [] em w s) : PCall Try.prog 14 [.ptr p 0 0] s (fun r t => r = .tup [.str ⟨#[]⟩, .int .i64 0, .bool false] ∧ t = s) := by
  refine PCall_q [.tmp 2, .tmp 3, .tmp 4] 21 Try.func14 (by rfl) rfl rfl rfl rfl ?_
  repeat' first
    | refine W_seq ?_
    | refine W_block ?_
    | ((first | refine W_region (mu := []) ?_ | (refine W_region_any [] ⟨[], [], [], [], [], [], 0⟩ mixedOrders_ok (by kernel_rfl) ?_; intro nu hn1 hn2) | refine fn_ret ?_ | refine fn_normal ?_ | refine Hold_P ?_ | refine prun_go ?_ | refine drun_go ?_); simp -dsimp only [go_sem, Nat.reduceLT, Nat.reduceLeDiff, Nat.reduceEqDiff, Nat.reduceAdd, Nat.reduceMul, Int.reduceNeg, Nat.reduceBEq, reduceCtorEq, ↓reduceIte])
    | (refine W_cond rfl (fun h => ?_) (fun h => ?_) <;> (try (cases h; done)))
    | refine W_ret ?_
    | refine W_skip ?_
    | refine W_exit ?_
    | refine then_normal ?_
    | refine then_ret ?_
    | refine then_exit ?_
    | refine inBlock_normal ?_
    | refine inBlock_ret ?_
    | refine inBlock_exit ?_
    | refine inBlock_ne (by decide) ?_
    | refine Hold_E ?_
    | (refine And.intro ?_ ?_; omega)
    | ((first | (refine ite_goB (fun h => ?_) (fun h => ?_) <;> (try exact absurd ((h : _ = false).symm.trans (by assumption : _ = true)) (by decide)) <;> (try exact absurd ((by assumption : _ = false).symm.trans (h : _ = true)) (by decide))) | (refine ite_go (fun h => ?_) (fun h => ?_) <;> (try exact absurd h (by assumption)) <;> (try exact absurd (by assumption) h))) <;> (try refine Hold_P ?_) <;> (try simp -dsimp only [h, go_sem, Nat.reduceLT, Nat.reduceLeDiff, Nat.reduceEqDiff, Nat.reduceAdd, Nat.reduceMul, Int.reduceNeg, Nat.reduceBEq, reduceCtorEq, ↓reduceIte]))
    | refine Exists.intro _ (Exists.intro _ (And.intro (And.intro rfl rfl) ?_))
    | (refine PCall_use (first_nil H) ?_; rintro _ _ ⟨rfl, hq⟩; obtain rfl := hq.symm; clear hq)
    | (refine Exists.intro _ (And.intro (fun _ => first_nil H) ?_))
    | (refine Exists.intro _ (And.intro (first_nil H) ?_))
    | (refine Exists.intro _ (Exists.intro _ (And.intro (first_nil H) ?_)))

theorem pop_some (hr : ByRank ρ lt) (hf : Less fi lt) (H : HS σ ρ (.fn fi []) p m v c em w s) (hc : c ≠ []) : ∃ t, t ∈ c ∧ (∀ u, u ∈ c → ¬ lex ρ u t) ∧
    PCall Try.prog 14 [.ptr p 0 0] s (fun r t' => ∃ v' em', r = .tup [.str t.k, .int .i64 t.r, .bool true] ∧ HS σ ρ (.fn fi []) p m v' (without c t.k) em' w t') := by
  obtain ⟨t, ht, hl, hF⟩ := first_some H hc
  refine ⟨t, ht, hl, ?_⟩
  have hfi : findM t.k em ≠ none := fun e => (H.find_none.1 e) t ht rfl
  obtain ⟨i, hi⟩ := Option.ne_none_iff_exists'.1 hfi
  refine PCall_w [.tmp 2, .tmp 3, .tmp 4] 21 Try.func14 (by rfl) rfl rfl rfl rfl ?_
  repeat' first
    | refine W_seq ?_
    | refine W_block ?_
    | ((first | refine W_region (mu := []) ?_ | (refine W_region_any [] ⟨[], [], [], [], [], [], 0⟩ mixedOrders_ok (by kernel_rfl) ?_; intro nu hn1 hn2) | refine fn_ret ?_ | refine fn_normal ?_ | refine Hold_P ?_ | refine prun_go ?_ | refine drun_go ?_); simp -dsimp only [go_sem, Nat.reduceLT, Nat.reduceLeDiff, Nat.reduceEqDiff, Nat.reduceAdd, Nat.reduceMul, Int.reduceNeg, Nat.reduceBEq, reduceCtorEq, ↓reduceIte])
    | (refine W_cond rfl (fun h => ?_) (fun h => ?_) <;> (try (cases h; done)))
    | refine W_ret ?_
    | refine W_skip ?_
    | refine W_exit ?_
    | refine then_normal ?_
    | refine then_ret ?_
    | refine then_exit ?_
    | refine inBlock_normal ?_
    | refine inBlock_ret ?_
    | refine inBlock_exit ?_
    | refine inBlock_ne (by decide) ?_
    | refine Hold_E ?_
    | (refine And.intro ?_ ?_; omega)
    | ((first | (refine ite_goB (fun h => ?_) (fun h => ?_) <;> (try exact absurd ((h : _ = false).symm.trans (by assumption : _ = true)) (by decide)) <;> (try exact absurd ((by assumption : _ = false).symm.trans (h : _ = true)) (by decide))) | (refine ite_go (fun h => ?_) (fun h => ?_) <;> (try exact absurd h (by assumption)) <;> (try exact absurd (by assumption) h))) <;> (try refine Hold_P ?_) <;> (try simp -dsimp only [h, go_sem, Nat.reduceLT, Nat.reduceLeDiff, Nat.reduceEqDiff, Nat.reduceAdd, Nat.reduceMul, Int.reduceNeg, Nat.reduceBEq, reduceCtorEq, ↓reduceIte]))
    | refine Exists.intro _ (Exists.intro _ (And.intro (And.intro rfl rfl) ?_))
    | (refine PCall_use (hF) ?_; rintro _ _ ⟨rfl, hq⟩; obtain rfl := hq.symm; clear hq)
    | (refine Exists.intro _ (And.intro (fun _ => hF) ?_))
    | (refine Exists.intro _ (And.intro (hF) ?_))
    | (refine Exists.intro _ (Exists.intro _ (And.intro (hF) ?_)))
  refine PCall_use (drop_some hr hf H t.k hi) ?_
  rintro _ s' ⟨v', em', rfl, H'⟩
  repeat' first
    | refine W_seq ?_
    | refine W_block ?_
    | ((first | refine W_region (mu := []) ?_ | (refine W_region_any [] ⟨[], [], [], [], [], [], 0⟩ mixedOrders_ok (by kernel_rfl) ?_; intro nu hn1 hn2) | refine fn_ret ?_ | refine fn_normal ?_ | refine Hold_P ?_ | refine prun_go ?_ | refine drun_go ?_); simp -dsimp only [go_sem, Nat.reduceLT, Nat.reduceLeDiff, Nat.reduceEqDiff, Nat.reduceAdd, Nat.reduceMul, Int.reduceNeg, Nat.reduceBEq, reduceCtorEq, ↓reduceIte])
    | (refine W_cond rfl (fun h => ?_) (fun h => ?_) <;> (try (cases h; done)))
    | refine W_ret ?_
    | refine W_skip ?_
    | refine W_exit ?_
    | refine then_normal ?_
    | refine then_ret ?_
    | refine then_exit ?_
    | refine inBlock_normal ?_
    | refine inBlock_ret ?_
    | refine inBlock_exit ?_
    | refine inBlock_ne (by decide) ?_
    | refine Hold_E ?_
    | (refine And.intro ?_ ?_; omega)
    | ((first | (refine ite_goB (fun h => ?_) (fun h => ?_) <;> (try exact absurd ((h : _ = false).symm.trans (by assumption : _ = true)) (by decide)) <;> (try exact absurd ((by assumption : _ = false).symm.trans (h : _ = true)) (by decide))) | (refine ite_go (fun h => ?_) (fun h => ?_) <;> (try exact absurd h (by assumption)) <;> (try exact absurd (by assumption) h))) <;> (try refine Hold_P ?_) <;> (try simp -dsimp only [h, go_sem, Nat.reduceLT, Nat.reduceLeDiff, Nat.reduceEqDiff, Nat.reduceAdd, Nat.reduceMul, Int.reduceNeg, Nat.reduceBEq, reduceCtorEq, ↓reduceIte]))
    | refine Exists.intro _ (Exists.intro _ (And.intro (And.intro rfl rfl) ?_))
  exact ⟨_, Store.Sub.refl _, _, _, H'⟩
end
end Go.Proofs.Ytoekaigdacaghaa
