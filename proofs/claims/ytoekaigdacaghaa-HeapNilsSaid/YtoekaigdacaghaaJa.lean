/- What a heap of pairs of numbers with texts as ranks is in the abstract layer; contracts of its small steps. Conditions: none. -/
import Derived.Test.YtoekaigdacaghaaTy
set_option linter.unusedVariables false
set_option linter.unusedSimpArgs false
set_option linter.unusedSectionVars false
namespace Go.Proofs.Ytoekaigdacaghaa.Duo
open Go.Kern Go.Proofs.Ytoekaigdacaghaa
set_option maxRecDepth 100000
set_option maxHeartbeats 4000000
attribute [local go_sem] drun_nil drun_cons prun_nil prun_cons wrOk tqOk lateOp lateB dstOk ev ofConst leafOf Env.putO Env.get envOf readRs_nil oneRes nilSide SK.isNil isMu fillA partsFit boundA SK.cut SK.cutFull SK.fresh rowOk rowsOk_nil rowsOk_cons rowsOk_append rowsOk_ints splice oneOf keyKind cellsKind cellKind cellsB cellB zeroFits TK.agg AV.cells AV.known AV.one List.set_cons_zero List.set_cons_succ put_same put_put forall_const implies_true exists_eq_left exists_eq_left' exists_eq_right exists_eq Store.Sub.refl and_self Int.toNat_natCast length_ints List.length_map true_and and_true decide_true decide_false if_true if_false Bool.false_eq_true Bool.true_eq_false List.getElem?_cons_zero List.getElem?_cons_succ List.length_cons List.length_nil List.drop_zero List.drop_succ_cons List.take_succ_cons List.take_zero List.drop_nil List.take_nil List.append_nil List.map_cons List.map_nil List.cons_append List.nil_append beq_self_eq_true Bool.false_beq Bool.true_beq Bool.not_true Bool.not_false Option.map_some Option.map_none Option.bind_some ne_eq not_false_eq_true List.contains_cons List.contains_nil Bool.or_false Bool.or_true Bool.and_true Bool.and_false Bool.true_and Bool.false_and List.all_cons List.all_nil Nat.one_ne_zero Nat.zero_ne_one Option.isSome_some Option.isSome_none List.getElem?_toArray beq_true beq_false decide_eq_true_eq Int.toNat_zero forall_ints take_ints drop_ints Int.le_refl Int.natCast_nonneg Nat.zero_add Nat.add_zero or_true true_or false_or or_false
attribute [local go_sem ↓] allocN guardP OpSem callA readRs_cons readR binA intOpA strOpA nilOpA unA convA boxA allocA behind loadA buildA buildSliceA fieldAddrA fieldA indexAddrA indexA lenA sliceA extractA nilCheckA storeA lookupA mapSetA mapDelA makeSliceA appendA appendN apN
attribute [local irreducible] PCall W

structure Th where
  k : Int × Int
  r : ByteArray
  w : Int
def encT (t : Th) : AV := .agg [.int .i64 t.k.1, .int .i64 t.k.2, .str t.r, .int .i64 t.w]
def things (l : List Th) : List AV := l.map encT
def noTh : Th := ⟨(0, 0), ⟨#[]⟩, 0⟩
theorem length_things (l : List Th) : (things l).length = l.length := by simp [things]
theorem get_things {l : List Th} {i : Nat} (h : i < l.length) : (things l)[i]? = some (.agg [.int .i64 (l.getD i noTh).k.1, .int .i64 (l.getD i noTh).k.2, .str (l.getD i noTh).r, .int .i64 (l.getD i noTh).w]) := by
  simp [things, encT, List.getD_eq_getElem?_getD, h]
theorem set_things (l : List Th) (i : Nat) (k : Int × Int) (r : ByteArray) (w : Int) : (things l).set i (.agg [.int .i64 k.1, .int .i64 k.2, .str r, .int .i64 w]) = things (l.set i ⟨k, r, w⟩) := by
  unfold things
  rw [List.map_set]
  rfl
theorem rowsOk_things (l : List Th) : rowsOk 4 (things l) = true := rowsOk_map 4 _ (fun _ => rfl) l

/-! The map from keys to places. -/
abbrev kA (k : Int × Int) : AV := .agg [.int .i64 k.1, .int .i64 k.2]
theorem keyB_k (a b : Int × Int) : keyB (kA a) (kA b) = decide (a = b) := by
  obtain ⟨a1, a2⟩ := a
  obtain ⟨b1, b2⟩ := b
  simp only [keyB, cellsB, cellB, Bool.and_true, Prod.mk.injEq, Bool.decide_and]
abbrev EM := List ((Int × Int) × Nat)
def esA (em : EM) : List (AV × AV) := em.map fun p => (kA p.1, .int .i64 p.2)
def asetM (k : Int × Int) (i : Nat) : EM → EM
  | [] => [(k, i)]
  | e :: r => if k = e.1 then (k, i) :: r else e :: asetM k i r
def adelM (k : Int × Int) : EM → EM
  | [] => []
  | e :: r => if k = e.1 then r else e :: adelM k r
def findM (k : Int × Int) : EM → Option Nat
  | [] => none
  | e :: r => if k = e.1 then some e.2 else findM k r
theorem asetA_es (k : Int × Int) (i : Nat) : ∀ em : EM, asetA (kA k) (.int .i64 i) (esA em) = esA (asetM k i em)
  | [] => rfl
  | e :: r => by
    have ih := asetA_es k i r
    unfold esA at ih ⊢
    simp only [List.map_cons, asetA, asetM, keyB_k, decide_eq_true_eq]
    split
    · rfl
    · rw [ih]; rfl
theorem adelA_es (k : Int × Int) : ∀ em : EM, adelA (kA k) (esA em) = esA (adelM k em)
  | [] => rfl
  | e :: r => by
    have ih := adelA_es k r
    unfold esA at ih ⊢
    simp only [List.map_cons, adelA, adelM, keyB_k, decide_eq_true_eq]
    split
    · rfl
    · rw [ih]; rfl
theorem find_es (k : Int × Int) : ∀ em : EM, (esA em).find? (fun e => keyB (kA k) e.1) = (findM k em).map fun (i : Nat) => (kA k, AV.int .i64 (i : Int))
  | [] => rfl
  | e :: r => by
    have ih := find_es k r
    unfold esA at ih ⊢
    simp only [List.map_cons, List.find?_cons, findM, keyB_k]
    by_cases h : k = e.1
    · rw [if_pos h, decide_eq_true h]
      subst h
      rfl
    · rw [if_neg h, decide_eq_false h]
      exact ih
theorem all_es (em : EM) : keysOk (.wide [.int .i64, .int .i64]) (esA em) = true := by
  unfold esA keysOk
  rw [List.all_map]
  exact List.all_eq_true.2 fun _ _ => rfl

/-! A heap in the store: its struct, its map, its row. -/
def hst (σ : Store) (h m o : Nat) (f : AV) (n : Nat) (ls : List Th) (em : EM) (w : Int) : Store :=
  ((σ.put h (.arr [.agg [f, .ms o 4 0 n, .map m, .int .i64 w]])).put m (.map (esA em))).put o (.arr (things ls))
structure Apart (h m o : Nat) : Prop where
  hm : h ≠ m
  ho : h ≠ o
  mo : m ≠ o
section
variable {h m o : Nat} (d : Apart h m o)
include d
theorem Apart.rh (σ : Store) (f : AV) (n : Nat) (ls : List Th) (em : EM) (w : Int) : hst σ h m o f n ls em w h = some (.arr [.agg [f, .ms o 4 0 n, .map m, .int .i64 w]]) := by
  unfold hst; rw [put_ne d.ho, put_ne d.hm, put_same]
theorem Apart.rm (σ : Store) (f : AV) (n : Nat) (ls : List Th) (em : EM) (w : Int) : hst σ h m o f n ls em w m = some (.map (esA em)) := by
  unfold hst; rw [put_ne d.mo, put_same]
theorem Apart.ro (σ : Store) (f : AV) (n : Nat) (ls : List Th) (em : EM) (w : Int) : hst σ h m o f n ls em w o = some (.arr (things ls)) := by
  unfold hst; rw [put_same]
theorem Apart.wh (σ : Store) (f f' : AV) (n n' : Nat) (ls : List Th) (em : EM) (w w' : Int) : (hst σ h m o f n ls em w).put h (.arr [.agg [f', .ms o 4 0 n', .map m, .int .i64 w']]) = hst σ h m o f' n' ls em w' := by
  funext p
  simp only [hst, Store.put]
  by_cases h1 : p = h
  · subst h1; simp [d.hm, d.ho]
  · simp [h1]
theorem Apart.wm (σ : Store) (f : AV) (n : Nat) (ls : List Th) (em em' : EM) (w : Int) : (hst σ h m o f n ls em w).put m (.map (esA em')) = hst σ h m o f n ls em' w := by
  funext p
  simp only [hst, Store.put]
  by_cases h1 : p = m
  · subst h1; simp [d.mo]
  · simp [h1]
theorem Apart.wo (σ : Store) (f : AV) (n : Nat) (ls ls' : List Th) (em : EM) (w : Int) : (hst σ h m o f n ls em w).put o (.arr (things ls')) = hst σ h m o f n ls' em w := by
  unfold hst; rw [put_put]
end
/-- An object that is none of the heap's. -/
structure Loc (p h m o : Nat) : Prop where
  h : p ≠ h
  m : p ≠ m
  o : p ≠ o
theorem Loc.rd {p h m o : Nat} (l : Loc p h m o) (σ : Store) (f : AV) (n : Nat) (ls : List Th) (em : EM) (w : Int) : hst σ h m o f n ls em w p = σ p := by
  unfold hst; rw [put_ne l.o, put_ne l.m, put_ne l.h]
theorem Loc.wr {p h m o : Nat} (l : Loc p h m o) (σ : Store) (f : AV) (n : Nat) (ls : List Th) (em : EM) (w : Int) (y : Ob) : (hst σ h m o f n ls em w).put p y = hst (σ.put p y) h m o f n ls em w := by
  funext q
  simp only [hst, Store.put]
  by_cases h1 : q = p
  · subst h1; simp [l.h, l.m, l.o]
  · simp [h1]
theorem Apart.fresh {h m o : Nat} (d : Apart h m o) {σ : Store} {f : AV} {n : Nat} {ls : List Th} {em : EM} {w : Int} {p : Nat} (hp : hst σ h m o f n ls em w p = none) : Loc p h m o :=
  ⟨(fun e => by rw [e, d.rh] at hp; cases hp), (fun e => by rw [e, d.rm] at hp; cases hp), (fun e => by rw [e, d.ro] at hp; cases hp)⟩
theorem hst_sub {σ τ : Store} (hs : σ.Sub τ) (h m o : Nat) (f : AV) (n : Nat) (ls : List Th) (em : EM) (w : Int) : (hst σ h m o f n ls em w).Sub (hst τ h m o f n ls em w) := by
  intro p x hp
  simp only [hst, Store.put] at hp ⊢
  split
  · rename_i h1; rw [if_pos h1] at hp; exact hp
  · rename_i h1
    rw [if_neg h1] at hp
    split
    · rename_i h2; rw [if_pos h2] at hp; exact hp
    · rename_i h2
      rw [if_neg h2] at hp
      split
      · rename_i h3; rw [if_pos h3] at hp; exact hp
      · rename_i h3; rw [if_neg h3] at hp; exact hs p x hp

theorem lay_spec {h m o : Nat} (d : Apart h m o) (f : AV) (n : Nat) (ls : List Th) (hn : n ≤ ls.length) (em : EM) (w : Int) (i : Nat) (hi : i < n) (x : Th) (σ : Store) :
    PCall Try.prog 40 [.ptr h 0 0, .int .i64 i, .agg [.int .i64 x.k.1, .int .i64 x.k.2, .str x.r, .int .i64 x.w]] (hst σ h m o f n ls em w) (fun r s => r = .tup [] ∧ s = hst σ h m o f n (ls.set i x) (asetM x.k i em) w) := by
  have g1 := get_things (show i < ls.length by omega)
  have hin : ((i : Int) < (n : Int)) = True := eq_true (by omega)
  refine PCall_w [] 20 Try.func40 (by rfl) rfl rfl rfl rfl ?_
  repeat' first
    | refine W_seq ?_
    | refine W_block ?_
    | ((first | refine W_region (mu := []) ?_ | (refine W_region_any (id := 1) [] ⟨[3], [7], [], [], [], [], 0⟩ mixedOrders_ok (by kernel_rfl) ?_; intro nu hn1 hn2) | (refine W_region_any (id := 2) [] ⟨[3], [7], [], [], [], [], 0⟩ mixedOrders_ok (by kernel_rfl) ?_; intro nu hn1 hn2) | (refine W_region_any [] ⟨[], [], [], [], [], [], 0⟩ mixedOrders_ok (by kernel_rfl) ?_; intro nu hn1 hn2) | refine fn_ret ?_ | refine fn_normal ?_ | refine Hold_P ?_ | refine prun_go ?_ | refine drun_go ?_); simp -dsimp only [go_sem, Nat.reduceLT, Nat.reduceLeDiff, Nat.reduceEqDiff, Nat.reduceAdd, Nat.reduceMul, Int.reduceNeg, Nat.reduceBEq, reduceCtorEq, ↓reduceIte, d.rh, d.rm, d.ro, d.wh, d.wm, d.wo, g1, hin, splice, set_things, asetA_es, all_es])
    | (refine W_cond rfl (fun h => ?_) (fun h => ?_) <;> (try (cases h; done)))
    | refine W_ret ?_
    | refine W_skip ?_
    | refine W_exit ?_
    | refine then_normal ?_
    | refine then_ret ?_
    | refine then_exit ?_
    | refine inBlock_normal ?_
    | refine inBlock_ret ?_
    | refine inBlock_exit ?_
    | refine inBlock_ne (by decide) ?_
    | refine Hold_E ?_
    | (refine And.intro ?_ ?_; omega)
    | ((first | (refine ite_goB (fun h => ?_) (fun h => ?_) <;> (try exact absurd ((h : _ = false).symm.trans (by assumption : _ = true)) (by decide)) <;> (try exact absurd ((by assumption : _ = false).symm.trans (h : _ = true)) (by decide))) | (refine ite_go (fun h => ?_) (fun h => ?_) <;> (try exact absurd h (by assumption)) <;> (try exact absurd (by assumption) h))) <;> (try refine Hold_P ?_) <;> (try simp -dsimp only [h, go_sem, Nat.reduceLT, Nat.reduceLeDiff, Nat.reduceEqDiff, Nat.reduceAdd, Nat.reduceMul, Int.reduceNeg, Nat.reduceBEq, reduceCtorEq, ↓reduceIte, d.rh, d.rm, d.ro, d.wh, d.wm, d.wo, g1, hin, splice, set_things, asetA_es, all_es]))
    | refine Exists.intro _ (Exists.intro _ (And.intro (And.intro rfl rfl) ?_))
end Go.Proofs.Ytoekaigdacaghaa.Duo
