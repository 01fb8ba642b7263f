/- The abstract layer, fifteenth part: helpers for contracts. Conditions: none. -/
import Derived.Test.YtaealcimocpnnaaGreatKnN
set_option linter.unusedVariables false
set_option linter.unusedSimpArgs false
namespace Go.Kern
open Go.RowKit

theorem wrap64_id {x : Int} (h1 : -9223372036854775808 ≤ x) (h2 : x ≤ 9223372036854775807) : IntKind.i64.wrap x = x := IntWalk.i64_in _ ⟨h1, h2⟩

/-- A loop, its states numbered by whatever type. -/
theorem W_loop_st {P : Program} {n : Nat} {Q : Post} {ρ : Env} {σ : Store} {c : Code} {α : Type} (E : α → Env) (S : α → Store) (I : α → Prop) (m : α → Nat) (a0 : α) (hI : I a0) (hE : (E a0).Sub ρ) (hS : (S a0).Sub σ)
    (hr : ∀ a, I a → W P n c (Post.then (fun ρ' σ' => ∃ a', m a' < m a ∧ I a' ∧ (E a').Sub ρ' ∧ (S a').Sub σ') Q) (E a) (S a)) : W P n (.loop c) Q ρ σ := by
  refine W_loop (fun k ρ' σ' => ∃ a, m a = k ∧ I a ∧ (E a).Sub ρ' ∧ (S a).Sub σ') (m a0) ⟨a0, rfl, hI, hE, hS⟩ ?_
  rintro k ρ' σ' ⟨a, rfl, ha, hEa, hSa⟩
  refine W_weaken hEa hSa (W_mono (hr a ha) ?_)
  intro e ρ2 σ2 hq
  cases e with
  | normal =>
    obtain ⟨a', h1, h2, h3, h4⟩ := hq
    exact ⟨m a', h1, a', rfl, h2, h3, h4⟩
  | exit id => exact hq
  | goto l => exact hq
  | ret => exact hq
  | panic ch => exact hq
  | outgrown => exact hq

theorem PCall_q {P : Program} {f : FuncId} {fn : Func} {c : Code} (rl : List ResultVar) (nt : Nat) (hf : P.funcs[f]? = some fn) (hn : (fn.name == "runtime.NumGoroutine") = false) (hb : fn.body = some c) (hr : fn.results.toList = rl) (hnt : fn.ntmps = nt)
    {args : List AV} {σ : Store} {X : AV} (hsz : decide (args.length ≤ nt) = true) (h : W P nt c (fnPostL P rl (fun r s => r = X ∧ σ.Sub s)) (envOf 0 args) σ) : PCall P f args σ (fun r s => r = X ∧ s = σ) := by
  have := PCall_of_body rl nt hf hn hb hr hnt hsz h
  refine ⟨this.1, fun g w vs hl hr hc => (this.2 g w vs hl hr hc).mono ?_⟩
  rintro e w' ⟨v, he, g', r, σ', h1, h2, h3, h4, h5⟩
  exact ⟨v, he, g', r, σ, h1, h2.sub h5, h3, h4, rfl⟩
/-- The store that is told of may be less than what there is. -/
theorem PCall_w {P : Program} {f : FuncId} {fn : Func} {c : Code} (rl : List ResultVar) (nt : Nat) (hf : P.funcs[f]? = some fn) (hn : (fn.name == "runtime.NumGoroutine") = false) (hb : fn.body = some c) (hr : fn.results.toList = rl) (hnt : fn.ntmps = nt)
    {args : List AV} {σ : Store} {K : KK} (hsz : decide (args.length ≤ nt) = true) (h : W P nt c (fnPostL P rl (fun r s => ∃ s0 : Store, s0.Sub s ∧ K r s0)) (envOf 0 args) σ) : PCall P f args σ K := by
  have := PCall_of_body rl nt hf hn hb hr hnt hsz h
  refine ⟨this.1, fun g w vs hl hr hc => (this.2 g w vs hl hr hc).mono ?_⟩
  rintro e w' ⟨v, he, g', r, σ', h1, h2, h3, s0, h4, h5⟩
  exact ⟨v, he, g', r, s0, h1, h2.sub h4, h3, h5⟩

theorem PCall_use {P : Program} {f : FuncId} {args : List AV} {σ : Store} {K0 k : KK} {t : Tag k} (h : PCall P f args σ K0) (hk : ∀ r s, K0 r s → k r s) : PCall P f args σ (Hold k t) := h.mono hk
theorem Hold_E {K : Env → Store → Prop} {t : Tag K} {ρ : Env} {σ : Store} (h : K ρ σ) : Hold K t ρ σ := h
theorem Hold_P {p : Prop} {t : Tag p} (h : p) : Hold p t := h
section
variable {K : Env → Store → Prop} {Q : Post} {ρ : Env} {σ : Store} {id id' : Nat}
theorem then_normal (h : K ρ σ) : Post.then K Q .normal ρ σ := h
theorem then_ret (h : Q .ret ρ σ) : Post.then K Q .ret ρ σ := h
theorem then_exit (h : Q (.exit id) ρ σ) : Post.then K Q (.exit id) ρ σ := h
theorem inBlock_normal (h : Q .normal ρ σ) : Post.inBlock id Q .normal ρ σ := h
theorem inBlock_ret (h : Q .ret ρ σ) : Post.inBlock id Q .ret ρ σ := h
theorem fn_ret {P : Program} {rl : List ResultVar} {K : KK} (h : readRs P ρ σ rl fun vs => K (oneRes vs) σ) : fnPostL P rl K .ret ρ σ := h
theorem fn_normal {P : Program} {rl : List ResultVar} {K : KK} (h : readRs P ρ σ rl fun vs => K (oneRes vs) σ) : fnPostL P rl K .normal ρ σ := h
theorem inBlock_exit (h : Q .normal ρ σ) : Post.inBlock id Q (.exit id) ρ σ := by simp only [Post.inBlock, if_true]; exact h
theorem inBlock_ne (hne : ¬ id' = id) (h : Q (.exit id') ρ σ) : Post.inBlock id Q (.exit id') ρ σ := by simp only [Post.inBlock, if_neg hne]; exact h
end

theorem put_same (s : Store) (o : Nat) (x : Ob) : (s.put o x) o = some x := by simp [Store.put]
theorem put_put (s : Store) (o : Nat) (x y : Ob) : (s.put o x).put o y = s.put o y := by
  funext p
  simp only [Store.put]
  split <;> rfl
theorem put_ne {s : Store} {o p : Nat} (h : p ≠ o) {x : Ob} : (s.put o x) p = s p := by simp [Store.put, h]
theorem fresh_ne {s : Store} {o p : Nat} {x : Ob} (h : (s.put o x) p = none) : o ≠ p := by
  rintro rfl
  simp [Store.put] at h
theorem fresh_old {s : Store} {o p : Nat} {x : Ob} (h : (s.put o x) p = none) : s p = none := by
  rwa [put_ne (fun e => fresh_ne h e.symm)] at h
theorem Sub_put {s t : Store} (h : s.Sub t) {o : Nat} (ho : s o = none) (x : Ob) : s.Sub (t.put o x) := fun p y hp => by
  simp only [Store.put]
  split
  · rename_i e; rw [e, ho] at hp; cases hp
  · exact h p y hp
theorem Sub_fresh {s t : Store} (h : s.Sub t) {o : Nat} (ho : t o = none) : s o = none := by
  cases hs : s o with
  | none => rfl
  | some x => have := h o x hs; rw [ho] at this; cases this

theorem Store.Sub.refl (s : Store) : s.Sub s := fun _ _ h => h

def ints (l : List Int) : List AV := l.map fun n => .int .i64 n
theorem length_ints (l : List Int) : (ints l).length = l.length := by simp [ints]
theorem getD_ints {l : List Int} {i : Nat} (h : i < l.length) : (ints l).getD i .any = .int .i64 (l.getD i 0) := by
  simp [ints, List.getD_eq_getElem?_getD, h]
theorem getD_map {α : Type} (f : α → AV) {l : List α} {i : Nat} (d : α) (h : i < l.length) : (l.map f).getD i .any = f (l.getD i d) := by
  simp [List.getD_eq_getElem?_getD, h]
theorem getD_append_left {α : Type} (l m : List α) (d : α) {i : Nat} (h : i < l.length) : (l ++ m).getD i d = l.getD i d := by
  simp [List.getD_eq_getElem?_getD, List.getElem?_append_left h]
theorem decT {p : Prop} [Decidable p] (h : p) : decide p = true := decide_eq_true h
theorem decF {p : Prop} [Decidable p] (h : ¬ p) : decide p = false := decide_eq_false h

theorem wrap_succ {i : Nat} (h : i < 4611686018427387904) : IntKind.i64.wrap ((i : Int) + 1) = ((i + 1 : Nat) : Int) := by
  rw [wrap64_id (by omega) (by omega)]; omega
theorem ite_go {c : Prop} [Decidable c] {A B : Prop} (h1 : c → A) (h2 : ¬ c → B) : ite c A B := by
  by_cases h : c
  · rw [if_pos h]; exact h1 h
  · rw [if_neg h]; exact h2 h
theorem ite_goB {b : Bool} {A B : Prop} (h1 : b = true → A) (h2 : b = false → B) : ite (b = true) A B := by
  cases b
  · exact h2 rfl
  · exact h1 rfl
theorem forall_ints {l : List Int} {p : AV → Prop} : (∀ x, x ∈ ints l → p x) = ∀ n, n ∈ l → p (.int .i64 n) := by
  simp [ints]
theorem rowsOk_ints (l : List Int) : rowsOk 1 (ints l) = true := rowsOk_map 1 _ (fun _ => rfl) l
theorem drop_same (s : Store) (o : Nat) : (s.drop o) o = none := by simp [Store.drop]
theorem drop_ne {s : Store} {o p : Nat} (h : p ≠ o) : (s.drop o) p = s p := by simp [Store.drop, h]
theorem Sub_drop {s t : Store} (h : s.Sub t) {o : Nat} (ho : s o = none) : s.Sub (t.drop o) := fun p y hp => by
  simp only [Store.drop]
  split
  · rename_i e; rw [e, ho] at hp; cases hp
  · exact h p y hp
theorem take_ints (l : List Int) (i : Nat) : (ints l).take i = ints (l.take i) := by simp [ints, List.map_take]
theorem drop_ints (l : List Int) (i : Nat) : (ints l).drop i = ints (l.drop i) := by simp [ints, List.map_drop]
/-- A sequence, with what is known between its parts. -/
theorem W_mid {P : Program} {n : Nat} {Q : Post} {ρ : Env} {σ : Store} {x y : Code} (E : Env) (S : Store) (hx : W P n x (Post.then (fun ρ' σ' => E.Sub ρ' ∧ S.Sub σ') Q) ρ σ) (hy : W P n y Q E S) : W P n (.seq x y) Q ρ σ := by
  refine W_seq (W_mono hx ?_)
  intro e ρ2 σ2 hq
  cases e with
  | normal => exact W_weaken hq.1 hq.2 hy
  | exit id => exact hq
  | goto l => exact hq
  | ret => exact hq
  | panic ch => exact hq
  | outgrown => exact hq

theorem sub_eq {s t : Store} (h : s = t) : s.Sub t := by rw [h]; exact Store.Sub.refl _
theorem W_midE {P : Program} {n : Nat} {Q : Post} {ρ : Env} {σ : Store} {x y : Code} {α : Type} (E : α → Env) (S : α → Store) (I : α → Prop) (hx : W P n x (Post.then (fun ρ' σ' => ∃ a, I a ∧ (E a).Sub ρ' ∧ (S a).Sub σ') Q) ρ σ) (hy : ∀ a, I a → W P n y Q (E a) (S a)) : W P n (.seq x y) Q ρ σ := by
  refine W_seq (W_mono hx ?_)
  intro e ρ2 σ2 hq
  cases e with
  | normal =>
    obtain ⟨a, h1, h2, h3⟩ := hq
    exact W_weaken h2 h3 (hy a h1)
  | exit id => exact hq
  | goto l => exact hq
  | ret => exact hq
  | panic ch => exact hq
  | outgrown => exact hq

theorem prun_go {P : Program} {n : Nat} {mu : List Nat} {ops : Array Oper} {l : List Oper} {ρ : Env} {σ : Store} {K : Env → Store → Prop} (h : prun P n mu ops l ρ σ K) : prun P n mu ops l ρ σ K := h
theorem drun_go {P : Program} {n : Nat} {mu : List Nat} {c : Cl} {nu : Nat → Nat} {ops : Array Oper} {l : List Oper} {i : Nat} {ρ : Env} {σ : Store} {K : Env → Store → Prop} (h : drun P n mu c nu ops l i ρ σ K) : drun P n mu c nu ops l i ρ σ K := h
end Go.Kern
