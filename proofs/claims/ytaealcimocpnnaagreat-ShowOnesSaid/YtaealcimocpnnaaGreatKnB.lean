/- The abstract layer, second part: environments, the judgement W over code, and its rules for the forms of code. Conditions: none. -/
import Derived.Test.YtaealcimocpnnaaGreatKnA
set_option linter.unusedVariables false
set_option linter.unusedSimpArgs false
namespace Go.Kern
open Go.RowKit

abbrev Env := List (Nat × AV)
def Env.get : Env → Nat → AV
  | [], _ => .any
  | (j, v) :: r, i => if i = j then v else Env.get r i
def Env.putO (ρ : Env) : Option Tmp → AV → Env
  | none, _ => ρ
  | some d, v => (d, v) :: ρ

def leafOf : Value → AV
  | .int k n => .int k n
  | .bool b => .bool b
  | .string s => .str s
  | .pointer none => .nilp
  | .slice none 0 0 => .sl .nil []
  | .map none => .nilmap
  | .nilFunc => .nilfn
  | .nilIface => .nilifc
  | _ => .any
def ofConst : Value → AV
  | .agg cs => .agg (cs.toList.map leafOf)
  | .tuple cs => .tup (cs.toList.map leafOf)
  | v => leafOf v

theorem R_leaf (g : Gh) (v : Value) : R g (leafOf v) v := by
  unfold leafOf
  split <;> first | exact .any _ | exact .int _ _ | exact .bool _ | exact .str _ | exact .nilp | exact .slnil | exact .nilmap | exact .nilfn | exact .nilifc

theorem R_leaves (g : Gh) (cs : Array Value) : (cs.toList.map leafOf).length = cs.size ∧ ∀ (i : Nat) (c : AV) (v : Value), (cs.toList.map leafOf)[i]? = some c → cs[i]? = some v → R g c v := by
  refine ⟨by simp, fun i c v hc hv => ?_⟩
  simp only [List.getElem?_map, Array.getElem?_toList, hv, Option.map_some, Option.some.injEq] at hc
  subst hc
  exact R_leaf g v

theorem R_const (g : Gh) (v : Value) : R g (ofConst v) v := by
  unfold ofConst
  split
  · exact .agg (R_leaves g _).1 (R_leaves g _).2
  · exact .tup (R_leaves g _).1 (R_leaves g _).2
  · exact R_leaf g v

def ev (ρ : Env) : Operand → AV
  | .tmp t => ρ.get t
  | .const v => ofConst v
  | .global _ => .any
  | .func f => .fn f []

structure RE (g : Gh) (n : Nat) (ρ : Env) (tmps : Array Value) : Prop where
  size : tmps.size = n
  get : ∀ i, R g (ρ.get i) (tmps.getD i undef)

theorem R_undef (g : Gh) : R g (.tup []) undef := .tup rfl (fun i c v h => by simp at h)

theorem RE.le {g g' : Gh} {n : Nat} {ρ : Env} {t : Array Value} (h : RE g n ρ t) (hle : g.Le g') : RE g' n ρ t := ⟨h.size, fun i => (h.get i).le hle⟩

theorem RE.eval {g : Gh} {n : Nat} {ρ : Env} {a : Act} (h : RE g n ρ a.tmps) (x : Operand) : R g (ev ρ x) (a.eval x) := by
  cases x with
  | tmp t => exact h.get t
  | const v => exact R_const g v
  | global _ => exact .any _
  | func f => exact .fn rfl (fun i c v hc => by simp at hc)

/-- Where a value may be put. -/
def dstOk (n : Nat) : Option Tmp → Bool
  | none => true
  | some d => decide (d < n)

theorem RE.put {g : Gh} {n : Nat} {ρ : Env} {a : Act} (h : RE g n ρ a.tmps) {d : Option Tmp} (hd : dstOk n d = true) {x : AV} {v : Value} (hx : R g x v) : RE g n (ρ.putO d x) (a.put d v).tmps := by
  cases d with
  | none => exact h
  | some d =>
    have hd' : d < n := by simpa [dstOk] using hd
    refine ⟨by simp [Act.put, h.size], fun i => ?_⟩
    simp only [Act.put, Env.putO, Env.get]
    by_cases hi : i = d
    · subst hi
      rw [if_pos rfl, Array.getD_eq_getD_getElem?, Array.getElem?_setIfInBounds]
      rw [if_pos rfl, if_pos (by rw [h.size]; exact hd')]
      exact hx
    · rw [if_neg hi, Array.getD_eq_getD_getElem?, Array.getElem?_setIfInBounds, if_neg (fun e => hi e.symm), ← Array.getD_eq_getD_getElem?]
      exact h.get i

/-- The first says no more than the second. -/
def Env.Sub (s t : Env) : Prop := ∀ i, s.get i = .any ∨ s.get i = t.get i
theorem RE.sub {g : Gh} {n : Nat} {s t : Env} {a : Array Value} (hs : s.Sub t) (h : RE g n t a) : RE g n s a :=
  ⟨h.size, fun i => by
    rcases hs i with e | e
    · rw [e]; exact .any _
    · rw [e]; exact h.get i⟩
/-- Slot by slot: what is to be shown where a round ends. -/
def Env.Has (t : Env) : Env → Prop
  | [] => True
  | (j, v) :: r => t.get j = v ∧ Env.Has t r
theorem Env.Sub_of_has {t : Env} : ∀ {s : Env}, Env.Has t s → s.Sub t
  | [], _ => fun i => .inl rfl
  | (j, v) :: r, h => fun i => by
    simp only [Env.get]
    by_cases e : i = j
    · subst e; rw [if_pos rfl]; exact .inr h.1.symm
    · rw [if_neg e]; exact Env.Sub_of_has h.2 i

abbrev Post := Exit → Env → Store → Prop
def Lift (g : Gh) (n : Nat) (Q : Post) : Exit → Act → World → Prop := fun e a w =>
  a.defers = [] ∧ ∃ g' ρ' σ', g.Le g' ∧ RE g' n ρ' a.tmps ∧ Conc g' w σ' ∧ Q e ρ' σ'

def W (P : Program) (n : Nat) (c : Code) (Q : Post) (ρ : Env) (σ : Store) : Prop :=
  ∀ (g : Gh) (a : Act) (w : World), a.defers = [] → RE g n ρ a.tmps → Conc g w σ → c.wp P (Lift g n Q) a w

theorem Lift.mono {g g' : Gh} {n : Nat} {Q Q' : Post} (hle : g.Le g') (hq : ∀ e ρ σ, Q e ρ σ → Q' e ρ σ) {e : Exit} {a : Act} {w : World} (h : Lift g' n Q e a w) : Lift g n Q' e a w := by
  obtain ⟨hd, g1, ρ, σ, h1, h2, h3, h4⟩ := h
  exact ⟨hd, g1, ρ, σ, hle.trans h1, h2, h3, hq _ _ _ h4⟩

def Post.then (next : Env → Store → Prop) (Q : Post) : Post
  | .normal, ρ, σ => next ρ σ
  | e, ρ, σ => Q e ρ σ
def Post.inBlock (id : Nat) (Q : Post) : Post
  | .exit id', ρ, σ => if id' = id then Q .normal ρ σ else Q (.exit id') ρ σ
  | e, ρ, σ => Q e ρ σ

section
variable {P : Program} {n : Nat} {Q : Post} {ρ : Env} {σ : Store}

theorem W_mono {c : Code} {Q' : Post} (h : W P n c Q ρ σ) (hq : ∀ e ρ σ, Q e ρ σ → Q' e ρ σ) : W P n c Q' ρ σ :=
  fun g a w hd he hc => wp_mono (h g a w hd he hc) fun _ _ _ hl => hl.mono (.refl g) hq

theorem W_weaken {c : Code} {ρ' : Env} {σ' : Store} (hρ : ρ'.Sub ρ) (hσ : σ'.Sub σ) (h : W P n c Q ρ' σ') : W P n c Q ρ σ :=
  fun g a w hd he hc => h g a w hd (he.sub hρ) (hc.sub hσ)

theorem W_seq {x y : Code} (h : W P n x (Post.then (W P n y Q) Q) ρ σ) : W P n (.seq x y) Q ρ σ := by
  intro g a w hd he hc
  refine wp_seq (wp_mono (h g a w hd he hc) ?_)
  rintro e a' w' ⟨hd', g', ρ', σ', hle, he', hc', hq⟩
  cases e with
  | normal => exact wp_mono (hq g' a' w' hd' he' hc') fun _ _ _ hl => hl.mono hle (fun _ _ _ h => h)
  | exit id => exact ⟨hd', g', ρ', σ', hle, he', hc', hq⟩
  | goto l => exact ⟨hd', g', ρ', σ', hle, he', hc', hq⟩
  | ret => exact ⟨hd', g', ρ', σ', hle, he', hc', hq⟩
  | panic ch => exact ⟨hd', g', ρ', σ', hle, he', hc', hq⟩
  | outgrown => exact ⟨hd', g', ρ', σ', hle, he', hc', hq⟩

theorem W_skip (h : Q .normal ρ σ) : W P n .skip Q ρ σ := fun g a w hd he hc => wp_skip ⟨hd, g, ρ, σ, .refl g, he, hc, h⟩
theorem W_ret (h : Q .ret ρ σ) : W P n .ret Q ρ σ := fun g a w hd he hc => wp_ret ⟨hd, g, ρ, σ, .refl g, he, hc, h⟩
theorem W_exit {id : Nat} (h : Q (.exit id) ρ σ) : W P n (.exit id) Q ρ σ := fun g a w hd he hc => wp_exit ⟨hd, g, ρ, σ, .refl g, he, hc, h⟩
theorem W_label {l : Nat} (h : Q .normal ρ σ) : W P n (.label l) Q ρ σ := fun g a w hd he hc => wp_label ⟨hd, g, ρ, σ, .refl g, he, hc, h⟩

theorem W_block {id : Nat} {c : Code} (h : W P n c (Post.inBlock id Q) ρ σ) : W P n (.block id c) Q ρ σ := by
  intro g a w hd he hc
  refine wp_block (wp_mono (h g a w hd he hc) ?_)
  rintro e a' w' ⟨hd', g', ρ', σ', hle, he', hc', hq⟩
  cases e with
  | exit id' =>
    simp only [Post.inBlock] at hq
    simp only [Exit.inBlock]
    split
    · rename_i e; rw [if_pos e] at hq; exact ⟨hd', g', ρ', σ', hle, he', hc', hq⟩
    · rename_i e; rw [if_neg e] at hq; exact ⟨hd', g', ρ', σ', hle, he', hc', hq⟩
  | normal => exact ⟨hd', g', ρ', σ', hle, he', hc', hq⟩
  | goto l => exact ⟨hd', g', ρ', σ', hle, he', hc', hq⟩
  | ret => exact ⟨hd', g', ρ', σ', hle, he', hc', hq⟩
  | panic ch => exact ⟨hd', g', ρ', σ', hle, he', hc', hq⟩
  | outgrown => exact ⟨hd', g', ρ', σ', hle, he', hc', hq⟩

theorem W_cond {c : Operand} {x y : Code} {b : Bool} (hb : ev ρ c = .bool b) (ht : b = true → W P n x Q ρ σ) (hf : b = false → W P n y Q ρ σ) : W P n (.cond c x y) Q ρ σ := by
  intro g a w hd he hc
  have hr := he.eval c
  rw [hb] at hr
  generalize hv : a.eval c = v at hr
  cases hr
  refine wp_cond_split hv (fun e => ht e g a w hd he hc) (fun e => hf e g a w hd he hc)

/-- A loop: 'I k ρ σ' holds at the head, k rounds at most are to come. -/
theorem W_loop {c : Code} (I : Nat → Env → Store → Prop) (k : Nat) (h0 : I k ρ σ)
    (hr : ∀ k ρ σ, I k ρ σ → W P n c (Post.then (fun ρ' σ' => ∃ k', k' < k ∧ I k' ρ' σ') Q) ρ σ) : W P n (.loop c) Q ρ σ := by
  intro g a w hd he hc
  refine wp_loop_ghost (fun k a' w' => a'.defers = [] ∧ ∃ g' ρ' σ', g.Le g' ∧ RE g' n ρ' a'.tmps ∧ Conc g' w' σ' ∧ I k ρ' σ') k ⟨hd, g, ρ, σ, .refl g, he, hc, h0⟩ ?_
  rintro k a' w' ⟨hd', g', ρ', σ', hle, he', hc', hi⟩
  refine wp_mono (hr k ρ' σ' hi g' a' w' hd' he' hc') ?_
  rintro e a2 w2 ⟨hd2, g2, ρ2, σ2, hle2, he2, hc2, hq⟩
  cases e with
  | normal =>
    obtain ⟨k', hk, hi'⟩ := hq
    exact ⟨k', hk, hd2, g2, ρ2, σ2, hle.trans hle2, he2, hc2, hi'⟩
  | exit id' => exact ⟨hd2, g2, ρ2, σ2, hle.trans hle2, he2, hc2, hq⟩
  | goto l => exact ⟨hd2, g2, ρ2, σ2, hle.trans hle2, he2, hc2, hq⟩
  | ret => exact ⟨hd2, g2, ρ2, σ2, hle.trans hle2, he2, hc2, hq⟩
  | panic ch => exact ⟨hd2, g2, ρ2, σ2, hle.trans hle2, he2, hc2, hq⟩
  | outgrown => exact ⟨hd2, g2, ρ2, σ2, hle.trans hle2, he2, hc2, hq⟩
end

/-! ### Calls -/
/-- A call of function f comes back, with an answer and a store of which K tells. -/
def PCall (P : Program) (f : FuncId) (args : List AV) (σ : Store) (K : AV → Store → Prop) : Prop :=
  (∃ fn, P.funcs[f]? = some fn ∧ (fn.name == "runtime.NumGoroutine") = false ∧ fn.body.isNone = false) ∧
  ∀ (g : Gh) (w : World) (vs : Array Value), args.length = vs.size → (∀ (i : Nat) (c : AV) (v : Value), args[i]? = some c → vs[i]? = some v → R g c v) → Conc g w σ →
    Calls P f vs w fun e w' => ∃ v, e = .returned v ∧ ∃ g' r σ', g.Le g' ∧ Conc g' w' σ' ∧ R g' r v ∧ K r σ'

theorem PCall.mono {P : Program} {f : FuncId} {args : List AV} {σ : Store} {K K' : AV → Store → Prop} (h : PCall P f args σ K) (hk : ∀ r s, K r s → K' r s) : PCall P f args σ K' :=
  ⟨h.1, fun g w vs hl hr hc => (h.2 g w vs hl hr hc).mono fun _ _ ⟨v, he, g', r, σ', h1, h2, h3, h4⟩ => ⟨v, he, g', r, σ', h1, h2, h3, hk _ _ h4⟩⟩

def envOf : Nat → List AV → Env
  | _, [] => []
  | i, x :: r => (i, x) :: envOf (i + 1) r

theorem envOf_get : ∀ (l : List AV) (j i : Nat), (envOf j l).get i = if j ≤ i then l.getD (i - j) .any else .any
  | [], j, i => by simp [envOf, Env.get]
  | x :: r, j, i => by
    simp only [envOf, Env.get, envOf_get r (j + 1) i]
    by_cases h : i = j
    · subst h; simp
    · rw [if_neg h]
      by_cases h2 : j ≤ i
      · rw [if_pos h2, if_pos (by omega)]
        obtain ⟨d, rfl⟩ : ∃ d, i = j + 1 + d := ⟨i - (j + 1), by omega⟩
        rw [show j + 1 + d - (j + 1) = d by omega, show j + 1 + d - j = d + 1 by omega]
        rfl
      · rw [if_neg h2, if_neg (by omega)]

theorem R_tup2 {g : Gh} {a b : AV} {u v : Value} (h1 : R g a u) (h2 : R g b v) : R g (.tup [a, b]) (.tuple #[u, v]) :=
  .tup rfl fun i c x hc hx => by
    match i with
    | 0 => simp at hc hx; subst hc; subst hx; exact h1
    | 1 => simp at hc hx; subst hc; subst hx; exact h2
    | i + 2 => simp at hc

theorem RE_envOf {g : Gh} {n : Nat} {args : List AV} {vs : Array Value} (hsz : args.length ≤ n) (hl : args.length = vs.size) (hr : ∀ (i : Nat) (x : AV) (v : Value), args[i]? = some x → vs[i]? = some v → R g x v) :
    RE g n (envOf 0 args) (vs ++ Array.replicate (n - vs.size) undef) := by
  refine ⟨by simp; omega, fun i => ?_⟩
  rw [envOf_get, if_pos (Nat.zero_le _), Nat.sub_zero, Array.getD_eq_getD_getElem?, Array.getElem?_append]
  by_cases hi : i < vs.size
  · rw [if_pos hi]
    have h2 : args[i]? = some (args.getD i .any) := by simp [List.getD_eq_getElem?_getD, List.getElem?_eq_getElem (show i < args.length by omega)]
    exact hr i _ _ h2 (by simp [Array.getElem?_eq_getElem hi])
  · have : args.getD i .any = .any := by simp [List.getD_eq_getElem?_getD, List.getElem?_eq_none (show args.length ≤ i by omega)]
    rw [this]
    exact .any _
end Go.Kern
