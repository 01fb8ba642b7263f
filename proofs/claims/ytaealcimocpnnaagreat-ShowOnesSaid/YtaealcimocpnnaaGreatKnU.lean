/- The abstract layer, twentieth part: the rules of the walk, under short names. Conditions: none. -/
import Derived.Test.YtaealcimocpnnaaGreatKnS
set_option linter.unusedVariables false
set_option linter.unusedSimpArgs false
namespace Go.Kern
open Go.RowKit

/-! Rules that ask for a bound. -/
theorem dltT {a b : Int} (h : a < b) : decide (a < b) = true := decide_eq_true h
theorem dltF {a b : Int} (h : b ≤ a) : decide (a < b) = false := decide_eq_false (by omega)
theorem dleT {a b : Int} (h : a ≤ b) : decide (a ≤ b) = true := decide_eq_true h
theorem dleF {a b : Int} (h : b < a) : decide (a ≤ b) = false := decide_eq_false (by omega)
theorem deqT {a b : Int} (h : a = b) : decide (a = b) = true := decide_eq_true h
theorem deqF {a b : Int} (h : a ≠ b) : decide (a = b) = false := decide_eq_false h
theorem pltT {a b : Int} (h : a < b) : (a < b) = True := eq_true h
theorem pleT {a b : Int} (h : a ≤ b) : (a ≤ b) = True := eq_true h
theorem nltT {a b : Nat} (h : a < b) : (a < b) = True := eq_true h
theorem nleT {a b : Nat} (h : a ≤ b) : (a ≤ b) = True := eq_true h
theorem wrI {x : Int} (h1 : -9223372036854775808 ≤ x) (h2 : x ≤ 9223372036854775807) : IntKind.i64.wrap x = x := wrap64_id h1 h2

/-! The steps. -/
section
variable {P : Program} {n : Nat} {Q : Post} {ρ : Env} {σ : Store} {K : Env → Store → Prop} {id id' : Nat}
theorem wt {c : Operand} {x y : Code} (hb : ev ρ c = .bool true) (h : W P n x Q ρ σ) : W P n (.cond c x y) Q ρ σ := W_cond hb (fun _ => h) (fun e => by cases e)
theorem wf {c : Operand} {x y : Code} (hb : ev ρ c = .bool false) (h : W P n y Q ρ σ) : W P n (.cond c x y) Q ρ σ := W_cond hb (fun e => by cases e) (fun _ => h)
theorem wc {c : Operand} {x y : Code} {b : Bool} (hb : ev ρ c = .bool b) (ht : b = true → W P n x Q ρ σ) (hf : b = false → W P n y Q ρ σ) : W P n (.cond c x y) Q ρ σ := W_cond hb ht hf
theorem s1 {x y : Code} (h : W P n x (Post.then (W P n y Q) Q) ρ σ) : W P n (.seq x y) Q ρ σ := W_seq h
theorem s2 {c : Code} (h : W P n c (Post.inBlock id Q) ρ σ) : W P n (.block id c) Q ρ σ := W_block h
theorem s3 {mu : List Nat} {ops : Array Oper} (h : prun P n mu ops ops.toList ρ σ (Hold (fun ρ' σ' => Q .normal ρ' σ') .mk)) : W P n (.region id ops false) Q ρ σ := W_region h
theorem e1 (h : Q .ret ρ σ) : W P n .ret Q ρ σ := W_ret h
theorem e2 (h : Q .normal ρ σ) : W P n .skip Q ρ σ := W_skip h
theorem e3 (h : Q (.exit id) ρ σ) : W P n (.exit id) Q ρ σ := W_exit h
theorem e4 (h : K ρ σ) : Post.then K Q .normal ρ σ := h
theorem e5 (h : Q .ret ρ σ) : Post.then K Q .ret ρ σ := h
theorem e6 (h : Q (.exit id) ρ σ) : Post.then K Q (.exit id) ρ σ := h
theorem e7 (h : Q .normal ρ σ) : Post.inBlock id Q .normal ρ σ := h
theorem e8 (h : Q .ret ρ σ) : Post.inBlock id Q .ret ρ σ := h
theorem e9 (h : Q .normal ρ σ) : Post.inBlock id Q (.exit id) ρ σ := inBlock_exit h
theorem e0 (hne : (id' == id) = false) (h : Q (.exit id') ρ σ) : Post.inBlock id Q (.exit id') ρ σ := inBlock_ne (by simpa using hne) h
theorem ea {t : Tag K} (h : K ρ σ) : Hold K t ρ σ := h
theorem s5 {rl : List ResultVar} {K : KK} (h : readRs P ρ σ rl fun vs => K (oneRes vs) σ) : fnPostL P rl K .ret ρ σ := h
theorem s6 {rl : List ResultVar} {K : KK} (h : readRs P ρ σ rl fun vs => K (oneRes vs) σ) : fnPostL P rl K .normal ρ σ := h
theorem s7 {p : Prop} {t : Tag p} (h : p) : Hold p t := h
end
def c0 : Cl := ⟨[], [], [], [], [], [], 0⟩
theorem bt {b : Bool} {p : Prop} (h : b = true) (k : b = false) : p := by rw [h] at k; cases k
theorem gb {b : Bool} {A B : Prop} (h1 : b = true → A) (h2 : b = false → B) : ite (b = true) A B := ite_goB h1 h2
theorem gf {b : Bool} {A B : Prop} (h1 : b = false → A) (h2 : b = true → B) : ite (b = false) A B := by
  cases b
  · exact h1 rfl
  · exact h2 rfl
theorem gn {c : Prop} [Decidable (¬ c)] {A B : Prop} (h1 : ¬ c → A) (h2 : c → B) : ite (¬ c) A B := by
  by_cases h : c
  · rw [if_neg (fun k => k h)]; exact h2 h
  · rw [if_pos h]; exact h1 h
theorem gp {c : Prop} [Decidable c] {A B : Prop} (h1 : c → A) (h2 : ¬ c → B) : ite c A B := ite_go h1 h2
/-- A call that leaves the memory as it is. -/
def Pure (P : Program) (f : FuncId) (args : List AV) (v : AV) : Prop := ∀ s, PCall P f args s (fun r s' => r = v ∧ s' = s)
theorem cu {P : Program} {f : FuncId} {args : List AV} {σ : Store} {v : AV} {k : KK} {t : Tag k} (h : Pure P f args v) (hk : k v σ) : PCall P f args σ (Hold k t) :=
  (h σ).mono fun r s' ⟨h1, h2⟩ => by subst h1; subst h2; exact hk
theorem cv {P : Program} {f : FuncId} {args : List AV} {v : AV} {k : AV → Prop} (h : Pure P f args v) (hk : k v) : ∃ v, (∀ s, PCall P f args s (Hold (fun r s' => r = v ∧ s' = s) .mk)) ∧ k v := ⟨v, h, hk⟩
theorem cx {P : Program} {f : FuncId} {args : List AV} {v : AV} {k : AV → Prop} {σ : Store} (h : Pure P f args v) (hk : k v) : ∃ v, PCall P f args σ (Hold (fun r s' => r = v ∧ s' = σ) .mk) ∧ k v := ⟨v, h σ, hk⟩
/-- A call that writes. -/
theorem cy {P : Program} {f : FuncId} {args : List AV} {σ τ : Store} {v : AV} {k : KK} {t : Tag k} (h : PCall P f args σ (fun r s' => r = v ∧ s' = τ)) (hk : k v τ) : PCall P f args σ (Hold k t) :=
  h.mono fun r s' ⟨h1, h2⟩ => by subst h1; subst h2; exact hk
theorem cz {P : Program} {f : FuncId} {args : List AV} {σ τ : Store} {v : AV} {k : AV → Store → Prop} (h : PCall P f args σ (fun r s' => r = v ∧ s' = τ)) (hk : k v τ) : ∃ v τ, PCall P f args σ (Hold (fun r s' => r = v ∧ s' = τ) .mk) ∧ k v τ := ⟨v, τ, h, hk⟩
attribute [go_sem] Bool.not_eq_true' Bool.not_eq_false' decide_eq_false_iff_not Bool.not_not drun_nil drun_cons prun_nil prun_cons wrOk PutAt_self PutAt_put PutAt_same PutSome_self PutSome_put PutSome_same tqOk dstOk ev ofConst leafOf Env.putO Env.get envOf readRs_nil oneRes nilSide SK.isNil isMu fillA partsFit boundA SK.cut SK.cutFull SK.fresh rowOk rowsOk_nil rowsOk_cons rowsOk_append rowsOk_ints splice oneOf keyKind cellsKind cellKind cellsB cellB zeroFits TK.agg AV.cells AV.known AV.one xMu List.set_cons_zero List.set_cons_succ put_same put_put forall_const implies_true exists_eq_left exists_eq_left' exists_eq_right exists_eq Store.Sub.refl and_self Int.toNat_natCast length_ints List.length_map true_and and_true decide_true decide_false if_true if_false Bool.false_eq_true Bool.true_eq_false List.getElem?_cons_zero List.getElem?_cons_succ List.length_cons List.length_nil List.drop_zero List.drop_succ_cons List.take_succ_cons List.take_zero List.drop_nil List.take_nil List.append_nil List.map_cons List.map_nil List.cons_append List.nil_append beq_self_eq_true Bool.false_beq Bool.true_beq Bool.not_true Bool.not_false Option.map_some Option.map_none Option.bind_some ne_eq not_false_eq_true List.contains_cons List.contains_nil Bool.or_false Bool.or_true Bool.and_true Bool.and_false Bool.true_and Bool.false_and List.all_cons List.all_nil Nat.one_ne_zero Nat.zero_ne_one Option.isSome_some Option.isSome_none List.getElem?_toArray beq_true beq_false decide_eq_true_eq Int.toNat_zero forall_ints take_ints drop_ints Int.le_refl Int.natCast_nonneg Nat.zero_add Nat.add_zero or_true true_or false_or or_false unB_bytesA unB rowsOk_bytesA length_bytesA
attribute [go_sem ↓] allocN guardP OpSem callA readRs_cons readR binA intOpA strOpA nilOpA unA convA boxA allocA behind loadA buildA buildSliceA buildSliceM buildSliceN fieldAddrA fieldA indexAddrA indexA lenA sliceA extractA nilCheckA storeA lookupA mapSetA mapDelA makeSliceA appendA appendN apN appendS convX builtinX externA
def evPairs (ρ : Env) : List (Nat × Operand) → List (Nat × AV)
  | [] => []
  | (i, x) :: r => (i, ev ρ x) :: evPairs ρ r
theorem evPairs_map (ρ : Env) : ∀ l : List (Nat × Operand), List.map (fun p => (p.1, ev ρ p.2)) l = evPairs ρ l
  | [] => rfl
  | (i, x) :: r => by rw [List.map_cons, evPairs_map ρ r, evPairs]
theorem evPairs_arr (ρ : Env) (l : List (Nat × Operand)) : List.map (fun p => (p.1, ev ρ p.2)) l.toArray.toList = evPairs ρ l := evPairs_map ρ l
attribute [go_sem ↓] evPairs_arr evPairs_map
attribute [go_sem] evPairs
/-- Some pointer that isn't nil. -/
abbrev gpt : AV := .ip (.agg []) 0
theorem R.gpt {g : Gh} {o i off : Nat} {v : Value} (h : R g (.ptr o i off) v) : R g gpt v := by
  cases h with
  | ptr hb => exact .ip (base := _) (vs := fun _ => undef) rfl rfl (fun i hi => by simp [AV.cells] at hi) (fun i c hc => by simp [AV.cells] at hc)
theorem PCall_gp {P : Program} {f : FuncId} {args : List AV} {σ τ : Store} (h : PCall P f args σ (fun r t => ((∃ q, r = .ptr q 0 0) ∨ r = gpt) ∧ t = τ)) : PCall P f args σ (fun r t => r = gpt ∧ t = τ) := by
  refine ⟨h.1, fun g w vs hl hr hc => (h.2 g w vs hl hr hc).mono ?_⟩
  rintro e w' ⟨v, he, g', r, σ', h1, h2, h3, h4, h5⟩
  refine ⟨v, he, g', gpt, σ', h1, h2, ?_, rfl, h5⟩
  rcases h4 with ⟨q, rfl⟩ | rfl
  · exact h3.gpt
  · exact h3
theorem alloc_ne {σ : Store} {o c : Nat} {x : Ob} (h : (σ.put o x) c = none) : c ≠ o := fun e => by
  simp only [Store.put, e, if_true] at h; cases h
theorem put_swap {o c : Nat} (h : c ≠ o) (σ : Store) (x y : Ob) : (σ.put o x).put c y = (σ.put c y).put o x := put_comm (Ne.symm h) x y
theorem put_oth {o c : Nat} (h : c ≠ o) (σ : Store) (x : Ob) : (σ.put o x) c = σ c := by simp only [Store.put, if_neg h]
theorem Sub_new {σ : Store} {c : Nat} {y : Ob} (h : σ c = none) : σ.Sub (σ.put c y) := fun p z hz => by
  simp only [Store.put]
  split
  · rename_i e; rw [e, h] at hz; cases hz
  · exact hz
end Go.Kern
