/- The abstract layer, thirteenth part: regions in the order of the text. Conditions: none. -/
import Derived.Test.YtaealcimocpnnaaGreatKnL
set_option linter.unusedVariables false
set_option linter.unusedSimpArgs false
namespace Go.Kern
open Go.RowKit

def guardP (ops : Array Oper) (ρ : Env) (o : Oper) (k : Bool → Prop) : Prop :=
  match o.guard with
  | none => k true
  | some (j, want) => (match (ops[j]?).bind (·.dst) with
    | some t => (match ρ.get t with
      | .bool b => k (b == want)
      | .tup _ => k false
      | _ => False)
    | none => k false)

theorem guard_sound {ops : Array Oper} {ρ : Env} {o : Oper} {k : Bool → Prop} (h : guardP ops ρ o k) {g : Gh} {n : Nat} {t : Array Value} (he : ∀ j want, o.guard = some (j, want) → ∀ s, (ops[j]?).bind (·.dst) = some s → R g (ρ.get s) (t.getD s undef)) :
    k (Region.wanted o (yielded ops t)) := by
  unfold guardP at h
  unfold Region.wanted
  cases hg : o.guard with
  | none => rw [hg] at h; exact h
  | some jw =>
    obtain ⟨j, want⟩ := jw
    rw [hg] at h
    simp only at h ⊢
    cases hd : (ops[j]?).bind (·.dst) with
    | none => rw [hd] at h; simp only [yielded, hd, Option.bind_none]; exact h
    | some s =>
      have hr := he j want hg s hd
      rw [hd] at h
      simp only at h
      have hgd : t.getD s undef = (t[s]?).getD undef := Array.getD_eq_getD_getElem? ..
      rw [hgd] at hr
      split at h
      · rename_i b hb
        rw [hb] at hr
        cases hts : t[s]? with
        | none => rw [hts] at hr; simp only [Option.getD_none] at hr; cases hr
        | some v =>
          rw [hts] at hr
          simp only [Option.getD_some] at hr
          cases hr
          simp only [yielded, hd, Option.bind_some, hts]
          have : ((some b : Option Bool) == some want) = (b == want) := by cases b <;> cases want <;> rfl
          rw [this]; exact h
      · rename_i l hb
        rw [hb] at hr
        cases hts : t[s]? with
        | none => simp only [yielded, hd, Option.bind_some, hts]; exact h
        | some v =>
          rw [hts] at hr
          simp only [Option.getD_some] at hr
          cases hr
          simp only [yielded, hd, Option.bind_some, hts]; exact h
      · exact h.elim

def prun (P : Program) (n : Nat) (mu : List Nat) (ops : Array Oper) : List Oper → Env → Store → (Env → Store → Prop) → Prop
  | [], ρ, σ, K => K ρ σ
  | o :: r, ρ, σ, K => dstOk n o.dst = true ∧ (match o.guard with
    | none => OpSem P mu o ρ σ (fun v σ' => prun P n mu ops r (ρ.putO o.dst v) σ' K)
    | some _ => guardP ops ρ o fun b => if b = true then Hold (OpSem P mu o ρ σ (fun v σ' => prun P n mu ops r (ρ.putO o.dst v) σ' K)) .mk else Hold (prun P n mu ops r (ρ.putO o.dst (.tup [])) σ K) .mk)

theorem prun_nil {P : Program} {n : Nat} {mu : List Nat} {ops : Array Oper} {ρ : Env} {σ : Store} {K : Env → Store → Prop} : prun P n mu ops [] ρ σ K = K ρ σ := propext Iff.rfl
theorem prun_cons {P : Program} {n : Nat} {mu : List Nat} {ops : Array Oper} {o : Oper} {r : List Oper} {ρ : Env} {σ : Store} {K : Env → Store → Prop} : prun P n mu ops (o :: r) ρ σ K = (dstOk n o.dst = true ∧ (match o.guard with
    | none => OpSem P mu o ρ σ (fun v σ' => prun P n mu ops r (ρ.putO o.dst v) σ' K)
    | some _ => guardP ops ρ o fun b => if b = true then Hold (OpSem P mu o ρ σ (fun v σ' => prun P n mu ops r (ρ.putO o.dst v) σ' K)) .mk else Hold (prun P n mu ops r (ρ.putO o.dst (.tup [])) σ K) .mk)) := propext Iff.rfl

theorem prun_sound {P : Program} {n : Nat} {mu : List Nat} {ops : Array Oper} {Q : Post} : ∀ (l : List Oper) (ρ : Env) (σ : Store), prun P n mu ops l ρ σ (fun ρ' σ' => Q .normal ρ' σ') →
    ∀ (g0 g : Gh) (a : Act) (w : World), g0.Le g → a.defers = [] → RE g n ρ a.tmps → Conc g w σ → wpList P ops (Lift g0 n Q) l a w
  | [], ρ, σ, h, g0, g, a, w, hle, hd, he, hc => wpList_nil ⟨hd, g, ρ, σ, hle, he, hc, h⟩
  | o :: r, ρ, σ, h, g0, g, a, w, hle, hd, he, hc => by
    obtain ⟨hdst, h⟩ := h
    have h : guardP ops ρ o fun b => if b = true then OpSem P mu o ρ σ (fun v σ' => prun P n mu ops r (ρ.putO o.dst v) σ' (fun ρ' σ' => Q .normal ρ' σ')) else prun P n mu ops r (ρ.putO o.dst (.tup [])) σ (fun ρ' σ' => Q .normal ρ' σ') := by
      split at h
      · rename_i hn
        unfold guardP
        rw [hn]
        exact h
      · exact h
    have hg := guard_sound h (g := g) (n := n) (t := a.tmps) (fun _ _ _ s _ => he.get s)
    refine wpList_step fun K hK => ?_
    split
    · rename_i hw
      rw [if_pos hw] at hg
      refine (OpSem_sound hg he hc).wp ?_
      rintro v w' ⟨g', x, σ', h1, h2, h3, h4⟩
      refine hK _ _ (prun_sound r _ σ' h4 g0 g' _ w' (hle.trans h1) ?_ ((he.le h1).put hdst h3) h2)
      cases hdo : o.dst <;> simp [Act.put, hd]
    · rename_i hw
      rw [if_neg hw] at hg
      refine hK _ _ (prun_sound r _ σ hg g0 g _ w hle ?_ (he.put hdst (R_undef g)) hc)
      cases hdo : o.dst <;> simp [Act.put, hd]

theorem W_region {P : Program} {n : Nat} {mu : List Nat} {id : Nat} {ops : Array Oper} {Q : Post} {ρ : Env} {σ : Store} (h : prun P n mu ops ops.toList ρ σ (Hold (fun ρ' σ' => Q .normal ρ' σ') .mk)) : W P n (.region id ops false) Q ρ σ :=
  fun g a w hd he hc => wp_region_list (prun_sound ops.toList ρ σ h g g a w (.refl g) hd he hc)

/-! ### A function's body -/
def readR (P : Program) (ρ : Env) (σ : Store) (r : ResultVar) (k : AV → Prop) : Prop :=
  match r with
  | .tmp t => k (ρ.get t)
  | .cell a t => behind σ (ρ.get a) fun cs off => loadA (tyOf P t) cs off k
def readRs (P : Program) (ρ : Env) (σ : Store) : List ResultVar → (List AV → Prop) → Prop
  | [], k => k []
  | r :: l, k => readR P ρ σ r fun x => readRs P ρ σ l fun xs => k (x :: xs)
theorem readRs_nil {P : Program} {ρ : Env} {σ : Store} {k : List AV → Prop} : readRs P ρ σ [] k = k [] := propext Iff.rfl
theorem readRs_cons {P : Program} {ρ : Env} {σ : Store} {r : ResultVar} {l : List ResultVar} {k : List AV → Prop} : readRs P ρ σ (r :: l) k = readR P ρ σ r fun x => readRs P ρ σ l fun xs => k (x :: xs) := propext Iff.rfl
def oneRes (vs : List AV) : AV :=
  match vs with
  | [x] => x
  | l => .tup l
def fnPostL (P : Program) (rl : List ResultVar) (K : KK) : Post
  | .normal, ρ, σ => readRs P ρ σ rl fun vs => K (oneRes vs) σ
  | .ret, ρ, σ => readRs P ρ σ rl fun vs => K (oneRes vs) σ
  | _, _, _ => False

def oneR (tmps : Array Value) : ResultVar → Sem Value
  | .tmp t => pure (tmps.getD t undef)
  | .cell a t => do loadVar t (← asAddr (tmps.getD a undef))
theorem results_eq (fn : Func) (tmps : Array Value) : results fn tmps = (do let vs ← fn.results.mapM (oneR tmps); pure (if h : vs.size = 1 then vs[0] else .tuple vs)) := by
  unfold results
  congr 1

theorem run_oneR {P : Program} {g : Gh} {n : Nat} {ρ : Env} {t : Array Value} {w : World} {σ : Store} (he : RE g n ρ t) (hc : Conc g w σ) {r : ResultVar} {k : AV → Prop} (h : readR P ρ σ r k) :
    ∃ v x, (oneR t r).run P w = .ok v w ∧ R g x v ∧ k x := by
  cases r with
  | tmp i => exact ⟨_, _, rfl, he.get i, h⟩
  | cell a ty =>
    have h' : behind σ (ρ.get a) fun cs off => loadA (tyOf P ty) cs off k := h
    obtain ⟨ad, cs, off, hv, hl, hk⟩ := (he.get a).behind hc h'
    obtain ⟨u, x, hrun, h1, h2⟩ := hl.load hk
    exact ⟨u, x, by simp [oneR, hv, asAddr, hrun], h1, h2⟩

theorem run_oneRs {P : Program} {g : Gh} {n : Nat} {ρ : Env} {t : Array Value} {w : World} {σ : Store} (he : RE g n ρ t) (hc : Conc g w σ) : ∀ (l : List ResultVar) {k : List AV → Prop}, readRs P ρ σ l k →
    ∃ vs xs, (l.mapM (oneR t)).run P w = .ok vs w ∧ xs.length = vs.length ∧ (∀ (i : Nat) (x : AV) (v : Value), xs[i]? = some x → vs[i]? = some v → R g x v) ∧ k xs
  | [], k, h => ⟨[], [], rfl, rfl, fun i x v hx => by simp at hx, h⟩
  | r :: l, k, h => by
    obtain ⟨v, x, hr, hx, h2⟩ := run_oneR he hc h
    obtain ⟨vs, xs, hrs, hl, hxs, hk⟩ := run_oneRs he hc l h2
    refine ⟨v :: vs, x :: xs, ?_, by simp [hl], fun i y u hy hu => ?_, hk⟩
    · rw [List.mapM_cons]; simp [hr, hrs]
    · cases i with
      | zero => simp at hy hu; subst hy; subst hu; exact hx
      | succ i => exact hxs i y u (by simpa using hy) (by simpa using hu)

theorem run_resultsL {P : Program} {fn : Func} {g : Gh} {n : Nat} {ρ : Env} {t : Array Value} {w : World} {σ : Store} (he : RE g n ρ t) (hc : Conc g w σ) {K : AV → Prop} (h : readRs P ρ σ fn.results.toList fun vs => K (oneRes vs)) :
    ∃ v x, (results fn t).run P w = .ok v w ∧ R g x v ∧ K x := by
  obtain ⟨vs, xs, hr, hl, hx, hk⟩ := run_oneRs he hc _ h
  refine ⟨if h : vs.toArray.size = 1 then vs.toArray[0] else .tuple vs.toArray, oneRes xs, ?_, ?_, hk⟩
  · rw [results_eq, Array.mapM_eq_mapM_toList]
    simp [hr]
  · match xs, vs, hl with
    | [x], [v], _ => simpa [oneRes] using hx 0 x v rfl rfl
    | [], [], _ => exact .tup rfl fun i c v hc => by simp at hc
    | a :: b :: l, c :: d :: m, hl =>
      rw [dif_neg (by simp)]
      exact .tup (by simpa using hl) fun i x v h1 h2 => hx i x v h1 (by simpa using h2)

theorem PCall_of_body {P : Program} {f : FuncId} {fn : Func} {c : Code} (rl : List ResultVar) (nt : Nat) (hf : P.funcs[f]? = some fn) (hn : (fn.name == "runtime.NumGoroutine") = false) (hb : fn.body = some c) (hr : fn.results.toList = rl) (hnt : fn.ntmps = nt)
    {args : List AV} {σ : Store} {K : KK} (hsz : decide (args.length ≤ nt) = true) (h : W P nt c (fnPostL P rl K) (envOf 0 args) σ) : PCall P f args σ K := by
  subst hr
  subst hnt
  have hsz' := of_decide_eq_true hsz
  refine ⟨⟨fn, hf, hn, by rw [hb]; rfl⟩, fun g w vs hl hr hc => ?_⟩
  refine calls_of_wp hf hb ?_
  refine wp_mono (h g { tmps := vs ++ Array.replicate (fn.ntmps - vs.size) undef, defers := [] } w rfl (RE_envOf hsz' hl hr) hc) ?_
  rintro e a' w' ⟨hd', g', ρ', σ', hle, he', hc', hq⟩
  cases e with
  | normal =>
    have hq2 : readRs P ρ' σ' fn.results.toList fun vs => K (oneRes vs) σ' := hq
    obtain ⟨v, x, hv, hrv, hk⟩ := run_resultsL (K := fun r => K r σ') he' hc' hq2; exact ⟨hd', v, hv, v, rfl, g', _, σ', hle, hc', hrv, hk⟩
  | ret =>
    have hq2 : readRs P ρ' σ' fn.results.toList fun vs => K (oneRes vs) σ' := hq
    obtain ⟨v, x, hv, hrv, hk⟩ := run_resultsL (K := fun r => K r σ') he' hc' hq2; exact ⟨hd', v, hv, v, rfl, g', _, σ', hle, hc', hrv, hk⟩
  | exit id' => exact hq.elim
  | goto l => exact hq.elim
  | panic ch => exact hq.elim
  | outgrown => exact hq.elim
end Go.Kern
