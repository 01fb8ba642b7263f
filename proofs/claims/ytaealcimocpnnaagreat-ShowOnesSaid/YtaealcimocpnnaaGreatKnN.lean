/- The abstract layer, fourteenth part: regions in whatever order. Conditions: none. -/
import Derived.Test.YtaealcimocpnnaaGreatKnM
set_option linter.unusedVariables false
set_option linter.unusedSimpArgs false
set_option linter.unusedSectionVars false
namespace Go.Kern
open Go.RowKit

/-! ### What an operation reads -/
theorem ev_congr {ρ ρ' : Env} {o : Op} (h : ∀ x ∈ o.operands, ev ρ x = ev ρ' x) : (∀ x, Operand.tmp x ∈ o.operands → ρ.get x = ρ'.get x) → True := fun _ => trivial

theorem map_ev {ρ ρ' : Env} {l : List Operand} (h : ∀ x ∈ l, ev ρ x = ev ρ' x) : l.map (ev ρ) = l.map (ev ρ') := List.map_congr_left h

theorem OpSem_congr {P : Program} {mu : List Nat} {o : Oper} {ρ ρ' : Env} {σ : Store} {k : KK} (h : ∀ x ∈ o.op.operands, ev ρ x = ev ρ' x) (hk : OpSem P mu o ρ σ k) : OpSem P mu o ρ' σ k := by
  obtain ⟨dst, op, type, pos, after, guard⟩ := o
  have pairs : ∀ ps : List (Nat × Operand), (∀ p ∈ ps, ev ρ p.2 = ev ρ' p.2) → (ps.map fun p => (p.1, ev ρ p.2)) = (ps.map fun p => (p.1, ev ρ' p.2)) := fun ps hp => List.map_congr_left fun p hm => by rw [hp p hm]
  cases op <;> simp only [Op.operands] at h <;> simp only [OpSem] at hk ⊢
  case build t ps => rw [← pairs ps.toList fun p hp => h p.2 (by simp; exact ⟨p.1, by simpa using hp⟩)]; exact hk
  case buildSlice t n ps => rw [← pairs ps.toList fun p hp => h p.2 (by simp; exact ⟨p.1, by simpa using hp⟩)]; exact hk
  case makeFunc fn first caps => rw [← map_ev (l := caps.toList) fun x hx => h x (by simp; right; simpa using hx)]; exact hk
  case slice t x lo hi mx =>
    have hx := h x (by simp)
    rw [← hx]
    have h1 : lo.map (ev ρ') = lo.map (ev ρ) := by cases lo <;> simp; exact (h _ (by simp)).symm
    have h2 : hi.map (ev ρ') = hi.map (ev ρ) := by cases hi <;> simp; exact (h _ (by simp)).symm
    have h3 : mx.map (ev ρ') = mx.map (ev ρ) := by cases mx <;> simp; exact (h _ (by simp)).symm
    rw [h1, h2, h3]; exact hk
  case call c =>
    obtain ⟨callee, args, tys⟩ := c
    simp only [Call.operands] at h
    split at hk
    · rename_i q
      rw [if_pos q]
      unfold externA at hk ⊢
      simp only at hk ⊢
      split at hk
      · rename_i f x e1
        have hf := h f (by simp)
        have hx := h x (by simp; right; rw [← Array.mem_toList_iff, e1]; simp)
        rw [← hf, ← hx]; exact hk
      · exact hk.elim
    rename_i q
    rw [if_neg q]
    unfold callA at hk ⊢
    simp only at hk ⊢
    cases callee with
    | value f =>
      have hf := h f (by simp)
      have ha := map_ev (ρ := ρ) (ρ' := ρ') (l := args.toList) fun x hx => h x (by simp; right; simpa using hx)
      simp only at hk ⊢
      rw [← hf, ← ha]; exact hk
    | invoke r m => exact hk
    | builtin b =>
      have hx : ∀ x ∈ args.toList, ev ρ x = ev ρ' x := fun x hx => h x (by simp; simpa using hx)
      have hmap := map_ev (ρ := ρ) (ρ' := ρ') (l := args.toList) hx
      simp only at hk ⊢
      split at hk
      · rename_i x t e1 e2
        rw [e1] at hx
        rw [← hx x (by simp)]; exact hk
      · rename_i x y t u e1 e2
        rw [e1] at hx
        rw [← hx x (by simp), ← hx y (by simp)]; exact hk
      · rename_i x y t u e1 e2
        rw [e1] at hx
        rw [← hx x (by simp), ← hx y (by simp)]; exact hk
      · rw [← hmap]; exact hk
  all_goals (first | exact hk | (simp only [List.mem_toArray, List.mem_cons, List.not_mem_nil, or_false, forall_eq_or_imp, forall_eq] at h; simp only [← h]; exact hk) | (simp at h; simp only [← h]; exact hk))

/-! ### The static look at a region -/
def edgesOf (ops : Array Oper) (i : Nat) : List Nat := ((ops[i]?).map fun o => (o.after.toList.filter (Region.binds .any)).map (·.on)).getD []
def ancOk (ops : Array Oper) (A : List (List Nat)) : Bool :=
  (List.range ops.size).all fun i => (edgesOf ops i).all (fun e => decide (e < i)) && (A.getD i []).all fun j => (edgesOf ops i).any fun e => decide (j = e) || (A.getD e []).contains j
def mkAnc (ops : Array Oper) : List (List Nat) :=
  (List.range ops.size).foldl (fun acc i => acc ++ [((edgesOf ops i).flatMap fun e => e :: acc.getD e []).eraseDups]) []
/-- Which operations: tq look at mutable memory, wr write it, al make a named object; all others do neither. -/
structure Cl where
  tq : List Nat
  wr : List Nat
  al : List Nat
  /-- of those that write: appends, with a name for what is new -/
  ap : List Nat
  /-- of those that write: the last one, which all others come ahead of -/
  fin : List Nat
  /-- of those that write: late stores, which may come ahead of reads that the text has ahead of them -/
  lt : List Nat
  /-- the object that late stores write -/
  lo : Nat
def Cl.look (c : Cl) (i : Nat) : Bool := c.tq.contains i || c.wr.contains i
def Cl.any (c : Cl) (i : Nat) : Bool := c.tq.contains i || c.wr.contains i || c.al.contains i
def Cl.clash (c : Cl) (i j : Nat) : Bool := (c.wr.contains i && (c.wr.contains j || c.al.contains j || (c.tq.contains j && !c.lt.contains i))) || (c.wr.contains j && (c.wr.contains i || c.al.contains i || (c.tq.contains i && !c.lt.contains j))) || (c.al.contains i && c.tq.contains j) || (c.al.contains j && c.tq.contains i)
def pairOk (c : Cl) (ops : Array Oper) (A : List (List Nat)) : Bool :=
  (List.range ops.size).all fun j => (List.range j).all fun i => (A.getD j []).contains i || (match ops[i]?, ops[j]? with
    | some a, some b => a.apart ops b && !c.clash i j
    | _, _ => true)
/-- What a write leaves: at one object something else. -/
def PutAt (q : Nat) (s t : Store) : Prop := t = s ∨ ∃ ob, t = s.put q ob
theorem PutAt_self {q : Nat} {s : Store} {x : Ob} : PutAt q s (s.put q x) = True := eq_true (.inr ⟨x, rfl⟩)
theorem PutAt_put {q : Nat} {s : Store} {x y : Ob} : PutAt q (s.put q x) (s.put q y) = True := eq_true (.inr ⟨y, by
  funext p
  simp only [Store.put]
  split <;> rfl⟩)
theorem PutAt_same {q : Nat} {s : Store} : PutAt q s s = True := eq_true (.inl rfl)
def PutSome (s t : Store) : Prop := ∃ q, PutAt q s t
theorem PutSome_self {q : Nat} {s : Store} {x : Ob} : PutSome s (s.put q x) = True := eq_true ⟨q, .inr ⟨x, rfl⟩⟩
theorem PutSome_put {q : Nat} {s : Store} {x y : Ob} : PutSome (s.put q x) (s.put q y) = True := eq_true ⟨q, by rw [PutAt_put]; trivial⟩
theorem PutSome_same {s : Store} : PutSome s s = True := eq_true ⟨0, .inl rfl⟩
def wrOk (lt : List Nat) (lo i : Nat) (σ σ' : Store) : Prop :=
  match lt with
  | [] => True
  | _ :: _ => if lt.contains i = true then PutAt lo σ σ' else PutSome σ σ'
def tqOk (P : Program) (mu : List Nat) (lt : List Nat) (lo : Nat) (o : Oper) (ρ : Env) (σ : Store) (v : AV) : Prop :=
  match lt with
  | [] => True
  | _ :: _ => ∀ x, OpSem P mu o ρ (σ.put lo x) (fun v' s' => v' = v ∧ s' = σ.put lo x)
def regOkL (c : Cl) (ops : Array Oper) : Bool :=
  ancOk ops (mkAnc ops) && pairOk c ops (mkAnc ops) && (c.al.all fun i => !c.wr.contains i && !c.tq.contains i && (match ops[i]? with | some o => o.guard.isNone | none => false)) &&
    (c.ap.all fun i => c.wr.contains i && !c.al.contains i && (match ops[i]? with | some o => o.guard.isNone | none => false)) &&
    (c.fin.all fun i => decide (i + 1 = ops.size) && c.wr.contains i && !c.al.contains i && !c.ap.contains i && ((List.range i).all fun j => ((mkAnc ops).getD i []).contains j) && (match ops[i]? with | some o => o.guard.isNone | none => false))

def regOk (c : Cl) (ops : Array Oper) : Bool := c.lt.isEmpty && regOkL c ops
def regOkLate (c : Cl) (ops : Array Oper) : Bool := !c.lt.isEmpty && c.al.isEmpty && c.fin.isEmpty && (c.wr.all fun i => !c.tq.contains i) && (c.lt.all fun i => c.wr.contains i) && regOkL c ops

/-- A named new object. -/
def allocN (P : Program) (o : Oper) (nu : Nat) (k : AV → Ob → Prop) : Prop :=
  match o.op with
  | .alloc t => (tyOf P t).ok = true ∧ (match (tyOf P t).zero with
    | some z => z.known = true ∧ k (.ptr nu 0 0) (.arr t [z])
    | none => False)
  | _ => False

def drun (P : Program) (n : Nat) (mu : List Nat) (c : Cl) (nu : Nat → Nat) (ops : Array Oper) : List Oper → Nat → Env → Store → (Env → Store → Prop) → Prop
  | [], _, ρ, σ, K => K ρ σ
  | o :: r, i, ρ, σ, K => dstOk n o.dst = true ∧
    (if c.al.contains i = true then allocN P o (nu i) fun v z => Hold (drun P n mu c nu ops r (i + 1) (ρ.putO o.dst v) (σ.put (nu i) z) K) .mk
    else if c.ap.contains i = true then apN P mu o ρ σ (nu i) fun v s' => wrOk c.lt c.lo i σ s' ∧ Hold (drun P n mu c nu ops r (i + 1) (ρ.putO o.dst v) s' K) .mk
    else if c.fin.contains i = true then OpSem P mu o ρ σ fun v s' => Hold (drun P n mu c nu ops r (i + 1) (ρ.putO o.dst v) s' K) .mk
    else guardP ops ρ o fun b => if b = true then
      (if c.wr.contains i = true then ∃ v σ', OpSem P mu o ρ σ (fun v' s' => v' = v ∧ s' = σ') ∧ wrOk c.lt c.lo i σ σ' ∧ Hold (drun P n mu c nu ops r (i + 1) (ρ.putO o.dst v) σ' K) .mk
        else if c.tq.contains i = true then ∃ v, OpSem P mu o ρ σ (fun v' s' => v' = v ∧ s' = σ) ∧ tqOk P mu c.lt c.lo o ρ σ v ∧ Hold (drun P n mu c nu ops r (i + 1) (ρ.putO o.dst v) σ K) .mk
        else ∃ v, (∀ s : Store, OpSem P mu o ρ s (fun v' s' => v' = v ∧ s' = s)) ∧ Hold (drun P n mu c nu ops r (i + 1) (ρ.putO o.dst v) σ K) .mk)
    else Hold (drun P n mu c nu ops r (i + 1) (ρ.putO o.dst (.tup [])) σ K) .mk)

section
variable {P : Program} {n : Nat} {mu : List Nat} {c : Cl} {nu : Nat → Nat} {ops : Array Oper} {o : Oper} {r : List Oper} {i : Nat} {ρ : Env} {σ : Store} {K : Env → Store → Prop}
theorem drun_nil : drun P n mu c nu ops [] i ρ σ K = K ρ σ := propext Iff.rfl
theorem drun_cons : drun P n mu c nu ops (o :: r) i ρ σ K = (dstOk n o.dst = true ∧
    (if c.al.contains i = true then allocN P o (nu i) fun v z => Hold (drun P n mu c nu ops r (i + 1) (ρ.putO o.dst v) (σ.put (nu i) z) K) .mk
    else if c.ap.contains i = true then apN P mu o ρ σ (nu i) fun v s' => wrOk c.lt c.lo i σ s' ∧ Hold (drun P n mu c nu ops r (i + 1) (ρ.putO o.dst v) s' K) .mk
    else if c.fin.contains i = true then OpSem P mu o ρ σ fun v s' => Hold (drun P n mu c nu ops r (i + 1) (ρ.putO o.dst v) s' K) .mk
    else guardP ops ρ o fun b => if b = true then
      (if c.wr.contains i = true then ∃ v σ', OpSem P mu o ρ σ (fun v' s' => v' = v ∧ s' = σ') ∧ wrOk c.lt c.lo i σ σ' ∧ Hold (drun P n mu c nu ops r (i + 1) (ρ.putO o.dst v) σ' K) .mk
        else if c.tq.contains i = true then ∃ v, OpSem P mu o ρ σ (fun v' s' => v' = v ∧ s' = σ) ∧ tqOk P mu c.lt c.lo o ρ σ v ∧ Hold (drun P n mu c nu ops r (i + 1) (ρ.putO o.dst v) σ K) .mk
        else ∃ v, (∀ s : Store, OpSem P mu o ρ s (fun v' s' => v' = v ∧ s' = s)) ∧ Hold (drun P n mu c nu ops r (i + 1) (ρ.putO o.dst v) σ K) .mk)
    else Hold (drun P n mu c nu ops r (i + 1) (ρ.putO o.dst (.tup [])) σ K) .mk)) := propext Iff.rfl
end

structure TStep (P : Program) (n : Nat) (mu : List Nat) (c : Cl) (nu : Nat → Nat) (ops : Array Oper) (i : Nat) (o : Oper) (ρ ρ' : Env) (σ σ' : Store) (v : AV) (z : Ob) : Prop where
  env : ρ' = ρ.putO o.dst v
  dst : dstOk n o.dst = true
  al : c.al.contains i = true → allocN P o (nu i) (fun v' z' => v' = v ∧ z' = z) ∧ σ' = σ.put (nu i) z ∧ v = .ptr (nu i) 0 0
  apn : c.ap.contains i = true → c.al.contains i = false → apN P mu o ρ σ (nu i) (fun v' s' => v' = v ∧ s' = σ')
  run : c.al.contains i = false → c.ap.contains i = false → c.fin.contains i = false → ∃ b, guardP ops ρ o (fun c => c = b) ∧ (b = true → OpSem P mu o ρ σ (fun v' s' => v' = v ∧ s' = σ')) ∧ (b = false → v = .tup [] ∧ σ' = σ) ∧
    (b = true → c.wr.contains i = false → c.tq.contains i = false → ∀ s : Store, OpSem P mu o ρ s (fun v' s' => v' = v ∧ s' = s))
  keep : c.al.contains i = false → c.ap.contains i = false → c.wr.contains i = false → σ' = σ
  late : c.lt.isEmpty = false → c.al.contains i = false → c.fin.contains i = false → c.wr.contains i = true → ∃ q, PutAt q σ σ' ∧ (c.lt.contains i = true → q = c.lo)
  rob : c.lt.isEmpty = false → c.al.contains i = false → c.ap.contains i = false → c.fin.contains i = false → c.wr.contains i = false → c.tq.contains i = true → guardP ops ρ o (fun c => c = true) → ∀ x, OpSem P mu o ρ (σ.put c.lo x) (fun v' s' => v' = v ∧ s' = σ.put c.lo x)

theorem guardP_ex {ops : Array Oper} {ρ : Env} {o : Oper} {k : Bool → Prop} (h : guardP ops ρ o k) : ∃ b, guardP ops ρ o (fun c => c = b) ∧ k b := by
  unfold guardP at h ⊢
  cases hg : o.guard with
  | none => rw [hg] at h; exact ⟨true, rfl, h⟩
  | some jw =>
    obtain ⟨j, want⟩ := jw
    rw [hg] at h
    simp only at h ⊢
    cases hd : (ops[j]?).bind (·.dst) with
    | none => rw [hd] at h; exact ⟨false, rfl, h⟩
    | some s =>
      rw [hd] at h
      simp only at h ⊢
      split at h
      · exact ⟨_, rfl, h⟩
      · exact ⟨_, rfl, h⟩
      · exact h.elim

theorem allocN_ex {P : Program} {o : Oper} {nu : Nat} {k : AV → Ob → Prop} (h : allocN P o nu k) : ∃ z, allocN P o nu (fun v' z' => v' = .ptr nu 0 0 ∧ z' = z) ∧ k (.ptr nu 0 0) z := by
  unfold allocN at h ⊢
  split at h
  · obtain ⟨h1, h2⟩ := h
    split at h2
    · rename_i z hz
      exact ⟨_, ⟨h1, h2.1, rfl, rfl⟩, h2.2⟩
    · exact h2.elim
  · exact h.elim

theorem appendN_ex {P : Program} {T : Ty} {mu : Bool} {σ : Store} {x y : AV} {nu : Nat} {k : KK} (h : appendN P T mu σ x y nu k) : ∃ v σ', appendN P T mu σ x y nu (fun v' s' => v' = v ∧ s' = σ') ∧ k v σ' := by
  unfold appendN at h ⊢
  obtain ⟨h1, h2, h3, h4, h⟩ := h
  split at h
  · obtain ⟨h5, h⟩ := h
    split at h
    · obtain ⟨h6, h7, h8, h9, h⟩ := h
      split at h
      · rename_i rows hr
        obtain ⟨h10, h11, h⟩ := h
        split at h
        · rename_i q; exact ⟨_, _, ⟨h1, h2, h3, h4, h5, h6, h7, h8, h9, h10, h11, by rw [if_pos q]; exact ⟨rfl, rfl⟩⟩, h⟩
        · rename_i q; exact ⟨_, _, ⟨h1, h2, h3, h4, h5, h6, h7, h8, h9, h10, h11, by rw [if_neg q]; exact ⟨rfl, rfl⟩⟩, h⟩
      · exact h.elim
    · obtain ⟨h6, h7, h8, h⟩ := h
      split at h
      · rename_i q; exact ⟨_, _, ⟨h1, h2, h3, h4, h5, h6, h7, h8, by rw [if_pos q]; exact ⟨rfl, rfl⟩⟩, h⟩
      · rename_i q
        split at h
        · rename_i q2; exact ⟨_, _, ⟨h1, h2, h3, h4, h5, h6, h7, h8, by rw [if_neg q, if_pos q2]; exact ⟨h.1, rfl, rfl⟩⟩, h.2⟩
        · rename_i q2
          split at h
          · exact ⟨_, _, ⟨h1, h2, h3, h4, h5, h6, h7, h8, by rw [if_neg q, if_neg q2]; exact ⟨rfl, rfl⟩⟩, h⟩
          · exact ⟨_, _, ⟨h1, h2, h3, h4, h5, h6, h7, h8, by rw [if_neg q, if_neg q2]; exact ⟨rfl, rfl⟩⟩, h⟩
          · exact ⟨_, _, ⟨h1, h2, h3, h4, h5, h6, h7, h8, by rw [if_neg q, if_neg q2]; exact ⟨h.1, rfl, rfl⟩⟩, h.2⟩
          · exact h.elim
    · exact h.elim
  · exact h.elim

theorem apN_ex {P : Program} {mu : List Nat} {o : Oper} {ρ : Env} {σ : Store} {nu : Nat} {k : KK} (h : apN P mu o ρ σ nu k) : ∃ v σ', apN P mu o ρ σ nu (fun v' s' => v' = v ∧ s' = σ') ∧ k v σ' := by
  unfold apN at h ⊢
  split at h
  · split at h
    · obtain ⟨h1, h2⟩ := h
      obtain ⟨v, σ', h3, h4⟩ := appendN_ex h2
      exact ⟨v, σ', ⟨h1, h3⟩, h4⟩
    · exact h.elim
  · obtain ⟨h1, h2, h3, h4, h5, h6, h7, h8⟩ := h
    exact ⟨_, _, ⟨h1, h2, h3, h4, h5, h6, h7, rfl, rfl⟩, h8⟩
  · exact h.elim

theorem apN_congr {P : Program} {mu : List Nat} {o : Oper} {ρ ρ' : Env} {σ : Store} {nu : Nat} {k : KK} (h : ∀ x ∈ o.op.operands, ev ρ x = ev ρ' x) (hk : apN P mu o ρ σ nu k) : apN P mu o ρ' σ nu k := by
  obtain ⟨dst, op, type, pos, after, guard⟩ := o
  unfold apN at hk ⊢
  simp only at hk h ⊢
  split at hk
  · rename_i c
    obtain ⟨callee, args, argTypes⟩ := c
    simp only [Op.operands, Call.operands] at h
    simp only at hk ⊢
    split at hk
    · rename_i x y t u hargs htys
      have hx : ∀ z ∈ args.toList, ev ρ z = ev ρ' z := fun z hz => h z (by simpa using hz)
      rw [hargs] at hx
      rw [← hx x (by simp), ← hx y (by simp)]; exact hk
    · exact hk.elim
  · rename_i t m ps
    simp only [Op.operands] at h
    have e : (ps.toList.map fun p => (p.1, ev ρ' p.2)) = (ps.toList.map fun p => (p.1, ev ρ p.2)) := List.map_congr_left fun p hp => by rw [h p.2 (by simp; exact ⟨p.1, by simpa using hp⟩)]
    rw [e]; exact hk
  · exact hk.elim

theorem guardP_of {ops : Array Oper} {ρ : Env} {o : Oper} {k : Bool → Prop} {b : Bool} (h : guardP ops ρ o (fun c => c = b)) (hk : k b) : guardP ops ρ o k := by
  unfold guardP at h ⊢
  cases hg : o.guard with
  | none => rw [hg] at h; simp only at h ⊢; subst h; exact hk
  | some jw =>
    obtain ⟨j, want⟩ := jw
    rw [hg] at h
    simp only at h ⊢
    cases hd : (ops[j]?).bind (·.dst) with
    | none => rw [hd] at h; simp only at h ⊢; subst h; exact hk
    | some s =>
      rw [hd] at h
      simp only at h ⊢
      split at h
      · subst h; exact hk
      · subst h; exact hk
      · exact h.elim
theorem appendN_of {P : Program} {T : Ty} {mu : Bool} {σ : Store} {x y : AV} {nu : Nat} {k : KK} {v : AV} {σ' : Store} (h : appendN P T mu σ x y nu (fun v' s' => v' = v ∧ s' = σ')) (hk : k v σ') : appendN P T mu σ x y nu k := by
  unfold appendN at h ⊢
  obtain ⟨h1, h2, h3, h4, h⟩ := h
  refine ⟨h1, h2, h3, h4, ?_⟩
  split at h
  · obtain ⟨h5, h⟩ := h
    refine ⟨h5, ?_⟩
    split at h
    · obtain ⟨h6, h7, h8, h9, h⟩ := h
      refine ⟨h6, h7, h8, h9, ?_⟩
      split at h
      · obtain ⟨h10, h11, h⟩ := h
        refine ⟨h10, h11, ?_⟩
        split at h
        · rename_i q; rw [if_pos q, h.1, h.2]; exact hk
        · rename_i q; rw [if_neg q, h.1, h.2]; exact hk
      · exact h.elim
    · obtain ⟨h6, h7, h8, h⟩ := h
      refine ⟨h6, h7, h8, ?_⟩
      split at h
      · rename_i q; rw [if_pos q, h.1, h.2]; exact hk
      · rename_i q
        rw [if_neg q]
        split at h
        · rename_i q2; rw [if_pos q2]; exact ⟨h.1, by rw [h.2.1, h.2.2]; exact hk⟩
        · rename_i q2
          rw [if_neg q2]
          split at h
          · rw [h.1, h.2]; exact hk
          · rw [h.1, h.2]; exact hk
          · exact ⟨h.1, by rw [h.2.1, h.2.2]; exact hk⟩
          · exact h
    · exact h.elim
  · exact h.elim
theorem apN_of {P : Program} {mu : List Nat} {o : Oper} {ρ : Env} {σ : Store} {nu : Nat} {k : KK} {v : AV} {σ' : Store} (h : apN P mu o ρ σ nu (fun v' s' => v' = v ∧ s' = σ')) (hk : k v σ') : apN P mu o ρ σ nu k := by
  unfold apN at h ⊢
  split at h
  · split at h
    · exact ⟨h.1, appendN_of h.2 hk⟩
    · exact h.elim
  · obtain ⟨h1, h2, h3, h4, h5, h6, h7, h8, h9⟩ := h
    exact ⟨h1, h2, h3, h4, h5, h6, h7, by rw [h8, h9]; exact hk⟩
  · exact h.elim

theorem drun_append {P : Program} {n : Nat} {mu : List Nat} {c : Cl} {nu : Nat → Nat} {ops : Array Oper} {K : Env → Store → Prop} {m : List Oper} : ∀ (l : List Oper) (i : Nat) (ρ : Env) (σ : Store), (∀ j, j < l.length → c.fin.contains (i + j) = false) → drun P n mu c nu ops (l ++ m) i ρ σ K →
    drun P n mu c nu ops l i ρ σ (fun ρ' σ' => drun P n mu c nu ops m (i + l.length) ρ' σ' K)
  | [], i, ρ, σ, _, h => h
  | o :: r, i, ρ, σ, hf, h => by
    obtain ⟨hd, h⟩ := h
    have ih := fun ρ' σ' (h : drun P n mu c nu ops (r ++ m) (i + 1) ρ' σ' K) => drun_append r (i + 1) ρ' σ' (fun j hj => by rw [show i + 1 + j = i + (j + 1) by omega]; exact hf (j + 1) (by simp; omega)) h
    have hfi := hf 0 (by simp)
    rw [Nat.add_zero] at hfi
    have e : i + 1 + r.length = i + (o :: r).length := by simp; omega
    rw [e] at ih
    refine ⟨hd, ?_⟩
    split at h
    · rename_i q
      rw [if_pos q]
      unfold allocN at h ⊢
      split at h
      · refine ⟨h.1, ?_⟩
        have h := h.2
        split at h
        · exact ⟨h.1, ih _ _ h.2⟩
        · exact h.elim
      · exact h.elim
    · rename_i q
      rw [if_neg q]
      split at h
      · rename_i q2
        rw [if_pos q2]
        obtain ⟨v, σ', h1, h2⟩ := apN_ex h
        exact apN_of h1 ⟨h2.1, ih _ _ h2.2⟩
      · rename_i q2
        rw [if_neg q2]
        split at h
        · rename_i q3; rw [hfi] at q3; cases q3
        · rename_i q3
          rw [if_neg q3]
          obtain ⟨b, hb, h⟩ := guardP_ex h
          refine guardP_of hb ?_
          cases b with
          | true =>
            rw [if_pos rfl] at h
            rw [if_pos rfl]
            split at h
            · rename_i q4; rw [if_pos q4]; obtain ⟨v, σ', h1, h0, h2⟩ := h; exact ⟨v, σ', h1, h0, ih _ _ h2⟩
            · rename_i q4
              rw [if_neg q4]
              split at h
              · rename_i q5; rw [if_pos q5]; obtain ⟨v, h1, h0, h2⟩ := h; exact ⟨v, h1, h0, ih _ _ h2⟩
              · rename_i q5; rw [if_neg q5]; obtain ⟨v, h1, h2⟩ := h; exact ⟨v, h1, ih _ _ h2⟩
          | false =>
            rw [if_neg (by simp)] at h
            rw [if_neg (by simp)]
            exact ih _ _ h

theorem drun_trace {P : Program} {n : Nat} {mu : List Nat} {c : Cl} {nu : Nat → Nat} {ops : Array Oper} {K : Env → Store → Prop} : ∀ (l : List Oper) (i : Nat) (ρ : Env) (σ : Store), (∀ j, j < l.length → c.fin.contains (i + j) = false) → drun P n mu c nu ops l i ρ σ K →
    ∃ (ρs : Nat → Env) (sts : Nat → Store) (vals : Nat → AV) (zs : Nat → Ob), ρs 0 = ρ ∧ sts 0 = σ ∧ (∀ j o, l[j]? = some o → TStep P n mu c nu ops (i + j) o (ρs j) (ρs (j + 1)) (sts j) (sts (j + 1)) (vals j) (zs j)) ∧ K (ρs l.length) (sts l.length)
  | [], i, ρ, σ, _, h => ⟨fun _ => ρ, fun _ => σ, fun _ => .any, fun _ => .map [], rfl, rfl, fun j o ho => by simp at ho, h⟩
  | o :: r, i, ρ, σ, hfn, h => by
    obtain ⟨hd, h⟩ := h
    have hfi := hfn 0 (by simp)
    rw [Nat.add_zero] at hfi
    obtain ⟨v, z, σ', hst, hr⟩ : ∃ v z σ', TStep P n mu c nu ops i o ρ (ρ.putO o.dst v) σ σ' v z ∧ drun P n mu c nu ops r (i + 1) (ρ.putO o.dst v) σ' K := by
      have toLate : ∀ {σ' : Store}, wrOk c.lt c.lo i σ σ' → c.lt.isEmpty = false → ∃ q, PutAt q σ σ' ∧ (c.lt.contains i = true → q = c.lo) := fun {σ'} h0 hl => by
        unfold wrOk at h0
        split at h0
        · rename_i e; rw [e] at hl; cases hl
        · split at h0
          · exact ⟨_, h0, fun _ => rfl⟩
          · rename_i hh
            obtain ⟨q, hq⟩ := h0
            exact ⟨q, hq, fun e => absurd e hh⟩
      have ltE : ∀ {A : Prop}, c.lt.isEmpty = false → (c.lt.isEmpty = true) → A := fun h1 h2 => by rw [h1] at h2; cases h2
      cases ha : c.al.contains i with
      | true =>
        rw [if_pos ha] at h
        obtain ⟨z, h1, h2⟩ := allocN_ex h
        exact ⟨_, z, _, ⟨rfl, hd, fun _ => ⟨h1, rfl, rfl⟩, (fun _ e => by rw [ha] at e; cases e), (fun e => by rw [ha] at e; cases e), (fun e => by rw [ha] at e; cases e), (fun _ e => by rw [ha] at e; cases e), (fun _ e => by rw [ha] at e; cases e)⟩, h2⟩
      | false =>
        rw [if_neg (by rw [ha]; simp)] at h
        cases hap : c.ap.contains i with
        | true =>
          rw [if_pos hap] at h
          obtain ⟨v, σ', h1, h0, h2⟩ := apN_ex h
          exact ⟨v, .map [], σ', ⟨rfl, hd, (fun e => by rw [ha] at e; cases e), fun _ _ => h1, (fun _ e => by rw [hap] at e; cases e), (fun _ e => by rw [hap] at e; cases e), (fun hl _ _ _ => toLate h0 hl), (fun _ _ e => by rw [hap] at e; cases e)⟩, h2⟩
        | false =>
        rw [if_neg (by rw [hap]; simp), if_neg (by rw [hfi]; simp)] at h
        have nap : c.ap.contains i = true → c.al.contains i = false → ∀ (v : AV) (σ' : Store), apN P mu o ρ σ (nu i) (fun v' s' => v' = v ∧ s' = σ') := fun e => by rw [hap] at e; cases e
        obtain ⟨b, hb, h⟩ := guardP_ex h
        cases b with
        | true =>
          rw [if_pos rfl] at h
          split at h
          · rename_i hw
            obtain ⟨v, σ', h1, h0, h2⟩ := h
            have hlate := toLate h0
            exact ⟨v, .map [], σ', ⟨rfl, hd, (fun e => by rw [ha] at e; cases e), (fun e e2 => nap e e2 _ _), fun _ _ _ => ⟨true, hb, fun _ => h1, nofun, (fun _ e => by rw [hw] at e; cases e)⟩, (fun _ _ e => by rw [hw] at e; cases e), fun hl _ _ _ => hlate hl, (fun _ _ _ _ e => by rw [hw] at e; cases e)⟩, h2⟩
          · rename_i hw
            have hw0 : c.wr.contains i = false := by simpa using hw
            split at h
            · rename_i ht
              obtain ⟨v, h1, h0, h2⟩ := h
              exact ⟨v, .map [], σ, ⟨rfl, hd, (fun e => by rw [ha] at e; cases e), (fun e e2 => nap e e2 _ _), fun _ _ _ => ⟨true, hb, fun _ => h1, nofun, (fun _ _ e => by rw [ht] at e; cases e)⟩, fun _ _ _ => rfl, fun _ _ _ _ => ⟨c.lo, .inl rfl, fun _ => rfl⟩, fun hl _ _ _ _ _ _ => by
                unfold tqOk at h0
                split at h0
                · rename_i e; rw [e] at hl; cases hl
                · exact h0⟩, h2⟩
            · rename_i ht
              obtain ⟨v, h1, h2⟩ := h
              exact ⟨v, .map [], σ, ⟨rfl, hd, (fun e => by rw [ha] at e; cases e), (fun e e2 => nap e e2 _ _), fun _ _ _ => ⟨true, hb, fun _ => h1 σ, nofun, fun _ _ _ => h1⟩, fun _ _ _ => rfl, fun _ _ _ _ => ⟨c.lo, .inl rfl, fun _ => rfl⟩, (fun _ _ _ _ _ e => absurd e ht)⟩, h2⟩
        | false =>
          rw [if_neg (by simp)] at h
          exact ⟨.tup [], .map [], σ, ⟨rfl, hd, (fun e => by rw [ha] at e; cases e), (fun e e2 => nap e e2 _ _), fun _ _ _ => ⟨false, hb, nofun, fun _ => ⟨rfl, rfl⟩, nofun⟩, fun _ _ _ => rfl, fun _ _ _ _ => ⟨c.lo, .inl rfl, fun _ => rfl⟩, fun _ _ _ _ _ _ hg => by
            exfalso
            unfold guardP at hb hg
            cases hgd : o.guard with
            | none => rw [hgd] at hb; cases hb
            | some jw =>
              obtain ⟨j, want⟩ := jw
              rw [hgd] at hb hg
              simp only at hb hg
              cases hdd : (ops[j]?).bind (·.dst) with
              | none => rw [hdd] at hg; cases hg
              | some s =>
                rw [hdd] at hb hg
                simp only at hb hg
                split at hb
                · rename_i e; rw [e] at hg; simp only at hg; rw [hg] at hb; cases hb
                · rename_i e; rw [e] at hg; simp only at hg; cases hg
                · exact hb.elim⟩, h⟩
    obtain ⟨ρs, sts, vals, zs, e1, e2, h1, h2⟩ := drun_trace r (i + 1) _ σ' (fun j hj => by rw [show i + 1 + j = i + (j + 1) by omega]; exact hfn (j + 1) (by simp; omega)) hr
    refine ⟨fun | 0 => ρ | j + 1 => ρs j, fun | 0 => σ | j + 1 => sts j, fun | 0 => v | j + 1 => vals j, fun | 0 => z | j + 1 => zs j, rfl, rfl, fun j o' ho => ?_, h2⟩
    cases j with
    | zero =>
      simp at ho; subst ho
      simp only [e1, e2, Nat.add_zero]
      exact hst
    | succ j =>
      have := h1 j o' (by simpa using ho)
      rw [show i + 1 + j = i + (j + 1) by omega] at this
      exact this

/-- A slot's value where a part of the operations has run. -/
def envAt (ops : Array Oper) (vals : Nat → AV) (ρ : Env) (L : Array Bool) : Nat → Nat → AV
  | 0, s => ρ.get s
  | m + 1, s => if L.getD m false = true ∧ (ops[m]?).bind (·.dst) = some s then vals m else envAt ops vals ρ L m s
def stAt (c : Cl) (nu : Nat → Nat) (zs : Nat → Ob) (sts : Nat → Store) (L : Array Bool) : Nat → Store
  | 0 => sts 0
  | m + 1 => if L.getD m false = true ∧ c.wr.contains m = true then sts (m + 1) else if L.getD m false = true ∧ c.al.contains m = true then (stAt c nu zs sts L m).put (nu m) (zs m) else stAt c nu zs sts L m

theorem ready_iff {ops : Array Oper} {L : Array Bool} (hL : L.size = ops.size) {i : Nat} (h : i ∈ Region.ready .any ops L) : i < ops.size ∧ L.getD i false = false ∧ ∀ e ∈ edgesOf ops i, L.getD e false = true := by
  unfold Region.ready at h
  simp only [List.mem_filter, List.mem_range, Bool.and_eq_true, Bool.not_eq_true'] at h
  obtain ⟨h1, h2, h3⟩ := h
  refine ⟨h1, ?_, fun e he => ?_⟩
  · simp [Array.getD, hL, h1] at h2 ⊢
    exact h2
  · unfold edgesOf at he
    have ho : ops[i]? = some ops[i] := by simp [h1]
    rw [ho] at he h3
    simp only [Option.map_some, Option.getD_some, List.mem_map, List.mem_filter] at he h3
    obtain ⟨ed, ⟨hm, hb⟩, rfl⟩ := he
    have := Array.all_eq_true'.1 h3 ed (by simpa using hm)
    simpa [hb] using this

/-- What has run has its forerunners run. -/
def Down (ops : Array Oper) (L : Array Bool) : Prop := ∀ i, L.getD i false = true → ∀ e ∈ edgesOf ops i, L.getD e false = true

theorem down_anc {ops : Array Oper} {A : List (List Nat)} (hA : ancOk ops A = true) {L : Array Bool} (hL : L.size = ops.size) (hd : Down ops L) : ∀ (i j : Nat), L.getD i false = true → j ∈ A.getD i [] → L.getD j false = true := by
  intro i
  induction i using Nat.strongRecOn with
  | _ i ih =>
    intro j hi hj
    have hlt : i < ops.size := by
      rcases Nat.lt_or_ge i ops.size with h | h
      · exact h
      · simp [Array.getD, hL, show ¬ i < ops.size by omega] at hi
    have := List.all_eq_true.1 hA i (List.mem_range.2 hlt)
    simp only [Bool.and_eq_true] at this
    obtain ⟨h1, h2⟩ := this
    have h3 := List.all_eq_true.1 h2 j hj
    obtain ⟨e, he, h4⟩ := List.any_eq_true.1 h3
    have hle := hd i hi e he
    have helt : e < i := by simpa using List.all_eq_true.1 h1 e he
    simp only [Bool.or_eq_true, decide_eq_true_eq, List.contains_iff_mem] at h4
    rcases h4 with rfl | h4
    · exact hle
    · exact ih e helt j hle h4

theorem ready_anc {ops : Array Oper} {A : List (List Nat)} (hA : ancOk ops A = true) {L : Array Bool} (hL : L.size = ops.size) (hd : Down ops L) {i : Nat} (hi : i < ops.size) (hr : ∀ e ∈ edgesOf ops i, L.getD e false = true) {j : Nat} (hj : j ∈ A.getD i []) : L.getD j false = true := by
  have := List.all_eq_true.1 hA i (List.mem_range.2 hi)
  simp only [Bool.and_eq_true] at this
  have h3 := List.all_eq_true.1 this.2 j hj
  obtain ⟨e, he, h4⟩ := List.any_eq_true.1 h3
  simp only [Bool.or_eq_true, decide_eq_true_eq, List.contains_iff_mem] at h4
  rcases h4 with rfl | h4
  · exact hr j he
  · exact down_anc hA hL hd e j (hr e he) h4

theorem pair_spec {c : Cl} {ops : Array Oper} {A : List (List Nat)} (h : pairOk c ops A = true) {i j : Nat} (hij : i < j) {a b : Oper} (ha : ops[i]? = some a) (hb : ops[j]? = some b) :
    i ∈ A.getD j [] ∨ (a.apart ops b = true ∧ c.clash i j = false) := by
  have hj : j < ops.size := (Array.getElem?_eq_some_iff.1 hb).1
  have h1 := List.all_eq_true.1 h j (List.mem_range.2 hj)
  have h2 := List.all_eq_true.1 h1 i (List.mem_range.2 hij)
  rw [ha, hb] at h2
  rcases Bool.or_eq_true_iff.1 h2 with h2 | h2
  · exact .inl (List.contains_iff_mem.1 h2)
  · have := Bool.and_eq_true_iff.1 h2
    exact .inr ⟨this.1, by simpa using this.2⟩

theorem getD_set {L : Array Bool} {i j : Nat} (hi : i < L.size) : (L.setIfInBounds i true).getD j false = if j = i then true else L.getD j false := by
  rw [Array.getD_eq_getD_getElem?, Array.getElem?_setIfInBounds, Array.getD_eq_getD_getElem?]
  by_cases h : i = j
  · subst h; simp [hi]
  · rw [if_neg h, if_neg (fun e => h e.symm)]

theorem put_comm {s : Store} {a b : Nat} (h : a ≠ b) (x y : Ob) : (s.put a x).put b y = (s.put b y).put a x := by
  funext p
  simp only [Store.put]
  by_cases h1 : p = a
  · have h2 : ¬ p = b := fun e => h (h1.symm.trans e)
    simp only [h1, h, if_true, if_false]
  · by_cases h2 : p = b
    · simp only [h2, if_true, if_neg (fun e : b = a => h e.symm)]
    · simp only [h1, h2, if_false]

section
variable {P : Program} {n : Nat} {mu : List Nat} {c : Cl} {nu : Nat → Nat} {ops : Array Oper} {ρs : Nat → Env} {sts : Nat → Store} {vals : Nat → AV} {zs : Nat → Ob}

/-- The text's environments, slot by slot. -/
theorem text_env (ht : ∀ j o, ops[j]? = some o → TStep P n mu c nu ops j o (ρs j) (ρs (j + 1)) (sts j) (sts (j + 1)) (vals j) (zs j)) (m s : Nat) (hm : m < ops.size) :
    (ρs (m + 1)).get s = if (ops[m]?).bind (·.dst) = some s then vals m else (ρs m).get s := by
  have ho : ops[m]? = some ops[m] := by simp [hm]
  have := (ht m _ ho).env
  rw [this, ho, Option.bind_some]
  cases hd : ops[m].dst with
  | none => simp [Env.putO]
  | some d =>
    simp only [Env.putO, Env.get, Option.some.injEq]
    by_cases h : s = d
    · subst h; simp
    · rw [if_neg h, if_neg (fun e => h e.symm)]

variable (hapw : ∀ m, c.wr.contains m = false → c.ap.contains m = false) (hA : ancOk ops (mkAnc ops) = true) (hp : pairOk c ops (mkAnc ops) = true)
  (ht : ∀ j o, ops[j]? = some o → TStep P n mu c nu ops j o (ρs j) (ρs (j + 1)) (sts j) (sts (j + 1)) (vals j) (zs j))
include hapw hA hp ht

/-- What an operation that is ready reads is what it reads in the text's order. -/
theorem read_same {L : Array Bool} (hL : L.size = ops.size) (hd : Down ops L) {i : Nat} {o : Oper} (ho : ops[i]? = some o) (hni : L.getD i false = false) (hr : ∀ e ∈ edgesOf ops i, L.getD e false = true) {s : Nat} (hs : s ∈ o.looksAt ops) :
    ∀ m, m ≤ ops.size → envAt ops vals (ρs 0) L m s = if m ≤ i then (ρs m).get s else (ρs i).get s
  | 0, _ => by simp [envAt]
  | m + 1, hm => by
    have ih := read_same hL hd ho hni hr hs m (by omega)
    have hm' : m < ops.size := by omega
    have hom : ops[m]? = some ops[m] := by simp [hm']
    simp only [envAt, ih]
    rcases Nat.lt_trichotomy m i with h | h | h
    · rw [if_pos (by omega : m ≤ i), if_pos (by omega : m + 1 ≤ i), text_env ht m s hm']
      by_cases hw : (ops[m]?).bind (·.dst) = some s
      · have hlm : L.getD m false = true := by
          rcases pair_spec hp h hom ho with h1 | ⟨h1, _⟩
          · exact ready_anc hA hL hd (Array.getElem?_eq_some_iff.1 ho).1 hr h1
          · have hdm : ops[m].dst = some s := by rw [hom] at hw; simpa using hw
            exact absurd hs ((Oper.apart_spec h1).1 s hdm)
        rw [if_pos ⟨hlm, hw⟩, if_pos hw]
      · rw [if_neg (fun h => hw h.2), if_neg hw]
    · subst h
      rw [if_neg (fun h => by rw [hni] at h; exact absurd h.1 (by simp)), if_pos (Nat.le_refl _), if_neg (by omega)]
    · rw [if_neg (by omega : ¬ m ≤ i), if_neg (by omega : ¬ m + 1 ≤ i)]
      by_cases hw : (ops[m]?).bind (·.dst) = some s
      · have hlm : L.getD m false = false := by
          cases hlm : L.getD m false with
          | false => rfl
          | true =>
            exfalso
            rcases pair_spec hp h ho hom with h1 | ⟨h1, _⟩
            · have := down_anc hA hL hd m i hlm h1
              rw [hni] at this; cases this
            · have hdm : ops[m].dst = some s := by rw [hom] at hw; simpa using hw
              exact (Oper.apart_spec h1).2.2 s hdm hs
        rw [if_neg (fun h => by rw [hlm] at h; exact absurd h.1 (by simp))]
      · rw [if_neg (fun h => hw h.2)]

/-- The memory that an operation meets, where it looks at any. -/
theorem store_same {L : Array Bool} (hL : L.size = ops.size) (hd : Down ops L) {i : Nat} {o : Oper} (ho : ops[i]? = some o) (hni : L.getD i false = false) (hr : ∀ e ∈ edgesOf ops i, L.getD e false = true) (hlk : c.wr.contains i = true ∨ (c.tq.contains i = true ∧ c.lt.isEmpty = true)) :
    ∀ m, m ≤ ops.size → stAt c nu zs sts L m = if m ≤ i then sts m else sts i
  | 0, _ => by simp [stAt]
  | m + 1, hm => by
    have ih := store_same hL hd ho hni hr hlk m (by omega)
    have hm' : m < ops.size := by omega
    have hom : ops[m]? = some ops[m] := by simp [hm']
    simp only [stAt, ih]
    have hst := ht m _ hom
    have hcl : (c.wr.contains m = true ∨ c.al.contains m = true) → c.clash m i = true ∧ c.clash i m = true := by
      intro hwa
      simp only [Cl.clash]
      rcases hlk with h' | ⟨h', h0⟩
      · rcases hwa with h | h <;> simp only [h, h', Bool.true_and, Bool.and_true, Bool.or_true, Bool.true_or] <;> simp
      · have hl0 : c.lt = [] := by simpa using h0
        have hn : ∀ q, c.lt.contains q = false := fun q => by rw [hl0]; rfl
        rcases hwa with h | h <;> simp only [h, h', hn, Bool.not_false, Bool.true_and, Bool.and_true, Bool.or_true, Bool.true_or] <;> simp
    rcases Nat.lt_trichotomy m i with h | h | h
    · rw [if_pos (by omega : m ≤ i), if_pos (by omega : m + 1 ≤ i)]
      have hlm : (c.wr.contains m = true ∨ c.al.contains m = true) → L.getD m false = true := fun hwa => by
        rcases pair_spec hp h hom ho with h1 | ⟨_, h1⟩
        · exact ready_anc hA hL hd (Array.getElem?_eq_some_iff.1 ho).1 hr h1
        · rw [(hcl hwa).1] at h1; cases h1
      cases hw : c.wr.contains m with
      | true => rw [if_pos ⟨hlm (.inl hw), rfl⟩]
      | false =>
        rw [if_neg (fun h => by simp at h)]
        cases ha : c.al.contains m with
        | true => rw [if_pos ⟨hlm (.inr ha), rfl⟩, (hst.al ha).2.1]
        | false => rw [if_neg (fun h => by simp at h), hst.keep ha (hapw m hw) hw]
    · subst h
      rw [if_neg (fun h => by rw [hni] at h; exact absurd h.1 (by simp)), if_neg (fun h => by rw [hni] at h; exact absurd h.1 (by simp)), if_pos (Nat.le_refl _), if_neg (by omega)]
    · rw [if_neg (by omega : ¬ m ≤ i), if_neg (by omega : ¬ m + 1 ≤ i)]
      have hlm : (c.wr.contains m = true ∨ c.al.contains m = true) → L.getD m false = false := fun hwa => by
        cases hlm : L.getD m false with
        | false => rfl
        | true =>
          exfalso
          rcases pair_spec hp h ho hom with h1 | ⟨_, h1⟩
          · have := down_anc hA hL hd m i hlm h1
            rw [hni] at this; cases this
          · rw [(hcl hwa).2] at h1; cases h1
      cases hw : c.wr.contains m with
      | true => rw [if_neg (fun h => by rw [hlm (.inl hw)] at h; exact absurd h.1 (by simp)), if_neg (fun h => by rw [hlm (.inl hw)] at h; exact absurd h.1 (by simp))]
      | false =>
        rw [if_neg (fun h => by simp at h)]
        cases ha : c.al.contains m with
        | true => rw [if_neg (fun h => by rw [hlm (.inr ha)] at h; exact absurd h.1 (by simp))]
        | false => rw [if_neg (fun h => by simp at h)]

/-- Behind the step. -/
theorem env_set {L : Array Bool} (hL : L.size = ops.size) (hd : Down ops L) {i : Nat} {o : Oper} (ho : ops[i]? = some o) (hni : L.getD i false = false) (s : Nat) :
    ∀ m, m ≤ ops.size → envAt ops vals (ρs 0) (L.setIfInBounds i true) m s = if i < m ∧ o.dst = some s then vals i else envAt ops vals (ρs 0) L m s
  | 0, _ => by simp [envAt]
  | m + 1, hm => by
    have ih := env_set hL hd ho hni s m (by omega)
    have hm' : m < ops.size := by omega
    have hi : i < ops.size := (Array.getElem?_eq_some_iff.1 ho).1
    have hom : ops[m]? = some ops[m] := by simp [hm']
    simp only [envAt, ih, getD_set (show i < L.size by omega)]
    rcases Nat.lt_trichotomy m i with h | h | h
    · simp only [show ¬ m = i by omega, show ¬ i < m by omega, show ¬ i < m + 1 by omega, false_and, if_false]
    · subst h
      rw [if_pos rfl, ho, Option.bind_some]
      by_cases hs : o.dst = some s
      · rw [if_pos ⟨rfl, hs⟩, if_pos ⟨by omega, hs⟩]
      · rw [if_neg (fun h => hs h.2), if_neg (fun h => hs h.2), if_neg (fun h => hs h.2), if_neg (fun h => hs h.2)]
    · rw [if_neg (by omega : ¬ m = i)]
      by_cases hs : o.dst = some s
      · by_cases hw : L.getD m false = true ∧ (ops[m]?).bind (·.dst) = some s
        · exfalso
          obtain ⟨hlm, hw⟩ := hw
          have hdm : ops[m].dst = some s := by rw [hom] at hw; simpa using hw
          rcases pair_spec hp h ho hom with h1 | ⟨h1, _⟩
          · have := down_anc hA hL hd m i hlm h1
            rw [hni] at this; cases this
          · exact (Oper.apart_spec h1).2.1 s hs hdm
        · rw [if_neg hw, if_pos ⟨h, hs⟩, if_pos ⟨by omega, hs⟩]
      · simp only [hs, Bool.false_eq_true, and_false, if_false]

/-- The memory behind the step. -/
def stNext (c : Cl) (nu : Nat → Nat) (zs : Nat → Ob) (sts : Nat → Store) (i : Nat) (s : Store) : Store :=
  if c.wr.contains i = true then sts (i + 1) else if c.al.contains i = true then s.put (nu i) (zs i) else s

theorem st_set (hnu : ∀ i j, c.al.contains i = true → c.al.contains j = true → nu i = nu j → i = j) {L : Array Bool} (hL : L.size = ops.size) (hd : Down ops L) {i : Nat} {o : Oper} (ho : ops[i]? = some o) (hni : L.getD i false = false) :
    ∀ m, m ≤ ops.size → stAt c nu zs sts (L.setIfInBounds i true) m = if i < m then stNext c nu zs sts i (stAt c nu zs sts L m) else stAt c nu zs sts L m
  | 0, _ => by simp [stAt]
  | m + 1, hm => by
    have ih := st_set hnu hL hd ho hni m (by omega)
    have hm' : m < ops.size := by omega
    have hi : i < ops.size := (Array.getElem?_eq_some_iff.1 ho).1
    have hom : ops[m]? = some ops[m] := by simp [hm']
    simp only [stAt, ih, getD_set (show i < L.size by omega)]
    rcases Nat.lt_trichotomy m i with h | h | h
    · simp only [show ¬ m = i by omega, show ¬ i < m by omega, show ¬ i < m + 1 by omega, if_false]
    · subst h
      rw [if_pos rfl, if_pos (show m < m + 1 by omega), hni]
      simp only [Bool.false_eq_true, false_and, if_false, true_and, stNext, Nat.lt_irrefl]
    · rw [if_neg (by omega : ¬ m = i), if_pos (by omega : i < m + 1), if_pos h]
      have hnl : c.clash i m = true → L.getD m false = false := fun hcl => by
        cases hlm : L.getD m false with
        | false => rfl
        | true =>
          exfalso
          rcases pair_spec hp h ho hom with h1 | ⟨_, h1⟩
          · have := down_anc hA hL hd m i hlm h1
            rw [hni] at this; cases this
          · rw [hcl] at h1; cases h1
      cases hw : c.wr.contains i with
      | true =>
        have hcl : (c.wr.contains m = true ∨ c.al.contains m = true) → L.getD m false = false := fun hwa => hnl (by
          simp only [Cl.clash]
          rcases hwa with h | h <;> simp only [h, hw, Bool.true_and, Bool.or_true, Bool.true_or] <;> simp)
        simp only [stNext, hw, if_true]
        cases hwm : c.wr.contains m with
        | true => simp only [hcl (.inl hwm), Bool.false_eq_true, false_and, if_false]
        | false =>
          cases ham : c.al.contains m with
          | true => simp only [hcl (.inr ham), Bool.false_eq_true, false_and, if_false]
          | false => simp only [Bool.false_eq_true, and_false, if_false]
      | false =>
        cases ha : c.al.contains i with
        | true =>
          have hcl : c.wr.contains m = true → L.getD m false = false := fun hwm => hnl (by
            simp only [Cl.clash, Cl.any]
            simp only [hwm, ha, Bool.true_and, Bool.or_true, Bool.true_or])
          simp only [stNext, hw, ha, Bool.false_eq_true, if_false, if_true]
          cases hwm : c.wr.contains m with
          | true => simp only [hcl hwm, Bool.false_eq_true, false_and, if_false]
          | false =>
            simp only [Bool.false_eq_true, and_false, if_false]
            cases ham : c.al.contains m with
            | true =>
              simp only [and_true]
              split
              · exact put_comm (fun e => by have := hnu i m ha ham e; omega) _ _
              · rfl
            | false => simp only [Bool.false_eq_true, and_false, if_false]
        | false => simp only [stNext, hw, ha, Bool.false_eq_true, if_false]
end

/-- How many operations are still to run. -/
def left (ops : Array Oper) (L : Array Bool) : Nat := ((List.range ops.size).filter fun i => !L.getD i false).length

theorem left_set {ops : Array Oper} {L : Array Bool} (hL : L.size = ops.size) {i : Nat} (hi : i < ops.size) (hni : L.getD i false = false) : left ops (L.setIfInBounds i true) < left ops L := by
  unfold left
  have : ((List.range ops.size).filter fun j => !(L.setIfInBounds i true).getD j false) = ((List.range ops.size).filter fun j => !L.getD j false).filter (fun j => !decide (j = i)) := by
    rw [List.filter_filter]
    apply List.filter_congr
    intro j _
    rw [getD_set (by omega)]
    by_cases h : j = i
    · subst h; simp
    · rw [if_neg h]; simp [h]
  rw [this, List.length_filter_lt_length_iff_exists]
  exact ⟨i, by simp only [List.mem_filter, List.mem_range, hni]; exact ⟨hi, rfl⟩, by simp⟩

theorem left_zero {ops : Array Oper} {L : Array Bool} (h : left ops L = 0) : ∀ i, i < ops.size → L.getD i false = true := by
  intro i hi
  have := List.filter_eq_nil_iff.1 (List.eq_nil_of_length_eq_zero h) i (List.mem_range.2 hi)
  simpa using this

theorem ready_mem {ops : Array Oper} {L : Array Bool} (hL : L.size = ops.size) {i : Nat} (hi : i < ops.size) (hni : L.getD i false = false) (he : ∀ e ∈ edgesOf ops i, L.getD e false = true) : i ∈ Region.ready .any ops L := by
  unfold Region.ready
  simp only [List.mem_filter, List.mem_range, Bool.and_eq_true, Bool.not_eq_true']
  have ho : ops[i]? = some ops[i] := by simp [hi]
  refine ⟨hi, ?_, ?_⟩
  · simp [Array.getD, hL, hi] at hni ⊢; exact hni
  · rw [ho]
    simp only [Option.map_some, Option.getD_some]
    rw [Array.all_eq_true']
    intro ed hed
    by_cases hb : Region.binds .any ed = true
    · have := he ed.on (by
        unfold edgesOf
        rw [ho]
        simp only [Option.map_some, Option.getD_some, List.mem_map, List.mem_filter]
        exact ⟨ed, ⟨by simpa using hed, hb⟩, rfl⟩)
      simp [this]
    · simp [hb]

/-- Where nothing is ready, all has run. -/
theorem ready_nil {ops : Array Oper} {A : List (List Nat)} (hA : ancOk ops A = true) {L : Array Bool} (hL : L.size = ops.size) (h : Region.ready .any ops L = []) : ∀ i, i < ops.size → L.getD i false = true := by
  intro i
  induction i using Nat.strongRecOn with
  | _ i ih =>
    intro hi
    cases hni : L.getD i false with
    | true => rfl
    | false =>
      exfalso
      have h1 := List.all_eq_true.1 hA i (List.mem_range.2 hi)
      simp only [Bool.and_eq_true] at h1
      have := ready_mem hL hi hni (fun e he => by
        have helt : e < i := by simpa using List.all_eq_true.1 h1.1 e he
        exact ih e helt (by omega))
      rw [h] at this
      cases this

theorem operand_reads {ops : Array Oper} {o : Oper} {ρ ρ' : Env} (h : ∀ s ∈ o.looksAt ops, ρ.get s = ρ'.get s) : ∀ x ∈ o.op.operands, ev ρ x = ev ρ' x := by
  intro x hx
  cases x with
  | tmp t => exact h t (List.mem_append_left _ (List.mem_filterMap.2 ⟨.tmp t, by simpa using hx, rfl⟩))
  | const v => rfl
  | global v => rfl
  | func f => rfl

theorem guard_reads {ops : Array Oper} {o : Oper} {j : Nat} {want : Bool} (hg : o.guard = some (j, want)) {s : Nat} (hs : (ops[j]?).bind (·.dst) = some s) : s ∈ o.looksAt ops := by
  unfold Oper.looksAt
  rw [hg]
  simp [hs]

/-- An environment that knows just some slots. -/
def envOn (ρ : Env) (l : List Nat) : Env := l.map fun s => (s, ρ.get s)
theorem envOn_get (ρ : Env) : ∀ (l : List Nat) (s : Nat), (envOn ρ l).get s = if s ∈ l then ρ.get s else .any
  | [], s => by simp [envOn, Env.get]
  | a :: l, s => by
    have ih := envOn_get ρ l s
    unfold envOn at ih ⊢
    simp only [List.map_cons, Env.get, ih, List.mem_cons]
    by_cases h : s = a
    · subst h; simp
    · simp [h]

theorem put_defers' (a : Act) (d : Option Tmp) (v : Value) : (a.put d v).defers = a.defers := by cases d <;> rfl
theorem put_size (a : Act) (d : Option Tmp) (v : Value) : (a.put d v).tmps.size = a.tmps.size := by cases d <;> simp [Act.put]
theorem put_getD {a : Act} {n : Nat} (hn : a.tmps.size = n) {d : Option Tmp} (hd : dstOk n d = true) (v : Value) (s : Nat) : (a.put d v).tmps.getD s undef = if d = some s then v else a.tmps.getD s undef := by
  cases d with
  | none => simp [Act.put]
  | some d =>
    have hd' : d < n := by simpa [dstOk] using hd
    simp only [Act.put, Option.some.injEq]
    rw [Array.getD_eq_getD_getElem?, Array.getElem?_setIfInBounds]
    by_cases h : d = s
    · subst h; simp [hn, hd']
    · rw [if_neg h, if_neg h, ← Array.getD_eq_getD_getElem?]


/-- The ghost states in a region: what is kept for objects to come may turn. -/
structure LeX (g g' : Gh) : Prop where
  w0 : g'.w0 = g.w0
  imm : ∀ b o v, g.imm b o = some v → g'.imm b o = some v
  loc : ∀ o x, g.loc o = some x → g'.loc o = some x
  tipv : ∀ o n v, g.tipv o n = some v → g'.tipv o n = some v
theorem LeX.then {a b c : Gh} (h : LeX a b) (k : b.Le c) : LeX a c :=
  ⟨k.w0.trans h.w0, fun _ _ _ x => k.imm _ _ _ (h.imm _ _ _ x), fun _ _ x => k.loc _ _ (h.loc _ _ x), fun _ _ _ x => k.tipv _ _ _ (h.tipv _ _ _ x)⟩

def Gh.withRes (g : Gh) (r : Nat → Prop) : Gh := { g with res := r }
theorem R.withRes {g : Gh} (r : Nat → Prop) {x : AV} {v : Value} (h : R g x v) : R (g.withRes r) x v := by
  induction h with
  | any v => exact .any v
  | int k n => exact .int k n
  | bool b => exact .bool b
  | str s => exact .str s
  | agg hl h ih => exact .agg hl ih
  | tup hl h ih => exact .tup hl ih
  | slnil => exact .slnil
  | sl hk hs hu hi h ih =>
    rename_i k xs a cap sz vs
    refine .sl ?_ hs hu hi ih
    cases k <;> exact hk
  | nilp => exact .nilp
  | ip hs ho hi h ih => exact .ip hs ho hi ih
  | ptr hb => exact .ptr hb
  | ms hb hc hl ha => exact .ms hb hc hl ha
  | map hb => exact .map hb
  | nilmap => exact .nilmap
  | fn hl h ih => exact .fn hl ih
  | nilfn => exact .nilfn
  | ifc h ih => exact .ifc ih
  | nilifc => exact .nilifc

theorem ObAt.withRes {g : Gh} (r : Nat → Prop) {w : World} {o b : Nat} {x : Ob} (h : ObAt g w o b x) : ObAt (g.withRes r) w o b x := by
  cases x with
  | arr e rows =>
    obtain ⟨sz, cells, h1, h2, h3, h4, h5, h6⟩ := h
    exact ⟨sz, cells, h1, h2, h3, h4, fun i c v hc hv => (h5 i c v hc hv).withRes r, h6⟩
  | tip n e sz => exact h
  | map es =>
    obtain ⟨en, ck, h1, h2, h3, h4⟩ := h
    exact ⟨en, ck, h1, h2, h3, fun i kv e hk he => ⟨(h4 i kv e hk he).1.withRes r, (h4 i kv e hk he).2.withRes r⟩⟩

theorem Conc.withRes {g : Gh} {w : World} {s : Store} (h : Conc g w s) (r : Nat → Prop) (hf : ∃ N, ∀ o, N ≤ o → ¬ r o) (hr : ∀ o, r o → g.loc o = none ∧ (∀ m, g.tipv o m = none) ∧ s o = none) : Conc (g.withRes r) w s := by
  obtain ⟨N, hN⟩ := h.fresh
  obtain ⟨M, hM⟩ := hf
  obtain ⟨blk, h1, h2⟩ := h.obj
  refine ⟨h.below, h.imm, h.loc, ⟨max N M, fun o ho => ⟨(hN o (by omega)).1, (hN o (by omega)).2.1, (hN o (by omega)).2.2.1, hM o (by omega)⟩⟩, hr, blk, fun o x hx => ⟨(h1 o x hx).1, (h1 o x hx).2.withRes r⟩, h2⟩

/-- Where there are late stores, all memory but what they write stays. -/
theorem late_off {P : Program} {n : Nat} {mu : List Nat} {c : Cl} {nu : Nat → Nat} {ops : Array Oper} {A : List (List Nat)} {ρs : Nat → Env} {sts : Nat → Store} {vals : Nat → AV} {zs : Nat → Ob}
    (hA : ancOk ops A = true) (hp : pairOk c ops A = true)
    (ht : ∀ j o, ops[j]? = some o → TStep P n mu c nu ops j o (ρs j) (ρs (j + 1)) (sts j) (sts (j + 1)) (vals j) (zs j))
    (hl : c.lt.isEmpty = false) (hal : c.al = []) (hapw : ∀ m, c.wr.contains m = false → c.ap.contains m = false) (hfi : c.fin = []) (hlo : ∃ x, sts 0 c.lo = some x)
    {L : Array Bool} (hL : L.size = ops.size) (hd : Down ops L) {i : Nat} {o : Oper} (ho : ops[i]? = some o) (hni : L.getD i false = false) (hr : ∀ e ∈ edgesOf ops i, L.getD e false = true) (htq : c.tq.contains i = true) :
    ∃ x, (sts i).put c.lo x = stAt c nu zs sts L ops.size := by
  have hi : i < ops.size := (Array.getElem?_eq_some_iff.1 ho).1
  have put_some : ∀ {q : Nat} {s t : Store}, PutAt q s t → (∃ x, s c.lo = some x) → ∃ x, t c.lo = some x := fun {q s t} h hs => by
    rcases h with rfl | ⟨ob, rfl⟩
    · exact hs
    · simp only [Store.put]
      split
      · exact ⟨_, rfl⟩
      · exact hs
  have put_off : ∀ {s t : Store}, PutAt c.lo s t → ∀ q, q ≠ c.lo → t q = s q := fun {s t} h q hq => by
    rcases h with rfl | ⟨ob, rfl⟩
    · rfl
    · simp only [Store.put, if_neg hq]
  have step : ∀ m, m < ops.size → (c.wr.contains m = true → ∃ q, PutAt q (sts m) (sts (m + 1)) ∧ (c.lt.contains m = true → q = c.lo)) ∧ (c.wr.contains m = false → sts (m + 1) = sts m) := fun m hm => by
    have hom : ops[m]? = some ops[m] := by simp [hm]
    have hst := ht m _ hom
    have h1 : c.al.contains m = false := by rw [hal]; rfl
    have h3 : c.fin.contains m = false := by rw [hfi]; rfl
    exact ⟨hst.late hl h1 h3, fun hw => hst.keep h1 (hapw m hw) hw⟩
  have hsome : ∀ m, m ≤ ops.size → ∃ x, sts m c.lo = some x := by
    intro m
    induction m with
    | zero => intro _; exact hlo
    | succ m ih =>
      intro hm
      cases hw : c.wr.contains m with
      | true =>
        obtain ⟨q, h1, _⟩ := (step m (by omega)).1 hw
        exact put_some h1 (ih (by omega))
      | false => rw [(step m (by omega)).2 hw]; exact ih (by omega)
  have cl1 : ∀ m, c.wr.contains m = true → c.lt.contains m = false → c.clash m i = true ∧ c.clash i m = true := fun m h1 h2 => by
    simp only [Cl.clash, h1, h2, htq, Bool.not_false, Bool.true_and, Bool.and_true, Bool.or_true, Bool.true_or]
    simp
  have cl2 : ∀ m k, c.wr.contains m = true → c.wr.contains k = true → c.clash m k = true := fun m k h1 h2 => by
    simp only [Cl.clash, h1, h2, Bool.true_and, Bool.and_true, Bool.or_true, Bool.true_or]
  -- writes ahead that aren't late have run; writes behind that have run are late
  have before : ∀ m, m < i → c.wr.contains m = true → c.lt.contains m = false → L.getD m false = true := fun m hm h1 h2 => by
    have hom : ops[m]? = some (ops[m]'(by omega)) := by simp [show m < ops.size by omega]
    rcases pair_spec hp hm hom ho with h | ⟨_, h⟩
    · exact ready_anc hA hL hd hi hr h
    · rw [(cl1 m h1 h2).1] at h; cases h
  have behind : ∀ m, i < m → m < ops.size → c.wr.contains m = true → L.getD m false = true → c.lt.contains m = true := fun m hm hms h1 h2 => by
    have hom : ops[m]? = some ops[m] := by simp [hms]
    cases h3 : c.lt.contains m with
    | true => rfl
    | false =>
      rcases pair_spec hp hm ho hom with h | ⟨_, h⟩
      · have := down_anc hA hL hd m i h2 h
        rw [hni] at this; cases this
      · rw [(cl1 m h1 h3).2] at h; cases h
  have chain : ∀ m k, k < m → m < ops.size → c.wr.contains k = true → c.wr.contains m = true → L.getD m false = true → L.getD k false = true := fun m k hk hms h1 h2 h3 => by
    have hom : ops[m]? = some ops[m] := by simp [hms]
    have hok : ops[k]? = some (ops[k]'(by omega)) := by simp [show k < ops.size by omega]
    rcases pair_spec hp hk hok hom with h | ⟨_, h⟩
    · exact down_anc hA hL hd m k h3 h
    · rw [cl2 k m h1 h2] at h; cases h
  have reach : ∀ m, m < ops.size → c.wr.contains m = true → L.getD m false = true → ∀ k, i ≤ k → k ≤ m + 1 → ∀ q, q ≠ c.lo → sts k q = sts i q := by
    intro m hm hw hLm k hik
    induction k with
    | zero => intro _ q _; rw [show i = 0 by omega]
    | succ k ih =>
      intro hkm q hq
      by_cases hki : k + 1 = i
      · rw [hki]
      · have h1 := ih (by omega) (by omega) q hq
        rw [← h1]
        cases hwk : c.wr.contains k with
        | false => rw [(step k (by omega)).2 hwk]
        | true =>
          have hLk : L.getD k false = true := by
            by_cases e : k = m
            · rw [e]; exact hLm
            · exact chain m k (by omega) hm hwk hw hLm
          have hne : k ≠ i := fun e => by rw [e, hni] at hLk; cases hLk
          have hlt := behind k (by omega) (by omega) hwk hLk
          obtain ⟨r, h2, h3⟩ := (step k (by omega)).1 hwk
          rw [h3 hlt] at h2
          exact put_off h2 q hq
  have key : ∀ m, m ≤ ops.size → (∃ x, stAt c nu zs sts L m c.lo = some x) ∧ ∀ q, q ≠ c.lo → stAt c nu zs sts L m q = sts (if m ≤ i then m else i) q := by
    intro m
    induction m with
    | zero => intro _; exact ⟨hlo, fun q _ => by simp [stAt]⟩
    | succ m ih =>
      intro hm
      obtain ⟨ih1, ih2⟩ := ih (by omega)
      rw [stAt]
      split
      · rename_i hc
        obtain ⟨hc1, hc2⟩ := hc
        refine ⟨hsome (m + 1) hm, fun q hq => ?_⟩
        split
        · rfl
        · exact reach m (by omega) hc2 hc1 (m + 1) (by omega) (Nat.le_refl _) q hq
      · rename_i hc
        rw [if_neg (by rw [hal]; simp)]
        refine ⟨ih1, fun q hq => ?_⟩
        rw [ih2 q hq]
        by_cases hmi : m + 1 ≤ i
        · rw [if_pos hmi, if_pos (by omega)]
          cases hw : c.wr.contains m with
          | false => rw [(step m (by omega)).2 hw]
          | true =>
            cases hlt : c.lt.contains m with
            | false => exact absurd ⟨before m (by omega) hw hlt, hw⟩ hc
            | true =>
              obtain ⟨r, h2, h3⟩ := (step m (by omega)).1 hw
              rw [h3 hlt] at h2
              exact (put_off h2 q hq).symm
        · rw [if_neg hmi]
          split
          · rw [show m = i by omega]
          · rfl
  obtain ⟨⟨x, hx⟩, h2⟩ := key ops.size (Nat.le_refl _)
  refine ⟨x, ?_⟩
  funext q
  simp only [Store.put]
  split
  · rename_i e; rw [e, hx]
  · rename_i e; rw [h2 q e, if_neg (by omega)]

theorem W_region_gen {P : Program} {n : Nat} (mu : List Nat) (c : Cl) {id : Nat} {ops : Array Oper} {Q : Post} {ρ : Env} {σ : Store} (hm : P.follows .mixedOrders = true) (hok : regOkL c ops = true)
    (hlate : c.lt.isEmpty = true ∨ (c.lt.isEmpty = false ∧ c.al = [] ∧ c.fin = [] ∧ ∃ x, σ c.lo = some x))
    (h : ∀ nu : Nat → Nat, (∀ i, i ∈ c.al ++ c.ap → σ (nu i) = none) → (∀ i j, i ∈ c.al ++ c.ap → j ∈ c.al ++ c.ap → nu i = nu j → i = j) → drun P n mu c nu ops ops.toList 0 ρ σ (Hold (fun ρ' σ' => Q .normal ρ' σ') .mk)) : W P n (.region id ops true) Q ρ σ := by
  simp only [regOkL, Bool.and_eq_true] at hok
  obtain ⟨⟨⟨⟨hA, hp⟩, hal⟩, hap⟩, hfin⟩ := hok
  have hfno : ∀ i, c.fin.contains i = true → i + 1 = ops.size ∧ c.wr.contains i = true ∧ c.al.contains i = false ∧ c.ap.contains i = false ∧ (∀ j, j < i → j ∈ (mkAnc ops).getD i []) ∧ ∀ o, ops[i]? = some o → o.guard = none := by
    intro i hi
    have h1 := List.all_eq_true.1 hfin i (List.contains_iff_mem.1 hi)
    simp only [Bool.and_eq_true, decide_eq_true_eq] at h1
    obtain ⟨⟨⟨⟨⟨h2, h3⟩, h4⟩, h5⟩, h6⟩, h7⟩ := h1
    refine ⟨h2, h3, by simpa using h4, by simpa using h5, fun j hj => List.contains_iff_mem.1 (List.all_eq_true.1 h6 j (List.mem_range.2 hj)), fun o' ho' => ?_⟩
    rw [ho'] at h7
    simpa using h7
  have hapo : ∀ i, c.ap.contains i = true → i < ops.size ∧ c.wr.contains i = true ∧ c.al.contains i = false ∧ ∀ o, ops[i]? = some o → o.guard = none := by
    intro i hi
    have h1 := List.all_eq_true.1 hap i (List.contains_iff_mem.1 hi)
    simp only [Bool.and_eq_true] at h1
    obtain ⟨⟨h2, h3⟩, h4⟩ := h1
    cases ho : ops[i]? with
    | none => rw [ho] at h4; cases h4
    | some o =>
      rw [ho] at h4
      refine ⟨(Array.getElem?_eq_some_iff.1 ho).1, h2, by simpa using h3, fun o' ho' => ?_⟩
      injection ho' with ho'
      subst ho'
      simpa using h4
  have hapw : ∀ m, c.wr.contains m = false → c.ap.contains m = false := fun m hm => by
    cases h : c.ap.contains m with
    | false => rfl
    | true => have := (hapo m h).2.1; rw [hm] at this; cases this
  have halo : ∀ i, c.al.contains i = true → i < ops.size ∧ c.wr.contains i = false ∧ c.tq.contains i = false ∧ ∀ o, ops[i]? = some o → o.guard = none := by
    intro i hi
    have h1 := List.all_eq_true.1 hal i (List.contains_iff_mem.1 hi)
    simp only [Bool.and_eq_true] at h1
    obtain ⟨⟨h2, h3⟩, h4⟩ := h1
    cases ho : ops[i]? with
    | none => rw [ho] at h4; cases h4
    | some o =>
      rw [ho] at h4
      refine ⟨(Array.getElem?_eq_some_iff.1 ho).1, by simpa using h2, by simpa using h3, fun o' ho' => ?_⟩
      injection ho' with ho'
      subst ho'
      simpa using h4
  intro g a w hd he hc
  obtain ⟨N, hN⟩ := hc.fresh
  obtain ⟨nu, hnu⟩ : ∃ nu : Nat → Nat, nu = fun i => N + i := ⟨_, rfl⟩
  have hnuN : ∀ i, N ≤ nu i := fun i => by rw [hnu]; exact Nat.le_add_right _ _
  have hnui : ∀ i j, nu i = nu j → i = j := fun i j e => by rw [hnu] at e; simp only at e; omega
  have hdr := h nu (fun i _ => (hN _ (hnuN i)).2.2.1) (fun i j _ _ e => hnui i j e)
  obtain ⟨ρs, sts, vals, zs, e1, e2, ht, hK, hKf⟩ : ∃ (ρs : Nat → Env) (sts : Nat → Store) (vals : Nat → AV) (zs : Nat → Ob), ρs 0 = ρ ∧ sts 0 = σ ∧
      (∀ j o, ops[j]? = some o → TStep P n mu c nu ops j o (ρs j) (ρs (j + 1)) (sts j) (sts (j + 1)) (vals j) (zs j)) ∧ ((∀ i, c.fin.contains i = false) → Q .normal (ρs ops.size) (sts ops.size)) ∧
      (∀ i o, c.fin.contains i = true → ops[i]? = some o → OpSem P mu o (ρs i) (sts i) (fun v s' => Q .normal ((ρs i).putO o.dst v) s')) := by
    by_cases hex : ∃ i, c.fin.contains i = true
    · obtain ⟨f, hf⟩ := hex
      obtain ⟨f1, f2, f3, f4, f5, f6⟩ := hfno f hf
      have hfl : f < ops.size := by omega
      have huni : ∀ j, c.fin.contains j = true → j = f := fun j hj => by have := (hfno j hj).1; omega
      have hlt : ∀ j, j < f → c.fin.contains j = false := fun j hj => by
        cases q : c.fin.contains j with
        | false => rfl
        | true => have := huni j q; omega
      have hsplit : ops.toList = ops.toList.take f ++ [ops[f]] := by
        have h1 := List.take_append_drop f ops.toList
        rw [List.drop_eq_getElem_cons (by simpa using hfl), List.drop_eq_nil_of_le (by simp; omega)] at h1
        rw [← Array.getElem_toList hfl]
        exact h1.symm
      have htl : (ops.toList.take f).length = f := by rw [List.length_take]; simp; omega
      rw [hsplit] at hdr
      have h1 := drun_append (ops.toList.take f) 0 ρ σ (fun j hj => by rw [Nat.zero_add]; exact hlt j (by omega)) hdr
      obtain ⟨ρs, sts, vals, zs, e1, e2, ht', hK'⟩ := drun_trace _ _ _ _ (fun j hj => by rw [Nat.zero_add]; exact hlt j (by omega)) h1
      rw [htl] at hK'
      obtain ⟨hdst, hK2⟩ := hK'
      rw [Nat.zero_add, if_neg (by rw [f3]; simp), if_neg (by rw [f4]; simp), if_pos hf] at hK2
      refine ⟨fun j => if j ≤ f then ρs j else (ρs f).putO ops[f].dst .any, fun j => if j ≤ f then sts j else sts f, fun j => if j < f then vals j else .any, zs, by simp [e1], by simp [e2], fun j o ho => ?_, (fun hh => by have := hh f; rw [hf] at this; cases this), fun i o hi ho => ?_⟩
      · have hj : j < ops.size := (Array.getElem?_eq_some_iff.1 ho).1
        by_cases hjf : j < f
        · have := ht' j o (by rw [List.getElem?_take, if_pos hjf]; simpa using ho)
          rw [Nat.zero_add] at this
          simp only [if_pos (show j ≤ f by omega), if_pos (show j + 1 ≤ f by omega), if_pos hjf]
          exact this
        · have hje : j = f := by omega
          subst hje
          have hoe : o = ops[j] := by rw [Array.getElem?_eq_getElem hj] at ho; injection ho with ho; exact ho.symm
          subst hoe
          simp only [if_pos (Nat.le_refl j), if_neg (show ¬ j + 1 ≤ j by omega), if_neg (Nat.lt_irrefl j)]
          exact ⟨rfl, hdst, (fun e => absurd (f3.symm.trans e) (by decide)), (fun e => absurd (f4.symm.trans e) (by decide)), (fun _ _ e => absurd (hf.symm.trans e) (by decide)), (fun _ _ e => absurd (f2.symm.trans e) (by decide)), (fun _ _ e => absurd (hf.symm.trans e) (by decide)), (fun _ _ _ e => absurd (hf.symm.trans e) (by decide))⟩
      · have hie := huni i hi
        subst hie
        have hoe : o = ops[i] := by rw [Array.getElem?_eq_getElem hfl] at ho; injection ho with ho; exact ho.symm
        subst hoe
        simp only [if_pos (Nat.le_refl i)]
        exact hK2
    · have hnf : ∀ i, c.fin.contains i = false := fun i => by
        cases q : c.fin.contains i with
        | false => rfl
        | true => exact absurd ⟨i, q⟩ hex
      obtain ⟨ρs, sts, vals, zs, e1, e2, ht', hK⟩ := drun_trace _ _ _ _ (fun j _ => hnf _) hdr
      rw [Array.length_toList] at hK
      exact ⟨ρs, sts, vals, zs, e1, e2, fun j o ho => by
        have := ht' j o (by simpa using ho)
        rwa [Nat.zero_add] at this, fun _ => hK, fun i o hi => by rw [hnf i] at hi; cases hi⟩
  subst e1; subst e2
  refine wp_region_any hm ?_
  -- what is kept while a part has run
  have inv : ∃ Inv : Array Bool → Act → World → Prop, (Inv = fun L a w => a.defers = [] ∧ a.tmps.size = n ∧ ∃ g', LeX g g' ∧ Conc g' w (stAt c nu zs sts L ops.size) ∧ (∀ s, R g' (envAt ops vals (ρs 0) L ops.size s) (a.tmps.getD s undef)) ∧
      ∀ p, g'.res p ↔ (g.res p ∨ ∃ m, (c.al.contains m = true ∨ c.ap.contains m = true) ∧ L.getD m false = false ∧ p = nu m)) := ⟨_, rfl⟩
  obtain ⟨Inv, hInv⟩ := inv
  have fin : ∀ (L : Array Bool) (a : Act) (w : World), (∀ i, c.fin.contains i = false) → L.size = ops.size → (∀ i, i < ops.size → L.getD i false = true) → Inv L a w → Lift g n Q .normal a w := by
    intro L a w hnf hL hall hi
    rw [hInv] at hi
    obtain ⟨hd, hs, g', hle, hc, hr, hres⟩ := hi
    have he : ∀ m, m ≤ ops.size → ∀ s, envAt ops vals (ρs 0) L m s = (ρs m).get s := by
      intro m
      induction m with
      | zero => intro _ s; rfl
      | succ m ih =>
        intro hm s
        rw [text_env ht m s (by omega), envAt, ih (by omega) s, hall m (by omega)]
        simp
    have hst : ∀ m, m ≤ ops.size → stAt c nu zs sts L m = sts m := by
      intro m
      induction m with
      | zero => intro _; rfl
      | succ m ih =>
        intro hm
        have hom : ops[m]? = some (ops[m]'(by omega)) := by simp [show m < ops.size by omega]
        rw [stAt, ih (by omega), hall m (by omega)]
        cases ha : c.al.contains m with
        | true =>
          rw [(halo m ha).2.1]
          simp only [Bool.false_eq_true, and_false, if_false, and_self, if_true]
          exact ((ht m _ hom).al ha).2.1.symm
        | false =>
          cases hw : c.wr.contains m with
          | true => simp
          | false =>
            rw [(ht m _ hom).keep ha (hapw m hw) hw]; simp
    rw [hst _ (Nat.le_refl _)] at hc
    refine ⟨hd, g'.withRes g.res, ρs ops.size, sts ops.size, ⟨hle.w0, hle.imm, hle.loc, hle.tipv, rfl⟩, ⟨hs, fun s => ?_⟩, hc.withRes g.res ⟨N, fun o ho => (hN o ho).2.2.2⟩ (fun o ho => hc.res o ((hres o).2 (.inl ho))), hK hnf⟩
    rw [← he _ (Nat.le_refl _)]; exact (hr s).withRes _
  have main : ∀ (fuel : Nat) (L : Array Bool) (a : Act) (w : World), left ops L ≤ fuel → L.size = ops.size → Down ops L → (∀ i, c.fin.contains i = true → L.getD i false = false) → Inv L a w → wpAny P .any ops (Lift g n Q) fuel L a w := by
    have nofin : ∀ {L : Array Bool}, (∀ i, c.fin.contains i = true → L.getD i false = false) → (∀ i, i < ops.size → L.getD i false = true) → ∀ i, c.fin.contains i = false := fun hnf hall i => by
      cases q : c.fin.contains i with
      | false => rfl
      | true => have h1 := hnf i q; rw [hall i (by have := (hfno i q).1; omega)] at h1; cases h1
    intro fuel
    induction fuel with
    | zero =>
      intro L a w hlf hL hdn hlf2 hinv
      have hall := left_zero (Nat.le_zero.1 hlf)
      refine ⟨?_, fin L a w (nofin hlf2 hall) hL hall hinv⟩
      cases hr : Region.ready .any ops L with
      | nil => rfl
      | cons i r =>
        have hi := ready_iff hL (i := i) (by rw [hr]; exact List.mem_cons_self)
        rw [hall i hi.1] at hi
        exact absurd hi.2.1 (by simp)
    | succ fuel ih =>
      intro L a w hlf hL hdn hlf2 hinv
      refine ⟨fun hr => fin L a w (nofin hlf2 (ready_nil hA hL hr)) hL (ready_nil hA hL hr) hinv, fun i hi => ?_⟩
      obtain ⟨hlt, hni, hre⟩ := ready_iff hL hi
      obtain ⟨o, ho⟩ : ∃ o, ops[i]? = some o := ⟨ops[i], by simp [hlt]⟩
      have hst := ht i o ho
      have hinv0 := hinv
      rw [hInv] at hinv
      obtain ⟨hd, hs, g', hle, hc', hr', hres⟩ := hinv
      cases hfi : c.fin.contains i with
      | true =>
        obtain ⟨f1, f2, f3, f4, f5, f6⟩ := hfno i hfi
        have hall : ∀ j, j < i → L.getD j false = true := fun j hj => ready_anc hA hL hdn hlt hre (f5 j hj)
        have henv : ∀ m, m ≤ i → ∀ s, envAt ops vals (ρs 0) L m s = (ρs m).get s := by
          intro m
          induction m with
          | zero => intro _ s; rfl
          | succ m ihm =>
            intro hm s
            rw [text_env ht m s (by omega), envAt, ihm (by omega) s, hall m (by omega)]
            simp
        have henv2 : ∀ s, envAt ops vals (ρs 0) L ops.size s = (ρs i).get s := fun s => by
          rw [← f1, envAt, hni]
          simp only [Bool.false_eq_true, false_and, if_false]
          exact henv i (Nat.le_refl _) s
        have hRE : RE g' n (ρs i) a.tmps := ⟨hs, fun s => by rw [← henv2]; exact hr' s⟩
        have hstE := store_same hapw hA hp ht hL hdn ho hni hre (.inl f2) ops.size (Nat.le_refl _)
        rw [if_neg (by omega)] at hstE
        rw [hstE] at hc'
        have hsem := hKf i o hfi ho
        unfold wpOp
        rw [ho]
        simp only
        have hwant : Region.wanted o (yielded ops a.tmps) = true := by simp [Region.wanted, f6 o ho]
        rw [hwant, if_pos rfl]
        refine .inl ?_
        refine (OpSem_sound hsem hRE hc').wp ?_
        rintro v w' ⟨g2, x, σ', h1, h2, h3, h4⟩
        have hlift : Lift g n Q .normal (a.put o.dst v) w' := by
          refine ⟨by rw [put_defers']; exact hd, g2.withRes g.res, _, σ', ⟨h1.w0.trans hle.w0, fun b o v hx => h1.imm _ _ _ (hle.imm _ _ _ hx), fun o x hx => h1.loc _ _ (hle.loc _ _ hx), fun o n v hx => h1.tipv _ _ _ (hle.tipv _ _ _ hx), rfl⟩, ?_, ?_, h4⟩
          · have hput := (hRE.le h1).put hst.dst h3
            exact ⟨hput.size, fun s => (hput.get s).withRes _⟩
          · exact h2.withRes g.res ⟨N, fun o ho => (hN o ho).2.2.2⟩ (fun o ho => h2.res o (by rw [h1.res]; exact (hres o).2 (.inl ho)))
        have hL' : (L.setIfInBounds i true).size = ops.size := by simp [hL]
        have hall' : ∀ j, j < ops.size → (L.setIfInBounds i true).getD j false = true := fun j hj => by
          rw [getD_set (by omega)]
          split
          · rfl
          · exact hall j (by omega)
        have hrn : Region.ready .any ops (L.setIfInBounds i true) = [] := by
          cases hr : Region.ready .any ops (L.setIfInBounds i true) with
          | nil => rfl
          | cons j r =>
            have hj := ready_iff hL' (i := j) (by rw [hr]; exact List.mem_cons_self)
            rw [hall' j hj.1] at hj
            exact absurd hj.2.1 (by simp)
        cases fuel with
        | zero => exact ⟨hrn, hlift⟩
        | succ fuel => exact ⟨fun _ => hlift, fun j hj => by rw [hrn] at hj; cases hj⟩
      | false =>
      have next : ∀ (v : Value) (w' : World) (g2 : Gh), LeX g g2 → Conc g2 w' (stNext c nu zs sts i (stAt c nu zs sts L ops.size)) → R g2 (vals i) v → (∀ x u, R g' x u → R g2 x u) →
          (∀ p, g2.res p ↔ (g'.res p ∧ ¬ ((c.al.contains i = true ∨ c.ap.contains i = true) ∧ p = nu i))) → wpAny P .any ops (Lift g n Q) fuel (L.setIfInBounds i true) (a.put o.dst v) w' := by
        intro v w' g2 hle2 hc2 hv hRR hres2
        have hL' : (L.setIfInBounds i true).size = ops.size := by simp [hL]
        refine ih _ _ _ (by have := left_set hL hlt hni; omega) hL' ?_ (fun j hj => ?_) ?_
        · intro q hq e he
          rw [getD_set (by omega)] at hq ⊢
          by_cases hei : e = i
          · rw [if_pos hei]
          · rw [if_neg hei]
            by_cases hqi : q = i
            · subst hqi; exact hre e he
            · rw [if_neg hqi] at hq; exact hdn q hq e he
        · rw [getD_set (by omega), if_neg (fun e => by rw [← e, hj] at hfi; cases hfi)]
          exact hlf2 j hj
        · rw [hInv]
          refine ⟨by rw [put_defers']; exact hd, by rw [put_size]; exact hs, g2, hle2, ?_, fun s => ?_, fun p => ?_⟩
          · rw [st_set hapw hA hp ht (fun i j _ _ e => hnui i j e) hL hdn ho hni ops.size (Nat.le_refl _), if_pos hlt]; exact hc2
          · rw [env_set hapw hA hp ht hL hdn ho hni s ops.size (Nat.le_refl _), put_getD hs hst.dst]
            by_cases hds : o.dst = some s
            · rw [if_pos ⟨hlt, hds⟩, if_pos hds]; exact hv
            · rw [if_neg (fun h => hds h.2), if_neg hds]; exact hRR _ _ (hr' s)
          · rw [hres2 p, hres p]
            constructor
            · rintro ⟨h1 | ⟨m, h1, h2, rfl⟩, h3⟩
              · exact .inl h1
              · refine .inr ⟨m, h1, ?_, rfl⟩
                rw [getD_set (by omega), if_neg (fun e => h3 ⟨by rw [← e]; exact h1, by rw [e]⟩)]; exact h2
            · rintro (h1 | ⟨m, h1, h2, rfl⟩)
              · refine ⟨.inl h1, fun hh => ?_⟩
                have := (hN (nu i) (hnuN i)).2.2.2
                rw [hh.2] at h1; exact this h1
              · rw [getD_set (by omega)] at h2
                split at h2
                · cases h2
                · rename_i hmi
                  exact ⟨.inr ⟨m, h1, h2, rfl⟩, fun hh => hmi (hnui _ _ hh.2)⟩
      unfold wpOp
      rw [ho]
      simp only
      cases ha : c.al.contains i with
      | true =>
        obtain ⟨_, hnw, _, hgn⟩ := halo i ha
        obtain ⟨h1, h2, h3⟩ := hst.al ha
        have hwant : Region.wanted o (yielded ops a.tmps) = true := by simp [Region.wanted, hgn o ho]
        rw [hwant, if_pos rfl]
        refine .inl ?_
        have hri : g'.res (nu i) := (hres _).2 (.inr ⟨i, .inl ha, hni, rfl⟩)
        have hf := hc'.res _ hri
        unfold allocN at h1
        split at h1
        · rename_i t hop
          obtain ⟨hok, h1⟩ := h1
          split at h1
          · rename_i z hz
            obtain ⟨hkn, _, h1⟩ := h1
            obtain ⟨zv, hzv, hzr, _⟩ := run_zero' hok hz w
            have hrun : (execOp a.eval o).run P w = .ok (.value (.pointer (some ⟨w.heap.size, 0, none⟩))) (w.alloc (.cells zv.cells t)) := by
              have : o = ⟨o.dst, .alloc t, o.type, o.pos, o.after, o.guard⟩ := by cases o; simp only at hop; rw [hop]
              rw [this]
              simp [execOp, Instr.alloc, hzv, newVar, newRow]
            -- the number is free again
            have hcf := hc'.withRes (fun p => g'.res p ∧ p ≠ nu i) (by
              obtain ⟨M, hM⟩ := hc'.fresh
              exact ⟨M, fun o ho h => (hM o ho).2.2.2 h.1⟩) (fun o ho => hc'.res o ho.1)
            obtain ⟨c1, c2⟩ := (hzr (g'.withRes fun p => g'.res p ∧ p ≠ nu i)).cells hkn
            have hcc := hcf.addObj (w' := w.alloc (.cells zv.cells t)) (Below.alloc (Below.refl _ _) (Nat.le_refl _) _) (by simp) (nu i) hf.1 hf.2.2 hf.2.1 (fun h => h.2 rfl) (.arr t [z]) z.cells.length 1 (fun g3 hle3 hl3 him3 =>
              ⟨z.cells.length, zv.cells, ⟨1, hl3, by simp [c1]⟩, heap_alloc_new w _, fun r hr => by rw [List.mem_singleton.1 hr], by simp [c1], fun q cc u hci hui => by
                rw [cellsL_one] at hci
                exact (c2 q cc u hci hui).le hle3, him3⟩)
            have hle2 := Gh.Le_addLoc (g := g'.withRes fun p => g'.res p ∧ p ≠ nu i) (w.heap.size, z.cells.length, 1) (o := nu i) hf.1
            unfold Oper.wp
            rw [hrun]
            refine next _ _ _ ⟨hle2.w0.trans hle.w0, fun b o v hx => hle2.imm _ _ _ (hle.imm _ _ _ hx), fun o x hx => hle2.loc _ _ (hle.loc _ _ hx), fun o n v hx => hle2.tipv _ _ _ (hle.tipv _ _ _ hx)⟩ ?_ ?_ (fun x u hx => (hx.withRes _).le hle2) (fun p => ?_)
            · simp only [stNext, hnw, ha, Bool.false_eq_true, if_false, if_true]
              rw [← h1]
              exact hcc
            · rw [h3]
              have := R.ptr (g := (g'.withRes fun p => g'.res p ∧ p ≠ nu i).addLoc (nu i) (w.heap.size, z.cells.length, 1)) (o := nu i) (i := 0) (off := 0) (b := w.heap.size) (sz := z.cells.length) (n := 1) (by simp [Gh.addLoc])
              simpa using this
            · constructor
              · rintro ⟨q1, q2⟩; exact ⟨q1, fun hh => q2 hh.2⟩
              · rintro ⟨q1, q2⟩; exact ⟨q1, fun e => q2 ⟨.inl ha, e⟩⟩
          · exact h1.elim
        · exact h1.elim
      | false =>
        have hread : ∀ s ∈ o.looksAt ops, envAt ops vals (ρs 0) L ops.size s = (ρs i).get s := fun s hsm => by
          have := read_same hapw hA hp ht hL hdn ho hni hre hsm ops.size (Nat.le_refl _)
          rw [this]
          split
          · rename_i q; exact absurd q (by omega)
          · rfl
        have hRE : RE g' n (envOn (ρs i) (o.looksAt ops)) a.tmps := ⟨hs, fun s => by
          rw [envOn_get]
          split
          · rename_i hsm; rw [← hread s hsm]; exact hr' s
          · exact .any _⟩
        have hop : ∀ x ∈ o.op.operands, ev (ρs i) x = ev (envOn (ρs i) (o.looksAt ops)) x := operand_reads (ops := ops) fun s hsm => by rw [envOn_get, if_pos hsm]
        have hlook : (c.wr.contains i = true ∨ (c.tq.contains i = true ∧ c.lt.isEmpty = true)) → stAt c nu zs sts L ops.size = sts i := fun hlk => by
          have hss := store_same hapw hA hp ht hL hdn ho hni hre hlk ops.size (Nat.le_refl _)
          rw [if_neg (by omega)] at hss; exact hss
        cases hapi : c.ap.contains i with
        | true =>
          have hwi := (hapo i hapi).2.1
          have hwant : Region.wanted o (yielded ops a.tmps) = true := by simp [Region.wanted, (hapo i hapi).2.2.2 o ho]
          rw [hwant, if_pos rfl]
          refine .inl ?_
          have hri : g'.res (nu i) := (hres _).2 (.inr ⟨i, .inr hapi, hni, rfl⟩)
          have hf := hc'.res _ hri
          have hcf := hc'.withRes (fun p => g'.res p ∧ p ≠ nu i) (by
            obtain ⟨M, hM⟩ := hc'.fresh
            exact ⟨M, fun o ho h => (hM o ho).2.2.2 h.1⟩) (fun o ho => hc'.res o ho.1)
          have hsem2 : apN P mu o (envOn (ρs i) (o.looksAt ops)) (stAt c nu zs sts L ops.size) (nu i) (fun v' s' => v' = vals i ∧ s' = stNext c nu zs sts i (stAt c nu zs sts L ops.size)) := by
            refine apN_congr hop ?_
            have hlk := Or.inl (b := c.tq.contains i = true ∧ c.lt.isEmpty = true) hwi
            have := hst.apn hapi ha
            rw [← hlook hlk] at this
            simp only [stNext, hwi, if_true]
            exact this
          have hRE2 : RE (g'.withRes fun p => g'.res p ∧ p ≠ nu i) n (envOn (ρs i) (o.looksAt ops)) a.tmps := ⟨hRE.size, fun s => (hRE.get s).withRes _⟩
          refine (apN_sound hsem2 hRE2 hcf hf.2.2 hf.1 hf.2.1 (fun h => h.2 rfl)).wp ?_
          rintro v w' ⟨g2, x, σ', h1, h2, h3, h4, h5⟩
          subst h4; subst h5
          refine next v w' g2 ⟨h1.w0.trans hle.w0, fun b o v hx => h1.imm _ _ _ (hle.imm _ _ _ hx), fun o x hx => h1.loc _ _ (hle.loc _ _ hx), fun o n v hx => h1.tipv _ _ _ (hle.tipv _ _ _ hx)⟩ h2 h3 (fun x u hx => (hx.withRes _).le h1) (fun p => ?_)
          rw [h1.res]
          constructor
          · rintro ⟨q1, q2⟩; exact ⟨q1, fun hh => q2 hh.2⟩
          · rintro ⟨q1, q2⟩; exact ⟨q1, fun e => q2 ⟨.inr hapi, e⟩⟩
        | false =>
        obtain ⟨b, hgd, hrun, hskip, hfree⟩ := hst.run ha hapi hfi
        have hnext : ∀ (v : Value) (w' : World) (g2 : Gh), g'.Le g2 → Conc g2 w' (stNext c nu zs sts i (stAt c nu zs sts L ops.size)) → R g2 (vals i) v → wpAny P .any ops (Lift g n Q) fuel (L.setIfInBounds i true) (a.put o.dst v) w' := by
          intro v w' g2 h1 h2 h3
          refine next v w' g2 (hle.then h1) h2 h3 (fun x u hx => hx.le h1) (fun p => ?_)
          rw [h1.res]
          constructor
          · intro q; exact ⟨q, fun hh => by rcases hh.1 with h | h; (rw [ha] at h; cases h); (rw [hapi] at h; cases h)⟩
          · exact fun q => q.1
        have hgs := guard_sound (k := fun c => c = b) (ops := ops) (ρ := envOn (ρs i) (o.looksAt ops)) (o := o) (g := g') (n := n) (t := a.tmps) (by
          unfold guardP at hgd ⊢
          cases hg : o.guard with
          | none => rw [hg] at hgd; exact hgd
          | some jw =>
            obtain ⟨j, want⟩ := jw
            rw [hg] at hgd
            simp only at hgd ⊢
            cases hdd : (ops[j]?).bind (·.dst) with
            | none => rw [hdd] at hgd; exact hgd
            | some s =>
              rw [hdd] at hgd
              simp only at hgd ⊢
              rw [envOn_get, if_pos (guard_reads hg hdd)]
              exact hgd) (fun _ _ _ s _ => hRE.get s)
        cases b with
        | true =>
          rw [hgs, if_pos rfl]
          refine .inl ?_
          have hsem2 : OpSem P mu o (envOn (ρs i) (o.looksAt ops)) (stAt c nu zs sts L ops.size) (fun v' s' => v' = vals i ∧ s' = stNext c nu zs sts i (stAt c nu zs sts L ops.size)) := by
            refine OpSem_congr hop ?_
            cases hw : c.wr.contains i with
            | true =>
              rw [hlook (.inl hw)]
              simp only [stNext, hw, if_true]
              exact hrun rfl
            | false =>
              simp only [stNext, hw, ha, Bool.false_eq_true, if_false]
              cases htq : c.tq.contains i with
              | true =>
                rcases hlate with hl0 | ⟨hl, q1, q3, hlo⟩
                · rw [hlook (.inr ⟨htq, hl0⟩)]
                  have := hrun rfl
                  rw [hst.keep ha hapi hw] at this
                  exact this
                · obtain ⟨x, hxy⟩ := late_off (nu := nu) (zs := zs) hA hp ht hl q1 hapw q3 hlo hL hdn ho hni hre htq
                  have hrb := hst.rob hl ha hapi hfi hw htq hgd x
                  rw [hxy] at hrb
                  exact hrb
              | false => exact hfree rfl hw htq _
          refine (OpSem_sound hsem2 hRE hc').wp ?_
          rintro v w' ⟨g2, x, σ', h1, h2, h3, h4, h5⟩
          subst h4; subst h5
          exact hnext v w' g2 h1 h2 h3
        | false =>
          rw [hgs, if_neg (by simp)]
          obtain ⟨hv, hk⟩ := hskip rfl
          refine hnext undef w g' (.refl g') ?_ (by rw [hv]; exact R_undef g')
          cases hw : c.wr.contains i with
          | true =>
            have := hlook (.inl hw)
            simp only [stNext, hw, if_true]
            rw [hk, ← this]; exact hc'
          | false =>
            simp only [stNext, hw, ha, Bool.false_eq_true, if_false]
            exact hc'
  refine main ops.size _ a _ ?_ (by simp) (fun i hi => ?_) (fun i _ => by simp [Array.getD]) ?_
  · unfold left
    exact Nat.le_trans (List.length_filter_le _ _) (by simp)
  · simp [Array.getD] at hi
  · have hst0 : ∀ m, stAt c nu zs sts (Array.replicate ops.size false) m = sts 0 := by
      intro m
      induction m with
      | zero => rfl
      | succ m ih => rw [stAt, ih, if_neg (by simp [Array.getD]), if_neg (by simp [Array.getD])]
    have hen0 : ∀ m s, envAt ops vals (ρs 0) (Array.replicate ops.size false) m s = (ρs 0).get s := by
      intro m s
      induction m with
      | zero => rfl
      | succ m ih => rw [envAt, ih, if_neg]; simp [Array.getD]
    rw [hInv]
    refine ⟨hd, he.size, g.withRes (fun p => g.res p ∨ ∃ m, (c.al.contains m = true ∨ c.ap.contains m = true) ∧ p = nu m), ⟨rfl, fun _ _ _ h => h, fun _ _ h => h, fun _ _ _ h => h⟩, ?_, fun s => ?_, fun p => ?_⟩
    · rw [hst0]
      refine hc.drew.withRes _ ⟨N + ops.size, fun o ho => ?_⟩ (fun o ho => ?_)
      · rintro (h1 | ⟨m, h1, h2⟩)
        · exact (hN o (by omega)).2.2.2 h1
        · have hm : m < ops.size := by rcases h1 with h1 | h1; exact (halo m h1).1; exact (hapo m h1).1
          rw [hnu] at h2; simp only at h2; omega
      · rcases ho with h1 | ⟨m, h1, rfl⟩
        · exact hc.res o h1
        · exact ⟨(hN _ (hnuN m)).1, (hN _ (hnuN m)).2.1, (hN _ (hnuN m)).2.2.1⟩
    · rw [hen0]
      exact (he.get s).withRes _
    · constructor
      · rintro (h1 | ⟨m, h1, h2⟩)
        · exact .inl h1
        · exact .inr ⟨m, h1, by simp [Array.getD], h2⟩
      · rintro (h1 | ⟨m, h1, _, h2⟩)
        · exact .inl h1
        · exact .inr ⟨m, h1, h2⟩

theorem W_region_any {P : Program} {n : Nat} (mu : List Nat) (c : Cl) {id : Nat} {ops : Array Oper} {Q : Post} {ρ : Env} {σ : Store} (hm : P.follows .mixedOrders = true) (hok : regOk c ops = true)
    (h : ∀ nu : Nat → Nat, (∀ i, i ∈ c.al ++ c.ap → σ (nu i) = none) → (∀ i j, i ∈ c.al ++ c.ap → j ∈ c.al ++ c.ap → nu i = nu j → i = j) → drun P n mu c nu ops ops.toList 0 ρ σ (Hold (fun ρ' σ' => Q .normal ρ' σ') .mk)) : W P n (.region id ops true) Q ρ σ := by
  simp only [regOk, Bool.and_eq_true] at hok
  exact W_region_gen mu c hm hok.2 (.inl hok.1) h
/-- With late stores into one object. -/
theorem W_region_late {P : Program} {n : Nat} (mu : List Nat) (c : Cl) {id : Nat} {ops : Array Oper} {Q : Post} {ρ : Env} {σ : Store} (hm : P.follows .mixedOrders = true) (hok : regOkLate c ops = true) (hlo : ∃ x, σ c.lo = some x)
    (h : ∀ nu : Nat → Nat, (∀ i, i ∈ c.al ++ c.ap → σ (nu i) = none) → (∀ i j, i ∈ c.al ++ c.ap → j ∈ c.al ++ c.ap → nu i = nu j → i = j) → drun P n mu c nu ops ops.toList 0 ρ σ (Hold (fun ρ' σ' => Q .normal ρ' σ') .mk)) : W P n (.region id ops true) Q ρ σ := by
  simp only [regOkLate, Bool.and_eq_true] at hok
  obtain ⟨⟨⟨⟨⟨h1, h2⟩, h4⟩, h5⟩, h5'⟩, h6⟩ := hok
  exact W_region_gen mu c hm h6 (.inr ⟨by simpa using h1, by simpa using h2, by simpa using h4, hlo⟩) h
end Go.Kern
