/- What the claim needs, part 1: KnA KnB KnC KnD KnE KnF KnG KnH KnI KnT KnJ KnK KnV KnX. Conditions: none. -/
import Derived.WalkKit
import Derived.Below
import Derived.Orders
import Derived.Deep.LoopGhost
import Derived.Maps.AppendAt
import Derived.Deep.AppendSrc
import Derived.KernelRfl
import Derived.MapKept
import Derived.Laws.CopyRow
import Derived.Laws.Cells
import Derived.Laws.Cover1
import Derived.Laws.DeepStrings4
import Derived.Great.BuildSlice
import Derived.Lib.Strings
import Derived.Carry
import Derived.ChangeKeysEq
import Derived.WideKeyRuns
import Derived.Laws.MakeOwn
import Derived.Lib.Builder
import Derived.Lib.UnsafeStr
import Derived.Laws.IdiomStrings
import Derived.Maps.RangeRun
set_option linter.unusedVariables false
set_option linter.unusedSimpArgs false
set_option linter.unusedSectionVars false
namespace Go.Kern
theorem zX.{u} {α : Sort u} {p : α → Prop} (w : α) (h : p w) : Exists p := Exists.intro w h
theorem zA {a b : Prop} (l : a) (r : b) : a ∧ b := And.intro l r
end Go.Kern
namespace Go.Kern
open Go.RowKit
universe u
inductive Tag {α : Sort u} (a : α) : Type where
  | mk
def Hold {α : Sort u} (a : α) (_ : Tag a) : α := a
inductive SK where
  | nil | imm | full
  | tip (o : Nat)
inductive AV where
  | any
  | int (k : IntKind) (n : Int)
  | bool (b : Bool)
  | str (s : ByteArray)
  | agg (cs : List AV)
  | tup (vs : List AV)
  | sl (k : SK) (xs : List AV)
  | nilp
  | ip (x : AV) (off : Nat)
  | ptr (o i off : Nat)
  | ms (o sz st len : Nat)
  | map (o : Nat)
  | nilmap
  | fn (f : FuncId) (caps : List AV)
  | nilfn
  | ifc (t : TypeId) (x : AV)
  | nilifc
instance : Inhabited AV := ⟨.any⟩
def AV.cells : AV → List AV
  | .agg cs => cs
  | v => [v]
def cellsL (xs : List AV) : List AV := xs.flatMap AV.cells
def AV.one : AV → Bool
  | .any | .agg _ | .tup _ => false
  | _ => true
def AV.known : AV → Bool
  | .any => false
  | _ => true
structure Gh where
  w0 : World
  imm : Nat → Nat → Option Value
  loc : Nat → Option (Nat × Nat × Nat)
  tipv : Nat → Nat → Option Value
  res : Nat → Prop
structure Gh.Le (g g' : Gh) : Prop where
  w0 : g'.w0 = g.w0
  imm : ∀ b o v, g.imm b o = some v → g'.imm b o = some v
  loc : ∀ o x, g.loc o = some x → g'.loc o = some x
  tipv : ∀ o n v, g.tipv o n = some v → g'.tipv o n = some v
  res : g'.res = g.res
theorem Gh.Le.refl (g : Gh) : g.Le g := ⟨rfl, fun _ _ _ h => h, fun _ _ h => h, fun _ _ _ h => h, rfl⟩
theorem Gh.Le.trans {a b c : Gh} (h : a.Le b) (k : b.Le c) : a.Le c :=
  ⟨k.w0.trans h.w0, fun _ _ _ x => k.imm _ _ _ (h.imm _ _ _ x), fun _ _ x => k.loc _ _ (h.loc _ _ x), fun _ _ _ x => k.tipv _ _ _ (h.tipv _ _ _ x), k.res.trans h.res⟩
def SKOk (g : Gh) (k : SK) (a : Addr) (n cap : Nat) : Prop :=
  match k with
  | .nil => False
  | .imm => n ≤ cap
  | .full => cap = n
  | .tip o => n ≤ cap ∧ g.tipv o n = some (.slice (some a) n cap)
inductive R (g : Gh) : AV → Value → Prop
  | any (v : Value) : R g .any v
  | int (k : IntKind) (n : Int) : R g (.int k n) (.int k n)
  | bool (b : Bool) : R g (.bool b) (.bool b)
  | str (s : ByteArray) : R g (.str s) (.string s)
  | agg {cs : List AV} {vs : Array Value} (hl : cs.length = vs.size) (h : ∀ (i : Nat) (c : AV) (v : Value), cs[i]? = some c → vs[i]? = some v → R g c v) : R g (.agg cs) (.agg vs)
  | tup {cs : List AV} {vs : Array Value} (hl : cs.length = vs.size) (h : ∀ (i : Nat) (c : AV) (v : Value), cs[i]? = some c → vs[i]? = some v → R g c v) : R g (.tup cs) (.tuple vs)
  | slnil : R g (.sl .nil []) (.slice none 0 0)
  | sl {k : SK} {xs : List AV} {a : Addr} {cap sz : Nat} {vs : Nat → Value} (hk : SKOk g k a xs.length cap) (hs : xs ≠ [] → a.spot = none)
      (hu : ∀ x, x ∈ xs → x.cells.length = sz)
      (hi : ∀ i, i < (cellsL xs).length → g.imm a.block (a.off + i) = some (vs i))
      (h : ∀ (i : Nat) (c : AV), (cellsL xs)[i]? = some c → R g c (vs i)) : R g (.sl k xs) (.slice (some a) xs.length cap)
  | nilp : R g .nilp (.pointer none)
  | ip {x : AV} {off base : Nat} {a : Addr} {vs : Nat → Value} (hs : a.spot = none) (ho : a.off = base + off)
      (hi : ∀ i, i < x.cells.length → g.imm a.block (base + i) = some (vs i))
      (h : ∀ (i : Nat) (c : AV), x.cells[i]? = some c → R g c (vs i)) : R g (.ip x off) (.pointer (some a))
  | ptr {o i off b sz n : Nat} (hb : g.loc o = some (b, sz, n)) : R g (.ptr o i off) (.pointer (some ⟨b, i * sz + off, none⟩))
  | ms {o st len b sz n cap : Nat} {a : Addr} (hb : g.loc o = some (b, sz, n)) (hc : st + cap ≤ n) (hl : len ≤ cap) (ha : 0 < cap → a = ⟨b, st * sz, none⟩) : R g (.ms o sz st len) (.slice (some a) len cap)
  | map {o b : Nat} (hb : g.loc o = some (b, 0, 0)) : R g (.map o) (.map (some b))
  | nilmap : R g .nilmap (.map none)
  | fn {f : FuncId} {cs : List AV} {vs : Array Value} (hl : cs.length = vs.size) (h : ∀ (i : Nat) (c : AV) (v : Value), cs[i]? = some c → vs[i]? = some v → R g c v) : R g (.fn f cs) (.func (.func f) #[] vs)
  | nilfn : R g .nilfn .nilFunc
  | ifc {t : TypeId} {x : AV} {v : Value} (h : R g x v) : R g (.ifc t x) (.iface t v)
  | nilifc : R g .nilifc .nilIface
theorem SKOk.le {g g' : Gh} (hle : g.Le g') {k : SK} {a : Addr} {n cap : Nat} (h : SKOk g k a n cap) : SKOk g' k a n cap := by
  cases k with
  | nil => exact h
  | imm => exact h
  | full => exact h
  | tip o => exact ⟨h.1, hle.tipv _ _ _ h.2⟩
theorem R.le {g g' : Gh} (hle : g.Le g') {x : AV} {v : Value} (h : R g x v) : R g' x v := by
  induction h with
  | any v => exact .any v
  | int k n => exact .int k n
  | bool b => exact .bool b
  | str s => exact .str s
  | agg hl h ih => exact .agg hl ih
  | tup hl h ih => exact .tup hl ih
  | slnil => exact .slnil
  | sl hk hs hu hi h ih => exact .sl (hk.le hle) hs hu (fun i hh => hle.imm _ _ _ (hi i hh)) ih
  | nilp => exact .nilp
  | ip hs ho hi h ih => exact .ip hs ho (fun i hh => hle.imm _ _ _ (hi i hh)) ih
  | ptr hb => exact .ptr (hle.loc _ _ hb)
  | ms hb hc hl ha => exact .ms (hle.loc _ _ hb) hc hl ha
  | map hb => exact .map (hle.loc _ _ hb)
  | nilmap => exact .nilmap
  | fn hl h ih => exact .fn hl ih
  | nilfn => exact .nilfn
  | ifc h ih => exact .ifc ih
  | nilifc => exact .nilifc
theorem R.one {g : Gh} {x : AV} {v : Value} (h : R g x v) (h1 : x.one = true) : v.oneCell' = true := by
  cases h <;> first | rfl | (simp [AV.one] at h1; done)
theorem R.cells {g : Gh} {x : AV} {v : Value} (h : R g x v) (hkn : x.known = true) : x.cells.length = v.cells.size ∧ ∀ (i : Nat) (c : AV) (u : Value), x.cells[i]? = some c → v.cells[i]? = some u → R g c u := by
  have one : ∀ (x : AV) (v : Value), R g x v → x.cells = [x] → v.cells = #[v] → x.cells.length = v.cells.size ∧ ∀ (i : Nat) (c : AV) (u : Value), x.cells[i]? = some c → v.cells[i]? = some u → R g c u := by
    intro x v h e1 e2
    rw [e1, e2]
    refine ⟨rfl, fun i c u hc hu => ?_⟩
    cases i with
    | zero => simp at hc hu; subst hc; subst hu; exact h
    | succ i => simp at hc
  cases h with
  | any v => simp [AV.known] at hkn
  | agg hl h => exact ⟨hl, h⟩
  | int k n => exact one _ _ (.int k n) rfl rfl
  | bool b => exact one _ _ (.bool b) rfl rfl
  | str s => exact one _ _ (.str s) rfl rfl
  | tup hl h => exact one _ _ (.tup hl h) rfl rfl
  | slnil => exact one _ _ .slnil rfl rfl
  | sl hk hs hu hi h => exact one _ _ (.sl hk hs hu hi h) rfl rfl
  | nilp => exact one _ _ .nilp rfl rfl
  | ip hs ho hi h => exact one _ _ (.ip hs ho hi h) rfl rfl
  | ptr hb => exact one _ _ (.ptr hb) rfl rfl
  | ms hb hc hl ha => exact one _ _ (.ms hb hc hl ha) rfl rfl
  | map hb => exact one _ _ (.map hb) rfl rfl
  | nilmap => exact one _ _ .nilmap rfl rfl
  | fn hl h => exact one _ _ (.fn hl h) rfl rfl
  | nilfn => exact one _ _ .nilfn rfl rfl
  | ifc h => exact one _ _ (.ifc h) rfl rfl
  | nilifc => exact one _ _ .nilifc rfl rfl
inductive Ob where
  | arr (e : TypeId) (rows : List AV)
  | tip (n : Nat) (e : TypeId) (sz : Nat)
  | map (es : List (AV × AV))
  | mapR (es : List (AV × AV)) (en : Array MapEntry) (ck : Nat)
  | iter (m : Nat) (en : Array MapEntry) (ck : Nat) (sn : Array Nat)
  | iterN
abbrev Store := Nat → Option Ob
def Store.put (s : Store) (o : Nat) (x : Ob) : Store := fun p => if p = o then some x else s p
def Store.drop (s : Store) (o : Nat) : Store := fun p => if p = o then none else s p
def Store.Sub (s t : Store) : Prop := ∀ o x, s o = some x → t o = some x
def ObAt (g : Gh) (w : World) (o b : Nat) : Ob → Prop
  | .arr e rows => ∃ (sz : Nat) (cells : Array Value), (∃ n, g.loc o = some (b, sz, n) ∧ cells.size = n * sz) ∧ w.heap[b]? = some (.cells cells e (0, 0)) ∧ (∀ r, r ∈ rows → r.cells.length = sz) ∧ rows.length * sz ≤ cells.size ∧
      (∀ (i : Nat) (c : AV) (v : Value), (cellsL rows)[i]? = some c → cells[i]? = some v → R g c v) ∧ (∀ off, g.imm b off = none)
  | .tip n e sz => ∃ (cap : Nat) (cur : Array Value), g.tipv o n = some (.slice (some ⟨b, 0, none⟩) n cap) ∧ (∀ m, n < m → g.tipv o m = none) ∧ w.heap[b]? = some (.cells cur e (0, 0)) ∧ n ≤ cap ∧ cap ≤ maxLen ∧ cur.size = cap * sz ∧
      (∀ off, n * sz ≤ off → g.imm b off = none)
  | .map es => ∃ (entries : Array MapEntry) (clock : Nat), g.loc o = some (b, 0, 0) ∧ w.heap[b]? = some (.map entries clock) ∧ es.length = entries.size ∧
      (∀ (i : Nat) (kv : AV × AV) (en : MapEntry), es[i]? = some kv → entries[i]? = some en → R g kv.1 en.key ∧ R g kv.2 en.val) ∧ Go.MapKept.Stamped entries clock
  | .mapR es entries clock => g.loc o = some (b, 0, 0) ∧ w.heap[b]? = some (.map entries clock) ∧ es.length = entries.size ∧
      (∀ (i : Nat) (kv : AV × AV) (en : MapEntry), es[i]? = some kv → entries[i]? = some en → R g kv.1 en.key ∧ R g kv.2 en.val) ∧ Go.MapKept.Stamped entries clock
  | .iter m entries clock sn => g.loc o = some (b, 0, 0) ∧ ∃ bm, g.loc m = some (bm, 0, 0) ∧ w.heap[b]? = some (.mapIter (some bm) clock sn clock)
  | .iterN => g.loc o = some (b, 0, 0) ∧ ∃ since sn c0, w.heap[b]? = some (.mapIter none since sn c0)
structure Conc (g : Gh) (w : World) (s : Store) : Prop where
  below : Below g.w0.heap.size g.w0 w
  imm : ∀ b o v, g.imm b o = some v → w.cell? ⟨b, o, none⟩ = some v
  loc : ∀ o b sz n, g.loc o = some (b, sz, n) → g.w0.heap.size ≤ b ∧ b < w.heap.size
  fresh : ∃ N, ∀ o, N ≤ o → g.loc o = none ∧ (∀ m, g.tipv o m = none) ∧ s o = none ∧ ¬ g.res o
  res : ∀ o, g.res o → g.loc o = none ∧ (∀ m, g.tipv o m = none) ∧ s o = none
  obj : ∃ blk : Nat → Nat, (∀ o x, s o = some x → g.w0.heap.size ≤ blk o ∧ ObAt g w o (blk o) x) ∧ (∀ o o' x x', s o = some x → s o' = some x' → blk o = blk o' → o = o')
theorem Conc.sub {g : Gh} {w : World} {s t : Store} (h : Conc g w t) (hs : s.Sub t) : Conc g w s := by
  obtain ⟨N, hN⟩ := h.fresh
  obtain ⟨blk, h1, h2⟩ := h.obj
  have hnone : ∀ o, t o = none → s o = none := fun o ho => by
    cases hso : s o with
    | none => rfl
    | some x => have := hs o x hso; rw [ho] at this; cases this
  exact ⟨h.below, h.imm, h.loc, ⟨N, fun o ho => ⟨(hN o ho).1, (hN o ho).2.1, hnone o (hN o ho).2.2.1, (hN o ho).2.2.2⟩⟩, fun o ho => ⟨(h.res o ho).1, (h.res o ho).2.1, hnone o (h.res o ho).2.2⟩,
    blk, fun o x hx => h1 o x (hs o x hx), fun o o' x x' hx hx' => h2 o o' x x' (hs _ _ hx) (hs _ _ hx')⟩
end Go.Kern

namespace Go.Kern
open Go.RowKit
abbrev Env := List (Nat × AV)
def Env.get : Env → Nat → AV
  | [], _ => .any
  | (j, v) :: r, i => if i = j then v else Env.get r i
def Env.putO (ρ : Env) : Option Tmp → AV → Env
  | none, _ => ρ
  | some d, v => (d, v) :: ρ
def leafOf : Value → AV
  | .int k n => .int k n
  | .bool b => .bool b
  | .string s => .str s
  | .pointer none => .nilp
  | .slice none 0 0 => .sl .nil []
  | .map none => .nilmap
  | .nilFunc => .nilfn
  | .nilIface => .nilifc
  | _ => .any
def ofConst : Value → AV
  | .agg cs => .agg (cs.toList.map leafOf)
  | .tuple cs => .tup (cs.toList.map leafOf)
  | v => leafOf v
theorem R_leaf (g : Gh) (v : Value) : R g (leafOf v) v := by
  unfold leafOf
  split <;> first | exact .any _ | exact .int _ _ | exact .bool _ | exact .str _ | exact .nilp | exact .slnil | exact .nilmap | exact .nilfn | exact .nilifc
theorem R_leaves (g : Gh) (cs : Array Value) : (cs.toList.map leafOf).length = cs.size ∧ ∀ (i : Nat) (c : AV) (v : Value), (cs.toList.map leafOf)[i]? = some c → cs[i]? = some v → R g c v := by
  refine ⟨by simp, fun i c v hc hv => ?_⟩
  simp only [List.getElem?_map, Array.getElem?_toList, hv, Option.map_some, Option.some.injEq] at hc
  subst hc
  exact R_leaf g v
theorem R_const (g : Gh) (v : Value) : R g (ofConst v) v := by
  unfold ofConst
  split
  · exact .agg (R_leaves g _).1 (R_leaves g _).2
  · exact .tup (R_leaves g _).1 (R_leaves g _).2
  · exact R_leaf g v
def ev (ρ : Env) : Operand → AV
  | .tmp t => ρ.get t
  | .const v => ofConst v
  | .global _ => .any
  | .func f => .fn f []
structure RE (g : Gh) (n : Nat) (ρ : Env) (tmps : Array Value) : Prop where
  size : tmps.size = n
  get : ∀ i, R g (ρ.get i) (tmps.getD i undef)
theorem R_undef (g : Gh) : R g (.tup []) undef := .tup rfl (fun i c v h => by simp at h)
theorem RE.le {g g' : Gh} {n : Nat} {ρ : Env} {t : Array Value} (h : RE g n ρ t) (hle : g.Le g') : RE g' n ρ t := ⟨h.size, fun i => (h.get i).le hle⟩
theorem RE.eval {g : Gh} {n : Nat} {ρ : Env} {a : Act} (h : RE g n ρ a.tmps) (x : Operand) : R g (ev ρ x) (a.eval x) := by
  cases x with
  | tmp t => exact h.get t
  | const v => exact R_const g v
  | global _ => exact .any _
  | func f => exact .fn rfl (fun i c v hc => by simp at hc)
def dstOk (n : Nat) : Option Tmp → Bool
  | none => true
  | some d => decide (d < n)
theorem RE.put {g : Gh} {n : Nat} {ρ : Env} {a : Act} (h : RE g n ρ a.tmps) {d : Option Tmp} (hd : dstOk n d = true) {x : AV} {v : Value} (hx : R g x v) : RE g n (ρ.putO d x) (a.put d v).tmps := by
  cases d with
  | none => exact h
  | some d =>
    have hd' : d < n := by simpa [dstOk] using hd
    refine ⟨by simp [Act.put, h.size], fun i => ?_⟩
    simp only [Act.put, Env.putO, Env.get]
    by_cases hi : i = d
    · subst hi
      rw [if_pos rfl, Array.getD_eq_getD_getElem?, Array.getElem?_setIfInBounds]
      rw [if_pos rfl, if_pos (by rw [h.size]; exact hd')]
      exact hx
    · rw [if_neg hi, Array.getD_eq_getD_getElem?, Array.getElem?_setIfInBounds, if_neg (fun e => hi e.symm), ← Array.getD_eq_getD_getElem?]
      exact h.get i
def Env.Sub (s t : Env) : Prop := ∀ i, s.get i = .any ∨ s.get i = t.get i
theorem RE.sub {g : Gh} {n : Nat} {s t : Env} {a : Array Value} (hs : s.Sub t) (h : RE g n t a) : RE g n s a :=
  ⟨h.size, fun i => by
    rcases hs i with e | e
    · rw [e]; exact .any _
    · rw [e]; exact h.get i⟩
def Env.Has (t : Env) : Env → Prop
  | [] => True
  | (j, v) :: r => t.get j = v ∧ Env.Has t r
theorem Env.Sub_of_has {t : Env} : ∀ {s : Env}, Env.Has t s → s.Sub t
  | [], _ => fun i => .inl rfl
  | (j, v) :: r, h => fun i => by
    simp only [Env.get]
    by_cases e : i = j
    · subst e; rw [if_pos rfl]; exact .inr h.1.symm
    · rw [if_neg e]; exact Env.Sub_of_has h.2 i
abbrev Post := Exit → Env → Store → Prop
def Lift (g : Gh) (n : Nat) (Q : Post) : Exit → Act → World → Prop := fun e a w =>
  a.defers = [] ∧ ∃ g' ρ' σ', g.Le g' ∧ RE g' n ρ' a.tmps ∧ Conc g' w σ' ∧ Q e ρ' σ'
def W (P : Program) (n : Nat) (c : Code) (Q : Post) (ρ : Env) (σ : Store) : Prop :=
  ∀ (g : Gh) (a : Act) (w : World), a.defers = [] → RE g n ρ a.tmps → Conc g w σ → c.wp P (Lift g n Q) a w
theorem Lift.mono {g g' : Gh} {n : Nat} {Q Q' : Post} (hle : g.Le g') (hq : ∀ e ρ σ, Q e ρ σ → Q' e ρ σ) {e : Exit} {a : Act} {w : World} (h : Lift g' n Q e a w) : Lift g n Q' e a w := by
  obtain ⟨hd, g1, ρ, σ, h1, h2, h3, h4⟩ := h
  exact ⟨hd, g1, ρ, σ, hle.trans h1, h2, h3, hq _ _ _ h4⟩
def Post.then (next : Env → Store → Prop) (Q : Post) : Post
  | .normal, ρ, σ => next ρ σ
  | e, ρ, σ => Q e ρ σ
def Post.inBlock (id : Nat) (Q : Post) : Post
  | .exit id', ρ, σ => if id' = id then Q .normal ρ σ else Q (.exit id') ρ σ
  | e, ρ, σ => Q e ρ σ
section
variable {P : Program} {n : Nat} {Q : Post} {ρ : Env} {σ : Store}
theorem W_mono {c : Code} {Q' : Post} (h : W P n c Q ρ σ) (hq : ∀ e ρ σ, Q e ρ σ → Q' e ρ σ) : W P n c Q' ρ σ :=
  fun g a w hd he hc => wp_mono (h g a w hd he hc) fun _ _ _ hl => hl.mono (.refl g) hq
theorem W_weaken {c : Code} {ρ' : Env} {σ' : Store} (hρ : ρ'.Sub ρ) (hσ : σ'.Sub σ) (h : W P n c Q ρ' σ') : W P n c Q ρ σ :=
  fun g a w hd he hc => h g a w hd (he.sub hρ) (hc.sub hσ)
theorem W_seq {x y : Code} (h : W P n x (Post.then (W P n y Q) Q) ρ σ) : W P n (.seq x y) Q ρ σ := by
  intro g a w hd he hc
  refine wp_seq (wp_mono (h g a w hd he hc) ?_)
  rintro e a' w' ⟨hd', g', ρ', σ', hle, he', hc', hq⟩
  cases e with
  | normal => exact wp_mono (hq g' a' w' hd' he' hc') fun _ _ _ hl => hl.mono hle (fun _ _ _ h => h)
  | exit id => exact ⟨hd', g', ρ', σ', hle, he', hc', hq⟩
  | goto l => exact ⟨hd', g', ρ', σ', hle, he', hc', hq⟩
  | ret => exact ⟨hd', g', ρ', σ', hle, he', hc', hq⟩
  | panic ch => exact ⟨hd', g', ρ', σ', hle, he', hc', hq⟩
  | outgrown => exact ⟨hd', g', ρ', σ', hle, he', hc', hq⟩
theorem W_skip (h : Q .normal ρ σ) : W P n .skip Q ρ σ := fun g a w hd he hc => wp_skip ⟨hd, g, ρ, σ, .refl g, he, hc, h⟩
theorem W_ret (h : Q .ret ρ σ) : W P n .ret Q ρ σ := fun g a w hd he hc => wp_ret ⟨hd, g, ρ, σ, .refl g, he, hc, h⟩
theorem W_exit {id : Nat} (h : Q (.exit id) ρ σ) : W P n (.exit id) Q ρ σ := fun g a w hd he hc => wp_exit ⟨hd, g, ρ, σ, .refl g, he, hc, h⟩
theorem W_block {id : Nat} {c : Code} (h : W P n c (Post.inBlock id Q) ρ σ) : W P n (.block id c) Q ρ σ := by
  intro g a w hd he hc
  refine wp_block (wp_mono (h g a w hd he hc) ?_)
  rintro e a' w' ⟨hd', g', ρ', σ', hle, he', hc', hq⟩
  cases e with
  | exit id' =>
    simp only [Post.inBlock] at hq
    simp only [Exit.inBlock]
    split
    · rename_i e; rw [if_pos e] at hq; exact ⟨hd', g', ρ', σ', hle, he', hc', hq⟩
    · rename_i e; rw [if_neg e] at hq; exact ⟨hd', g', ρ', σ', hle, he', hc', hq⟩
  | normal => exact ⟨hd', g', ρ', σ', hle, he', hc', hq⟩
  | goto l => exact ⟨hd', g', ρ', σ', hle, he', hc', hq⟩
  | ret => exact ⟨hd', g', ρ', σ', hle, he', hc', hq⟩
  | panic ch => exact ⟨hd', g', ρ', σ', hle, he', hc', hq⟩
  | outgrown => exact ⟨hd', g', ρ', σ', hle, he', hc', hq⟩
theorem W_cond {c : Operand} {x y : Code} {b : Bool} (hb : ev ρ c = .bool b) (ht : b = true → W P n x Q ρ σ) (hf : b = false → W P n y Q ρ σ) : W P n (.cond c x y) Q ρ σ := by
  intro g a w hd he hc
  have hr := he.eval c
  rw [hb] at hr
  generalize hv : a.eval c = v at hr
  cases hr
  refine wp_cond_split hv (fun e => ht e g a w hd he hc) (fun e => hf e g a w hd he hc)
theorem W_loop {c : Code} (I : Nat → Env → Store → Prop) (k : Nat) (h0 : I k ρ σ)
    (hr : ∀ k ρ σ, I k ρ σ → W P n c (Post.then (fun ρ' σ' => ∃ k', k' < k ∧ I k' ρ' σ') Q) ρ σ) : W P n (.loop c) Q ρ σ := by
  intro g a w hd he hc
  refine wp_loop_ghost (fun k a' w' => a'.defers = [] ∧ ∃ g' ρ' σ', g.Le g' ∧ RE g' n ρ' a'.tmps ∧ Conc g' w' σ' ∧ I k ρ' σ') k ⟨hd, g, ρ, σ, .refl g, he, hc, h0⟩ ?_
  rintro k a' w' ⟨hd', g', ρ', σ', hle, he', hc', hi⟩
  refine wp_mono (hr k ρ' σ' hi g' a' w' hd' he' hc') ?_
  rintro e a2 w2 ⟨hd2, g2, ρ2, σ2, hle2, he2, hc2, hq⟩
  cases e with
  | normal =>
    obtain ⟨k', hk, hi'⟩ := hq
    exact ⟨k', hk, hd2, g2, ρ2, σ2, hle.trans hle2, he2, hc2, hi'⟩
  | exit id' => exact ⟨hd2, g2, ρ2, σ2, hle.trans hle2, he2, hc2, hq⟩
  | goto l => exact ⟨hd2, g2, ρ2, σ2, hle.trans hle2, he2, hc2, hq⟩
  | ret => exact ⟨hd2, g2, ρ2, σ2, hle.trans hle2, he2, hc2, hq⟩
  | panic ch => exact ⟨hd2, g2, ρ2, σ2, hle.trans hle2, he2, hc2, hq⟩
  | outgrown => exact ⟨hd2, g2, ρ2, σ2, hle.trans hle2, he2, hc2, hq⟩
end
def PCall (P : Program) (f : FuncId) (args : List AV) (σ : Store) (K : AV → Store → Prop) : Prop :=
  (∃ fn, P.funcs[f]? = some fn ∧ (fn.name == "runtime.NumGoroutine") = false ∧ fn.body.isNone = false) ∧
  ∀ (g : Gh) (w : World) (vs : Array Value), args.length = vs.size → (∀ (i : Nat) (c : AV) (v : Value), args[i]? = some c → vs[i]? = some v → R g c v) → Conc g w σ →
    Calls P f vs w fun e w' => ∃ v, e = .returned v ∧ ∃ g' r σ', g.Le g' ∧ Conc g' w' σ' ∧ R g' r v ∧ K r σ'
theorem PCall.mono {P : Program} {f : FuncId} {args : List AV} {σ : Store} {K K' : AV → Store → Prop} (h : PCall P f args σ K) (hk : ∀ r s, K r s → K' r s) : PCall P f args σ K' :=
  ⟨h.1, fun g w vs hl hr hc => (h.2 g w vs hl hr hc).mono fun _ _ ⟨v, he, g', r, σ', h1, h2, h3, h4⟩ => ⟨v, he, g', r, σ', h1, h2, h3, hk _ _ h4⟩⟩
def envOf : Nat → List AV → Env
  | _, [] => []
  | i, x :: r => (i, x) :: envOf (i + 1) r
theorem envOf_get : ∀ (l : List AV) (j i : Nat), (envOf j l).get i = if j ≤ i then l.getD (i - j) .any else .any
  | [], j, i => by simp [envOf, Env.get]
  | x :: r, j, i => by
    simp only [envOf, Env.get, envOf_get r (j + 1) i]
    by_cases h : i = j
    · subst h; simp
    · rw [if_neg h]
      by_cases h2 : j ≤ i
      · rw [if_pos h2, if_pos (by omega)]
        obtain ⟨d, rfl⟩ : ∃ d, i = j + 1 + d := ⟨i - (j + 1), by omega⟩
        rw [show j + 1 + d - (j + 1) = d by omega, show j + 1 + d - j = d + 1 by omega]
        rfl
      · rw [if_neg h2, if_neg (by omega)]
theorem R_tup2 {g : Gh} {a b : AV} {u v : Value} (h1 : R g a u) (h2 : R g b v) : R g (.tup [a, b]) (.tuple #[u, v]) :=
  .tup rfl fun i c x hc hx => by
    match i with
    | 0 => simp at hc hx; subst hc; subst hx; exact h1
    | 1 => simp at hc hx; subst hc; subst hx; exact h2
    | i + 2 => simp at hc
theorem RE_envOf {g : Gh} {n : Nat} {args : List AV} {vs : Array Value} (hsz : args.length ≤ n) (hl : args.length = vs.size) (hr : ∀ (i : Nat) (x : AV) (v : Value), args[i]? = some x → vs[i]? = some v → R g x v) :
    RE g n (envOf 0 args) (vs ++ Array.replicate (n - vs.size) undef) := by
  refine ⟨by simp; omega, fun i => ?_⟩
  rw [envOf_get, if_pos (Nat.zero_le _), Nat.sub_zero, Array.getD_eq_getD_getElem?, Array.getElem?_append]
  by_cases hi : i < vs.size
  · rw [if_pos hi]
    have h2 : args[i]? = some (args.getD i .any) := by simp [List.getD_eq_getElem?_getD, List.getElem?_eq_getElem (show i < args.length by omega)]
    exact hr i _ _ h2 (by simp [Array.getElem?_eq_getElem hi])
  · have : args.getD i .any = .any := by simp [List.getD_eq_getElem?_getD, List.getElem?_eq_none (show args.length ≤ i by omega)]
    rw [this]
    exact .any _
end Go.Kern

namespace Go.Kern
open Go.RowKit
theorem ObAt.lt {g : Gh} {w : World} {o b : Nat} {x : Ob} (h : ObAt g w o b x) : b < w.heap.size := by
  cases x with
  | arr e rows => obtain ⟨sz, cells, _, hh, _⟩ := h; exact (Array.getElem?_eq_some_iff.1 hh).1
  | tip n e sz => obtain ⟨cap, cur, _, _, hh, _⟩ := h; exact (Array.getElem?_eq_some_iff.1 hh).1
  | map es => obtain ⟨en, ck, _, hh, _⟩ := h; exact (Array.getElem?_eq_some_iff.1 hh).1
  | mapR es en ck => obtain ⟨_, hh, _⟩ := h; exact (Array.getElem?_eq_some_iff.1 hh).1
  | iter m en ck sn => obtain ⟨_, bm, _, hh⟩ := h; exact (Array.getElem?_eq_some_iff.1 hh).1
  | iterN => obtain ⟨_, a, b, c, hh⟩ := h; exact (Array.getElem?_eq_some_iff.1 hh).1
theorem ObAt.keep {g g' : Gh} {w w' : World} {o b : Nat} {x : Ob} (h : ObAt g w o b x) (hle : g.Le g') (hw : w'.heap[b]? = w.heap[b]?) (hi : ∀ off, g'.imm b off = g.imm b off)
    (ht : ∀ m, g'.tipv o m = g.tipv o m) : ObAt g' w' o b x := by
  cases x with
  | arr e rows =>
    obtain ⟨sz, cells, ⟨n, h1, h1'⟩, h2, h3, h4, h5, h6⟩ := h
    exact ⟨sz, cells, ⟨n, hle.loc _ _ h1, h1'⟩, hw.trans h2, h3, h4, fun i c v hc hv => (h5 i c v hc hv).le hle, fun off => (hi off).trans (h6 off)⟩
  | tip n e sz =>
    obtain ⟨cap, cur, h1, h2, h3, h4, h5, h6, h7⟩ := h
    exact ⟨cap, cur, hle.tipv _ _ _ h1, fun m hm => (ht m).trans (h2 m hm), hw.trans h3, h4, h5, h6, fun off ho => (hi off).trans (h7 off ho)⟩
  | map es =>
    obtain ⟨en, ck, h1, h2, h3, h4, h5⟩ := h
    exact ⟨en, ck, hle.loc _ _ h1, hw.trans h2, h3, fun i kv e hk he => ⟨(h4 i kv e hk he).1.le hle, (h4 i kv e hk he).2.le hle⟩, h5⟩
  | mapR es en ck =>
    obtain ⟨h1, h2, h3, h4, h5⟩ := h
    exact ⟨hle.loc _ _ h1, hw.trans h2, h3, fun i kv e hk he => ⟨(h4 i kv e hk he).1.le hle, (h4 i kv e hk he).2.le hle⟩, h5⟩
  | iter m en ck sn =>
    obtain ⟨h1, bm, h2, h3⟩ := h
    exact ⟨hle.loc _ _ h1, bm, hle.loc _ _ h2, hw.trans h3⟩
  | iterN =>
    obtain ⟨h1, a, b, c, h2⟩ := h
    exact ⟨hle.loc _ _ h1, a, b, c, hw.trans h2⟩
theorem Conc.imm_lt {g : Gh} {w : World} {s : Store} (h : Conc g w s) {b o : Nat} {v : Value} (hi : g.imm b o = some v) : b < w.heap.size :=
  World.block_lt_of_cell? w ⟨b, o, none⟩ (h.imm b o v hi)
theorem Conc.drew {g : Gh} {w : World} {s : Store} (h : Conc g w s) : Conc g w.drew s :=
  ⟨h.below.drew, h.imm, h.loc, h.fresh, h.res, h.obj⟩
theorem Conc.grow {g : Gh} {w w' : World} {s : Store} (h : Conc g w s) (hb : Below w.heap.size w w') : Conc g w' s := by
  have hsz := h.below.size
  have heq : ∀ k, k < w.heap.size → w'.heap[k]? = w.heap[k]? := hb.block
  refine ⟨h.below.trans (hb.mono hsz), fun b o v hi => ?_, fun o b sz n hl => ⟨(h.loc o b sz n hl).1, Nat.lt_of_lt_of_le (h.loc o b sz n hl).2 hb.size⟩, h.fresh, h.res, ?_⟩
  · exact (World.cell?_of_block (heq b (h.imm_lt hi))).trans (h.imm b o v hi)
  · obtain ⟨blk, h1, h2⟩ := h.obj
    exact ⟨blk, fun o x hx => ⟨(h1 o x hx).1, (h1 o x hx).2.keep (.refl g) (heq _ (h1 o x hx).2.lt) (fun _ => rfl) (fun _ => rfl)⟩, h2⟩
def Gh.addImm (g : Gh) (b : Nat) (cs : Array Value) (m : Nat) : Gh := { g with imm := fun b' o => if b' = b then (if o < m then cs[o]? else none) else g.imm b' o }
theorem Gh.Le_addImm {g : Gh} {w : World} {s : Store} (h : Conc g w s) (cs : Array Value) (m : Nat) : g.Le (g.addImm w.heap.size cs m) :=
  ⟨rfl, fun b o v hi => by
    have := h.imm_lt hi
    simp only [Gh.addImm]
    rw [if_neg (by omega)]; exact hi, fun _ _ h => h, fun _ _ _ h => h, rfl⟩
theorem Conc.addImm {g : Gh} {w w' : World} {s : Store} (h : Conc g w s) (hb : Below w.heap.size w w') (cs : Array Value) (m : Nat)
    (hc : ∀ o v, o < m → cs[o]? = some v → w'.cell? ⟨w.heap.size, o, none⟩ = some v) : Conc (g.addImm w.heap.size cs m) w' s := by
  have h' := h.grow hb
  have hle := Gh.Le_addImm h cs m
  refine ⟨h'.below, fun b o v hi => ?_, h'.loc, h'.fresh, h'.res, ?_⟩
  · simp only [Gh.addImm] at hi
    split at hi
    · rename_i e
      subst e
      split at hi
      · exact hc o v (by assumption) hi
      · cases hi
    · exact h'.imm b o v hi
  · obtain ⟨blk, h1, h2⟩ := h'.obj
    refine ⟨blk, fun o x hx => ⟨(h1 o x hx).1, ?_⟩, h2⟩
    obtain ⟨blk0, h10, h20⟩ := h.obj
    have := (h1 o x hx).2
    by_cases hlt : blk o < w.heap.size
    · exact this.keep hle rfl (fun off => by simp only [Gh.addImm]; rw [if_neg (by omega)]) (fun _ => rfl)
    ·
      exfalso
      cases x with
      | arr e rows => obtain ⟨sz, cells, ⟨n, hl, _⟩, _⟩ := this; exact hlt (h.loc _ _ _ _ hl).2
      | map es => obtain ⟨en, ck, hl, _⟩ := this; exact hlt (h.loc _ _ _ _ hl).2
      | mapR es en ck => exact hlt (h.loc _ _ _ _ this.1).2
      | iter m en ck sn => exact hlt (h.loc _ _ _ _ this.1).2
      | iterN => exact hlt (h.loc _ _ _ _ this.1).2
      | tip n e sz =>
        obtain ⟨cap, cur, ht, _⟩ := this
        have h10' := (h10 o _ hx).2
        obtain ⟨cap', cur', ht', _, hh', _⟩ := h10'
        rw [ht'] at ht
        injection ht with ht
        injection ht with ht
        injection ht with ht
        injection ht with ht
        have := (Array.getElem?_eq_some_iff.1 hh').1
        omega
def Gh.addLoc (g : Gh) (o : Nat) (x : Nat × Nat × Nat) : Gh := { g with loc := fun p => if p = o then some x else g.loc p }
theorem Gh.Le_addLoc {g : Gh} {o : Nat} (x : Nat × Nat × Nat) (h : g.loc o = none) : g.Le (g.addLoc o x) :=
  ⟨rfl, fun _ _ _ h => h, fun p y hp => by
    simp only [Gh.addLoc]
    rw [if_neg (fun e => by subst e; rw [h] at hp; cases hp)]; exact hp, fun _ _ _ h => h, rfl⟩
theorem Conc.addObj {g : Gh} {w w' : World} {s : Store} (h : Conc g w s) (hb : Below w.heap.size w w') (hs : w.heap.size < w'.heap.size) (o : Nat) (ho : g.loc o = none) (hso : s o = none) (ht : ∀ m, g.tipv o m = none) (hnr : ¬ g.res o)
    (x : Ob) (sz n : Nat) (hx : ∀ g' : Gh, g.Le g' → g'.loc o = some (w.heap.size, sz, n) → (∀ off, g'.imm w.heap.size off = none) → ObAt g' w' o w.heap.size x) :
    Conc (g.addLoc o (w.heap.size, sz, n)) w' (s.put o x) := by
  have h' := h.grow hb
  have hle := Gh.Le_addLoc (g := g) (w.heap.size, sz, n) ho
  refine ⟨h'.below, h'.imm, fun p b sz' n' hl => ?_, ?_, fun p hp => ?_, ?_⟩
  · simp only [Gh.addLoc] at hl
    split at hl
    · injection hl with hl
      injection hl with hl _
      subst hl
      exact ⟨h.below.size, hs⟩
    · exact h'.loc p b sz' n' hl
  · obtain ⟨N, hN⟩ := h'.fresh
    refine ⟨max N (o + 1), fun p hp => ?_⟩
    have hpo : p ≠ o := by omega
    have := hN p (by omega)
    refine ⟨by simp only [Gh.addLoc]; rw [if_neg hpo]; exact this.1, this.2.1, by simp only [Store.put]; rw [if_neg hpo]; exact this.2.2.1, this.2.2.2⟩
  · have hpo : p ≠ o := fun e => hnr (by rw [← e]; exact hp)
    have := h'.res p hp
    exact ⟨by simp only [Gh.addLoc]; rw [if_neg hpo]; exact this.1, this.2.1, by simp only [Store.put]; rw [if_neg hpo]; exact this.2.2⟩
  · obtain ⟨blk, h1, h2⟩ := h.obj
    refine ⟨fun p => if p = o then w.heap.size else blk p, fun p y hp => ?_, fun p q y z hp hq he => ?_⟩
    · simp only [Store.put] at hp
      by_cases hpo : p = o
      · subst hpo
        rw [if_pos rfl] at hp
        injection hp with hp
        subst hp
        simp only [if_pos]
        refine ⟨h.below.size, hx _ hle (by simp [Gh.addLoc]) (fun off => ?_)⟩
        cases hi : (g.addLoc p (w.heap.size, sz, n)).imm w.heap.size off with
        | none => rfl
        | some v => exact absurd (h.imm_lt hi) (Nat.lt_irrefl _)
      · rw [if_neg hpo] at hp
        simp only [if_neg hpo]
        exact ⟨(h1 p y hp).1, (h1 p y hp).2.keep hle (hb.block _ (h1 p y hp).2.lt) (fun _ => rfl) (fun _ => rfl)⟩
    · simp only [Store.put] at hp hq
      by_cases hpo : p = o <;> by_cases hqo : q = o
      · rw [hpo, hqo]
      · rw [if_pos hpo] at hp; rw [if_neg hqo] at hq
        simp only [if_pos hpo, if_neg hqo] at he
        exact absurd (h1 q z hq).2.lt (by omega)
      · rw [if_neg hpo] at hp; rw [if_pos hqo] at hq
        simp only [if_neg hpo, if_pos hqo] at he
        exact absurd (h1 p y hp).2.lt (by omega)
      · rw [if_neg hpo] at hp; rw [if_neg hqo] at hq
        simp only [if_neg hpo, if_neg hqo] at he
        exact h2 p q y z hp hq he
theorem Conc.write {g : Gh} {w w' : World} {s : Store} (h : Conc g w s) {o b : Nat} {x y : Ob} (hx : s o = some x) (hb : ∀ blk : Nat → Nat, ObAt g w o (blk o) x → blk o = b)
    (hw : ∀ k, k ≠ b → w'.heap[k]? = w.heap[k]?) (hos : w'.os = w.os) (htp : w'.tape = w.tape) (hout : w'.output = w.output) (hsz : w'.heap.size = w.heap.size)
    (hi : ∀ off, g.imm b off = none) (hy : ObAt g w' o b y) : Conc g w' (s.put o y) := by
  obtain ⟨blk, h1, h2⟩ := h.obj
  have hbo : blk o = b := hb blk (h1 o x hx).2
  have hge : g.w0.heap.size ≤ b := by rw [← hbo]; exact (h1 o x hx).1
  refine ⟨h.below.trans ⟨hos, htp, hout, by omega, fun k hk => hw k (by omega)⟩, fun b' off v hv => ?_, fun p b' sz n hl => ⟨(h.loc p b' sz n hl).1, by rw [hsz]; exact (h.loc p b' sz n hl).2⟩, ?_, fun p hp => ?_, ?_⟩
  · have hne : b' ≠ b := fun e => by subst e; rw [hi off] at hv; cases hv
    exact (World.cell?_of_block (a := ⟨b', off, none⟩) (hw b' hne)).trans (h.imm b' off v hv)
  · obtain ⟨N, hN⟩ := h.fresh
    refine ⟨N, fun p hp => ⟨(hN p hp).1, (hN p hp).2.1, ?_, (hN p hp).2.2.2⟩⟩
    simp only [Store.put]
    by_cases hpo : p = o
    · subst hpo; rw [(hN p hp).2.2.1] at hx; cases hx
    · rw [if_neg hpo]; exact (hN p hp).2.2.1
  · have hr := h.res p hp
    refine ⟨hr.1, hr.2.1, ?_⟩
    simp only [Store.put]
    by_cases hpo : p = o
    · subst hpo; rw [hr.2.2] at hx; cases hx
    · rw [if_neg hpo]; exact hr.2.2
  · refine ⟨blk, fun p z hp => ?_, fun p q u v hp hq he => ?_⟩
    · simp only [Store.put] at hp
      by_cases hpo : p = o
      · subst hpo; rw [if_pos rfl] at hp; injection hp with hp; subst hp
        rw [hbo]; exact ⟨hge, hy⟩
      · rw [if_neg hpo] at hp
        have hne : blk p ≠ b := fun e => hpo (h2 p o z x hp hx (by rw [e, hbo]))
        exact ⟨(h1 p z hp).1, (h1 p z hp).2.keep (.refl g) (hw _ hne) (fun _ => rfl) (fun _ => rfl)⟩
    · have hp' : ∃ u', s p = some u' := by
        simp only [Store.put] at hp
        by_cases hpo : p = o
        · subst hpo; exact ⟨x, hx⟩
        · rw [if_neg hpo] at hp; exact ⟨u, hp⟩
      have hq' : ∃ u', s q = some u' := by
        simp only [Store.put] at hq
        by_cases hqo : q = o
        · subst hqo; exact ⟨x, hx⟩
        · rw [if_neg hqo] at hq; exact ⟨v, hq⟩
      exact h2 p q _ _ hp'.choose_spec hq'.choose_spec he
theorem Conc.rename {g : Gh} {w : World} {s : Store} (h : Conc g w s) {o o' : Nat} {et : TypeId} {rows : List AV} {b sz n : Nat} (hy : s o = some (.arr et rows)) (hl : g.loc o = some (b, sz, n)) (hlo : g.loc o' = none) (hso : s o' = none) (ht : ∀ m, g.tipv o' m = none) (hnr : ¬ g.res o') :
    Conc (g.addLoc o' (b, sz, n)) w ((s.drop o).put o' (.arr et rows)) := by
  have hle := Gh.Le_addLoc (g := g) (b, sz, n) hlo
  have hne : o' ≠ o := fun e => by rw [e, hl] at hlo; cases hlo
  have hput : ∀ p, ((s.drop o).put o' (.arr et rows)) p = if p = o' then some (.arr et rows) else if p = o then none else s p := fun p => rfl
  refine ⟨h.below, h.imm, fun p b' sz' n' hp => ?_, ?_, fun p hp => ?_, ?_⟩
  · simp only [Gh.addLoc] at hp
    split at hp
    · injection hp with hp
      injection hp with hp _
      subst hp
      exact h.loc o _ _ _ hl
    · exact h.loc p b' sz' n' hp
  · obtain ⟨N, hN⟩ := h.fresh
    refine ⟨max N (o' + 1), fun p hp => ?_⟩
    have hpo : p ≠ o' := by omega
    have := hN p (by omega)
    refine ⟨by simp only [Gh.addLoc]; rw [if_neg hpo]; exact this.1, this.2.1, ?_, this.2.2.2⟩
    rw [hput, if_neg hpo, this.2.2.1]; simp
  · have hpo : p ≠ o' := fun e => hnr (by rw [← e]; exact hp)
    have := h.res p hp
    refine ⟨by simp only [Gh.addLoc]; rw [if_neg hpo]; exact this.1, this.2.1, ?_⟩
    rw [hput, if_neg hpo, this.2.2]; simp
  · obtain ⟨blk, h1, h2⟩ := h.obj
    have hbo : blk o = b := by
      obtain ⟨_, sz', cells, ⟨n', hl', _⟩, _⟩ := h1 o _ hy
      rw [hl] at hl'
      injection hl' with hl'
      injection hl' with hl' _
      exact hl'.symm
    refine ⟨fun p => if p = o' then b else blk p, fun p y hp => ?_, fun p q y z hp hq he => ?_⟩
    · rw [hput] at hp
      by_cases hpo : p = o'
      · subst hpo
        rw [if_pos rfl] at hp
        injection hp with hp
        subst hp
        simp only [if_pos]
        obtain ⟨hB, sz', cells, ⟨n', hl', h3⟩, h4, h5, h6, h7, h8⟩ := h1 o _ hy
        rw [hl] at hl'
        injection hl' with hl'
        injection hl' with e1 e2
        injection e2 with e2 e3
        subst e2; subst e3
        rw [hbo] at hB h4 h8
        exact ⟨hB, sz, cells, ⟨n, by simp [Gh.addLoc], h3⟩, h4, h5, h6, fun i c v a b => (h7 i c v a b).le hle, h8⟩
      · rw [if_neg hpo] at hp
        by_cases hpo2 : p = o
        · rw [if_pos hpo2] at hp; cases hp
        · rw [if_neg hpo2] at hp
          simp only [if_neg hpo]
          exact ⟨(h1 p y hp).1, (h1 p y hp).2.keep hle rfl (fun _ => rfl) (fun _ => rfl)⟩
    · rw [hput] at hp hq
      by_cases hpo : p = o' <;> by_cases hqo : q = o'
      · rw [hpo, hqo]
      · rw [if_neg hqo] at hq
        simp only [if_pos hpo, if_neg hqo] at he
        by_cases hq2 : q = o
        · rw [if_pos hq2] at hq; cases hq
        · rw [if_neg hq2] at hq
          exact absurd (h2 q o z _ hq hy (by rw [hbo, he])) hq2
      · rw [if_neg hpo] at hp
        simp only [if_neg hpo, if_pos hqo] at he
        by_cases hp2 : p = o
        · rw [if_pos hp2] at hp; cases hp
        · rw [if_neg hp2] at hp
          exact absurd (h2 p o y _ hp hy (by rw [hbo, he])) hp2
      · rw [if_neg hpo] at hp
        rw [if_neg hqo] at hq
        simp only [if_neg hpo, if_neg hqo] at he
        by_cases hp2 : p = o
        · rw [if_pos hp2] at hp; cases hp
        · by_cases hq2 : q = o
          · rw [if_pos hq2] at hq; cases hq
          · rw [if_neg hp2] at hp
            rw [if_neg hq2] at hq
            exact h2 p q y z hp hq he
theorem Conc.new {g : Gh} {w : World} {s : Store} (h : Conc g w s) : ∃ o, s o = none ∧ g.loc o = none ∧ (∀ m, g.tipv o m = none) ∧ ¬ g.res o := by
  obtain ⟨N, hN⟩ := h.fresh
  exact ⟨N, (hN N (Nat.le_refl _)).2.2.1, (hN N (Nat.le_refl _)).1, (hN N (Nat.le_refl _)).2.1, (hN N (Nat.le_refl _)).2.2.2⟩
end Go.Kern

namespace Go.Kern
open Go.RowKit
inductive PK where
  | bool | int (k : IntKind) | str
  deriving DecidableEq
inductive TK where
  | bool | int (k : IntKind) | str | slice | array (n : Nat) | struct | map | ptr | func | iface | other | uptr
  | wide (ks : List PK)
  deriving DecidableEq
def kindOf : TypeDesc → TK
  | .bool => .bool
  | .int k => .int k
  | .string => .str
  | .slice _ => .slice
  | .array n _ => .array n
  | .struct _ => .struct
  | .map .. => .map
  | .pointer _ => .ptr
  | .func .. => .func
  | .interface _ => .iface
  | .unsafePointer => .uptr
  | _ => .other
def TK.agg : TK → Bool
  | .struct | .array _ => true
  | _ => false
def flatFs (P : Program) (g : TypeId → Option (List PK)) : Nat → List Field → Option (List PK)
  | _, [] => some []
  | off, f :: fs => if f.name = "_" ∨ f.offset ≠ off then none else match g f.type with
    | some ks => if P.cellsOf f.type = ks.length then (flatFs P g (off + ks.length) fs).map (ks ++ ·) else none
    | none => none
def flatOf (P : Program) : Nat → TypeId → Option (List PK)
  | 0, _ => none
  | m + 1, t => match P.underlying t with
    | some .bool => some [.bool]
    | some (.int k) => some [.int k]
    | some .string => some [.str]
    | some (.array n e) => match flatOf P m e with
      | some ks => if P.cellsOf e = ks.length then some (List.replicate n ks).flatten else none
      | none => none
    | some (.struct fs) => if P.stoodInHeld t = true then none else flatFs P (flatOf P m) 0 fs.toList
    | _ => none
def keyTK (P : Program) (t : TypeId) : TK :=
  match P.underlying t with
  | some (.array n e) => if P.eqGuardType P.depth t = true then .array n else match flatOf P 6 t with
    | some ks => .wide ks
    | none => .array n
  | some (.struct fs) => if P.eqGuardType P.depth t = true then .struct else match flatOf P 6 t with
    | some ks => .wide ks
    | none => .struct
  | some d => kindOf d
  | none => .other
structure Ty where
  ok : Bool
  kind : TK
  size : Nat
  bytes : Nat
  elem : TypeId
  key : TypeId
  fields : List (Nat × Nat × Bool × TypeId)
  zero : Option AV
  kk : TK
def fieldOf (P : Program) (f : Field) : Nat × Nat × Bool × TypeId :=
  match P.info? f.type, P.underlying f.type with
  | some i, some d => (f.offset, i.size, (kindOf d).agg, f.type)
  | _, _ => (f.offset, 0, false, f.type)
def tyOf (P : Program) (t : TypeId) : Ty :=
  match P.info? t, P.underlying t with
  | some i, some d =>
    { ok := true, kind := kindOf d, size := i.size, bytes := i.bytes,
      elem := (match d with | .slice e => e | .array _ e => e | .map _ e => e | .pointer e => e | _ => 0),
      key := (match d with | .map k _ => k | _ => 0),
      fields := (match d with | .struct fs => fs.toList.map (fieldOf P) | _ => []),
      zero := i.zero.map ofConst, kk := keyTK P t }
  | _, _ => { ok := false, kind := .other, size := 0, bytes := 0, elem := 0, key := 0, fields := [], zero := none, kk := .other }
section
variable {P : Program} {t : TypeId}
theorem ty_ok (h : (tyOf P t).ok = true) : ∃ i d, P.info? t = some i ∧ P.underlying t = some d ∧ tyOf P t =
    { ok := true, kind := kindOf d, size := i.size, bytes := i.bytes,
      elem := (match d with | .slice e => e | .array _ e => e | .map _ e => e | .pointer e => e | _ => 0),
      key := (match d with | .map k _ => k | _ => 0),
      fields := (match d with | .struct fs => fs.toList.map (fieldOf P) | _ => []),
      zero := i.zero.map ofConst, kk := keyTK P t } := by
  unfold tyOf at h ⊢
  cases h1 : P.info? t with
  | none => simp [h1] at h
  | some i =>
    cases h2 : P.underlying t with
    | none => simp [h1, h2] at h
    | some d => exact ⟨i, d, rfl, rfl, rfl⟩
theorem run_isAgg' (h : (tyOf P t).ok = true) (w : World) : (isAgg t).run P w = .ok (tyOf P t).kind.agg w := by
  obtain ⟨i, d, h1, h2, h3⟩ := ty_ok h
  rw [h3]
  cases d <;> simp [isAgg, run_underlying h2, kindOf, TK.agg]
theorem run_sizeOf' (h : (tyOf P t).ok = true) (w : World) : (sizeOf t).run P w = .ok (tyOf P t).size w := by
  obtain ⟨i, d, h1, h2, h3⟩ := ty_ok h
  rw [h3]
  simp [sizeOf, typeInfo, h1]
theorem run_zero' {z : AV} (h : (tyOf P t).ok = true) (hz : (tyOf P t).zero = some z) (w : World) : ∃ v, (zeroValue t).run P w = .ok v w ∧ (∀ g, R g z v) ∧ z = ofConst v := by
  obtain ⟨i, d, h1, h2, h3⟩ := ty_ok h
  rw [h3] at hz
  obtain ⟨v, hv, rfl⟩ := Option.map_eq_some_iff.1 hz
  exact ⟨v, by simp [zeroValue, typeInfo, h1, hv], fun g => R_const g v, rfl⟩
theorem ty_slice (h : (tyOf P t).kind = .slice) : P.underlying t = some (.slice (tyOf P t).elem) := by
  by_cases hok : (tyOf P t).ok = true
  · obtain ⟨i, d, h1, h2, h3⟩ := ty_ok hok
    rw [h3] at h ⊢
    cases d <;> simp [kindOf] at h
    exact h2
  · unfold tyOf at h hok
    cases h1 : P.info? t <;> cases h2 : P.underlying t <;> simp [h1, h2] at h hok
theorem ty_kind {d : TK} (h : (tyOf P t).kind = d) (hd : d ≠ .other) : ∃ i u, P.info? t = some i ∧ P.underlying t = some u ∧ kindOf u = d := by
  by_cases hok : (tyOf P t).ok = true
  · obtain ⟨i, u, h1, h2, h3⟩ := ty_ok hok
    rw [h3] at h
    exact ⟨i, u, h1, h2, h⟩
  · exfalso
    unfold tyOf at h hok
    cases h1 : P.info? t <;> cases h2 : P.underlying t <;> simp [h1, h2] at h hok <;> exact hd h.symm
end
abbrev KK := AV → Store → Prop
def loadA (T : Ty) (cs : List AV) (off : Nat) (k : AV → Prop) : Prop :=
  T.ok = true ∧ (if T.kind.agg = true then off + T.size ≤ cs.length ∧ k (.agg ((cs.drop off).take T.size))
    else match cs[off]? with | some c => k c | none => False)
def behind (σ : Store) (p : AV) (k : List AV → Nat → Prop) : Prop :=
  match p with
  | .ip x off => k x.cells off
  | .ptr o i off => match σ o with
    | some (.arr _ rows) => match rows[i]? with
      | some x => k x.cells off
      | none => False
    | _ => False
  | _ => False
def oneOf (vs : List AV) (x : AV) : AV :=
  match vs with
  | [v] => v
  | _ => x
def splice (x : AV) (off : Nat) (vs : List AV) : AV :=
  match x with
  | .agg cs => .agg (cs.take off ++ vs ++ cs.drop (off + vs.length))
  | _ => oneOf vs x
def storeA (T : Ty) (σ : Store) (p v : AV) (k : Store → Prop) : Prop :=
  match p with
  | .ptr o i off => match σ o with
    | some (.arr e rows) => match rows[i]? with
      | some x => T.ok = true ∧ v.known = true ∧ v.cells.length = T.size ∧ v.cells.all AV.one = true ∧ off + v.cells.length ≤ x.cells.length ∧
          k (σ.put o (.arr e (rows.set i (splice x off v.cells))))
      | none => False
    | _ => False
  | _ => False
def boxA (mu : Bool) (t : TypeId) (x : AV) (σ : Store) (k : KK) : Prop :=
  x.known = true ∧ (if mu = true then ∀ o, σ o = none → k (.ptr o 0 0) (σ.put o (.arr t [x])) else k (.ip x 0) σ)
def allocA (t : TypeId) (T : Ty) (σ : Store) (k : KK) : Prop :=
  T.ok = true ∧ match T.zero with
    | some z => z.known = true ∧ ∀ o, σ o = none → k (.ptr o 0 0) (σ.put o (.arr t [z]))
    | none => False
def fillA (place : Nat → Option (Nat × Nat)) : List AV → List (Nat × AV) → Option (List AV)
  | cs, [] => some cs
  | cs, (i, v) :: r => match place i with
    | none => none
    | some (off, size) => if v.known = true ∧ v.cells.length = size ∧ off + v.cells.length ≤ cs.length then fillA place (cs.take off ++ v.cells ++ cs.drop (off + v.cells.length)) r else none
def buildA (P : Program) (T : Ty) (parts : List (Nat × AV)) (k : AV → Prop) : Prop :=
  T.ok = true ∧ (match T.kind with
    | .struct => T.fields.all (fun f => decide (f.2.1 ≠ 0)) = true ∧ (match T.zero with
      | some (.agg zs) => (match fillA (fun i => (T.fields[i]?).map fun f => (f.1, f.2.1)) zs parts with
        | some cs => k (.agg cs)
        | none => False)
      | _ => False)
    | .array _ => (tyOf P T.elem).ok = true ∧ (match T.zero with
      | some (.agg zs) => (match fillA (fun i => some (i * (tyOf P T.elem).size, (tyOf P T.elem).size)) zs parts with
        | some cs => k (.agg cs)
        | none => False)
      | _ => False)
    | _ => False)
def partsFit (sz : Nat) : Nat → List (Nat × AV) → Bool
  | _, [] => true
  | i, (j, v) :: r => decide (j = i) && v.known && decide (v.cells.length = sz) && partsFit sz (i + 1) r
def buildSliceA (P : Program) (T : Ty) (n : Nat) (parts : List (Nat × AV)) (k : AV → Prop) : Prop :=
  T.kind = .slice ∧ (tyOf P T.elem).ok = true ∧ parts.length = n ∧ n * (tyOf P T.elem).size ≤ 16777216 ∧ 0 < (tyOf P T.elem).size ∧ (tyOf P T.elem).zero.isSome = true ∧ partsFit (tyOf P T.elem).size 0 parts = true ∧ k (.sl .full (parts.map (·.2)))
def buildSliceN (P : Program) (T : Ty) (n : Nat) (parts : List (Nat × AV)) (σ : Store) (nu : Nat) (k : KK) : Prop :=
  T.kind = .slice ∧ (tyOf P T.elem).ok = true ∧ parts.length = n ∧ n * (tyOf P T.elem).size ≤ 16777216 ∧ 0 < (tyOf P T.elem).size ∧ (tyOf P T.elem).zero.isSome = true ∧ partsFit (tyOf P T.elem).size 0 parts = true ∧
    k (.ms nu (tyOf P T.elem).size 0 n) (σ.put nu (.arr T.elem (parts.map (·.2))))
def buildSliceM (P : Program) (T : Ty) (n : Nat) (parts : List (Nat × AV)) (mu : Bool) (σ : Store) (k : KK) : Prop :=
  if mu = true then ∀ o, σ o = none → buildSliceN P T n parts σ o k else buildSliceA P T n parts fun c => k c σ
def SK.isNil : SK → Bool
  | .nil => true
  | _ => false
def nilSide (kind : TK) (x : AV) : Option Bool :=
  match kind, x with
  | .slice, .sl k _ => some k.isNil
  | .slice, .ms .. => some false
  | .ptr, .nilp => some true
  | .ptr, .ip .. => some false
  | .ptr, .ptr .. => some false
  | .map, .map _ => some false
  | .map, .nilmap => some true
  | .func, .fn .. => some false
  | .func, .nilfn => some true
  | _, _ => none
def intOpA (op : BinOp) (i : IntKind) (a b : Int) (k : AV → Prop) : Prop :=
  match op with
  | .add => k (.int i (i.wrap (a + b)))
  | .sub => k (.int i (i.wrap (a - b)))
  | .mul => k (.int i (i.wrap (a * b)))
  | .quo => b ≠ 0 ∧ k (.int i (i.wrap (a.tdiv b)))
  | .rem => b ≠ 0 ∧ k (.int i (a.tmod b))
  | .eql => k (.bool (decide (a = b)))
  | .neq => k (.bool (!decide (a = b)))
  | .lss => k (.bool (decide (a < b)))
  | .leq => k (.bool (decide (a ≤ b)))
  | .gtr => k (.bool (decide (b < a)))
  | .geq => k (.bool (decide (b ≤ a)))
  | .and => k (.int i (bits .and i a b))
  | .or => k (.int i (bits .or i a b))
  | .xor => k (.int i (bits .xor i a b))
  | .andNot => k (.int i (bits .andNot i a b))
  | _ => False
def strOpA (op : BinOp) (a b : ByteArray) (k : AV → Prop) : Prop :=
  match op with
  | .add => a.size + b.size ≤ 9223372036854775807 ∧ k (.str (a ++ b))
  | .eql => k (.bool (decide (a = b)))
  | .neq => k (.bool (!decide (a = b)))
  | .lss => k (.bool (Op.bytesLess a.toList b.toList))
  | .gtr => k (.bool (!(Op.bytesLess a.toList b.toList || decide (a = b))))
  | .leq => k (.bool (Op.bytesLess a.toList b.toList || decide (a = b)))
  | .geq => k (.bool (!Op.bytesLess a.toList b.toList))
  | _ => False
def nilOpA (kind : TK) (op : BinOp) (x y : AV) (k : AV → Prop) : Prop :=
  match nilSide kind x, nilSide kind y with
  | some a, some b => (a = true ∨ b = true) ∧ (match op with
    | .eql => k (.bool (a && b))
    | .neq => k (.bool (!(a && b)))
    | _ => False)
  | _, _ => False
def cellKind : PK → AV → Bool
  | .int i, .int j _ => decide (i = j)
  | .str, .str _ => true
  | .bool, .bool _ => true
  | _, _ => false
def cellsKind : List PK → List AV → Bool
  | [], [] => true
  | k :: ks, a :: as => cellKind k a && cellsKind ks as
  | _, _ => false
def cellB (a b : AV) : Bool :=
  match a, b with
  | .int _ x, .int _ y => decide (x = y)
  | .str x, .str y => decide (x = y)
  | .bool x, .bool y => x == y
  | _, _ => false
def cellsB : List AV → List AV → Bool
  | [], [] => true
  | a :: as, b :: bs => cellB a b && cellsB as bs
  | _, _ => false
def keyKind (K : TK) (a : AV) : Bool :=
  match K, a with
  | .wide ks, .agg cs => cellsKind ks cs
  | .int i, .int j _ => decide (i = j)
  | .str, .str _ => true
  | .bool, .bool _ => true
  | _, _ => false
def keyB (a b : AV) : Bool :=
  match a, b with
  | .int _ x, .int _ y => decide (x = y)
  | .str x, .str y => decide (x = y)
  | .bool x, .bool y => x == y
  | .agg xs, .agg ys => cellsB xs ys
  | _, _ => false
def binA (P : Program) (op : BinOp) (t : TypeId) (x y : AV) (k : AV → Prop) : Prop :=
  match x, y with
  | .int i a, .int j b => (match op with
    | .shl => 0 ≤ b ∧ k (.int i (i.wrap (a * 2 ^ (min b.toNat i.bits))))
    | .shr => 0 ≤ b ∧ k (.int i (a.fdiv (2 ^ (min b.toNat i.bits))))
    | _ => i = j ∧ intOpA op i a b k)
  | .str a, .str b => strOpA op a b k
  | .bool a, .bool b => (tyOf P t).kind = .bool ∧ (match op with
    | .eql => k (.bool (a == b))
    | .neq => k (.bool (!(a == b)))
    | _ => False)
  | .agg xs, .agg ys => keyKind (tyOf P t).kk (.agg xs) = true ∧ keyKind (tyOf P t).kk (.agg ys) = true ∧ (match op with
    | .eql => k (.bool (cellsB xs ys))
    | .neq => k (.bool (!cellsB xs ys))
    | _ => False)
  | .ptr o i a, .ptr o' i' a' => (tyOf P t).kind = .ptr ∧ (tyOf P t).ok = true ∧ (tyOf P (tyOf P t).elem).ok = true ∧ o = o' ∧ i = i' ∧ a = a' ∧ (match op with
    | .eql => k (.bool true)
    | .neq => k (.bool false)
    | _ => False)
  | x, y => nilOpA (tyOf P t).kind op x y k
def unA (op : UnOp) (x : AV) (k : AV → Prop) : Prop :=
  match op, x with
  | .not, .bool b => k (.bool (!b))
  | .neg, .int i a => k (.int i (i.wrap (0 - a)))
  | _, _ => False
def convA (S D : Ty) (x : AV) (k : AV → Prop) : Prop :=
  S.ok = true ∧ D.ok = true ∧ match D.kind, x with
  | .int i, .int _ a => k (.int i (i.wrap a))
  | .str, .str s => k (.str s)
  | _, _ => False
def fieldAddrA (S : Ty) (p : AV) (i : Nat) (k : AV → Prop) : Prop :=
  S.kind = .struct ∧ match S.fields[i]? with
    | some (off, sz, _, _) => sz ≠ 0 ∧ (match p with
      | .ip x o => k (.ip x (o + off))
      | .ptr o r c => k (.ptr o r (c + off))
      | _ => False)
    | none => False
def fieldA (P : Program) (S : Ty) (x : AV) (i : Nat) (k : AV → Prop) : Prop :=
  S.kind = .struct ∧ match S.fields[i]?, x with
    | some (off, _, _, t), .agg cs => loadA (tyOf P t) cs off k
    | _, _ => False
def indexAddrA (P : Program) (S : Ty) (x ix : AV) (k : AV → Prop) : Prop :=
  match x, ix with
  | .sl _ xs, .int _ i => S.kind = .slice ∧ (tyOf P S.elem).ok = true ∧ 0 ≤ i ∧ i < xs.length ∧ (xs.getD i.toNat .any).cells.length = (tyOf P S.elem).size ∧ k (.ip (xs.getD i.toNat .any) 0)
  | .ms o sz st n, .int _ i => S.kind = .slice ∧ (tyOf P S.elem).ok = true ∧ 0 ≤ i ∧ i < n ∧ sz = (tyOf P S.elem).size ∧ k (.ptr o (st + i.toNat) 0)
  | _, _ => False
def indexA (S : Ty) (x ix : AV) (k : AV → Prop) : Prop :=
  match x, ix with
  | .str s, .int _ i => S.kind = .str ∧ 0 ≤ i ∧ i < s.size ∧ k (.int .u8 ((s.data.getD i.toNat 0).toNat : Int))
  | _, _ => False
def lenA (T : Ty) (σ : Store) (x : AV) (k : AV → Prop) : Prop :=
  match x with
  | .str s => T.kind = .str ∧ k (.int .i64 s.size)
  | .sl _ xs => T.kind = .slice ∧ k (.int .i64 xs.length)
  | .ms _ _ _ n => T.kind = .slice ∧ k (.int .i64 n)
  | .nilmap => T.kind = .map ∧ k (.int .i64 0)
  | .map o => T.kind = .map ∧ (match σ o with
    | some (.map es) => k (.int .i64 es.length)
    | _ => False)
  | _ => False
def rowOk (sz : Nat) (z : AV) : Bool := z.known && decide (z.cells.length = sz) && z.cells.all AV.one
def rowsOk (sz : Nat) (l : List AV) : Bool := l.all (rowOk sz)
theorem rowsOk_nil (sz : Nat) : rowsOk sz [] = true := by unfold rowsOk; exact List.all_nil
theorem rowsOk_cons (sz : Nat) (z : AV) (l : List AV) : rowsOk sz (z :: l) = (rowOk sz z && rowsOk sz l) := by unfold rowsOk; exact List.all_cons
theorem rowsOk_append (sz : Nat) (a b : List AV) : rowsOk sz (a ++ b) = (rowsOk sz a && rowsOk sz b) := by unfold rowsOk; exact List.all_append
theorem rowsOk_spec {sz : Nat} {l : List AV} (h : rowsOk sz l = true) : ∀ z ∈ l, z.known = true ∧ z.cells.length = sz ∧ z.cells.all AV.one = true := by
  intro z hz
  have := List.all_eq_true.1 h z hz
  simp only [rowOk, Bool.and_eq_true, decide_eq_true_eq] at this
  exact ⟨this.1.1, this.1.2, this.2⟩
theorem rowsOk_map {α : Type} (sz : Nat) (f : α → AV) (h : ∀ a, rowOk sz (f a) = true) (l : List α) : rowsOk sz (l.map f) = true := by
  unfold rowsOk
  rw [List.all_map]
  exact List.all_eq_true.2 fun a _ => h a
def SK.cut : SK → SK
  | .nil => .nil
  | _ => .imm
def SK.cutFull : SK → SK
  | .nil => .nil
  | _ => .full
def SK.fresh : SK → Bool
  | .nil => true
  | .full => true
  | _ => false
def boundA (d : Int) : Option AV → Option Int
  | none => some d
  | some (.int _ i) => some i
  | _ => none
def sliceA (P : Program) (S : Ty) (x : AV) (lo hi mx : Option AV) (k : AV → Prop) : Prop :=
  match x with
  | .str s => S.kind = .str ∧ mx = none ∧ (match boundA 0 lo, boundA s.size hi with
    | some l, some h => 0 ≤ l ∧ l ≤ h ∧ h ≤ s.size ∧ k (.str (s.extract l.toNat h.toNat))
    | _, _ => False)
  | .sl kd xs => S.kind = .slice ∧ (tyOf P S.elem).ok = true ∧ rowsOk (tyOf P S.elem).size xs = true ∧ (match boundA 0 lo, boundA xs.length hi, mx with
    | some l, some h, none => 0 ≤ l ∧ l ≤ h ∧ h ≤ xs.length ∧ k (.sl kd.cut ((xs.take h.toNat).drop l.toNat))
    | some l, some h, some (.int _ m) => hi.isSome = true ∧ 0 ≤ l ∧ l ≤ h ∧ h ≤ xs.length ∧ m = h ∧ k (.sl kd.cutFull ((xs.take h.toNat).drop l.toNat))
    | _, _, _ => False)
  | .ms o sz st n => S.kind = .slice ∧ (tyOf P S.elem).ok = true ∧ sz = (tyOf P S.elem).size ∧ mx = none ∧ (match boundA 0 lo, boundA n hi with
    | some l, some h => 0 ≤ l ∧ l ≤ h ∧ h ≤ n ∧ k (.ms o sz (st + l.toNat) (h.toNat - l.toNat))
    | _, _ => False)
  | _ => False
def extractA (x : AV) (i : Nat) (k : AV → Prop) : Prop :=
  match x with
  | .tup vs => match vs[i]? with
    | some v => k v
    | none => False
  | _ => False
def keysOk (K : TK) (es : List (AV × AV)) : Bool := es.all fun e => keyKind K e.1
def asetA (k v : AV) : List (AV × AV) → List (AV × AV)
  | [] => [(k, v)]
  | e :: r => if keyB k e.1 = true then (k, v) :: r else e :: asetA k v r
def adelA (k : AV) : List (AV × AV) → List (AV × AV)
  | [] => []
  | e :: r => if keyB k e.1 = true then r else e :: adelA k r
def lookupA (P : Program) (T : Ty) (σ : Store) (m key : AV) (ok : Bool) (k : AV → Prop) : Prop :=
  T.kind = .map ∧ keyKind (tyOf P T.key).kk key = true ∧ (tyOf P T.elem).ok = true ∧ (match m with
    | .nilmap => (match (tyOf P T.elem).zero with
      | some z => k (if ok = true then .tup [z, .bool false] else z)
      | none => False)
    | .map o => (match σ o with
      | some (.map es) => keysOk (tyOf P T.key).kk es = true ∧ (match es.find? (fun e => keyB key e.1) with
        | some e => k (if ok = true then .tup [e.2, .bool true] else e.2)
        | none => (match (tyOf P T.elem).zero with
          | some z => k (if ok = true then .tup [z, .bool false] else z)
          | none => False))
      | _ => False)
    | _ => False)
def mapSetA (P : Program) (T : Ty) (σ : Store) (m key v : AV) (k : Store → Prop) : Prop :=
  T.kind = .map ∧ keyKind (tyOf P T.key).kk key = true ∧ (match m with
    | .map o => (match σ o with
      | some (.map es) => keysOk (tyOf P T.key).kk es = true ∧ k (σ.put o (.map (asetA key v es)))
      | _ => False)
    | _ => False)
def mapDelA (P : Program) (T : Ty) (σ : Store) (m key : AV) (k : Store → Prop) : Prop :=
  T.kind = .map ∧ keyKind (tyOf P T.key).kk key = true ∧ (match m with
    | .map o => (match σ o with
      | some (.map es) => keysOk (tyOf P T.key).kk es = true ∧ k (σ.put o (.map (adelA key es)))
      | _ => False)
    | _ => False)
def makeSliceA (P : Program) (T : Ty) (l c : AV) (σ : Store) (k : KK) : Prop :=
  T.kind = .slice ∧ (tyOf P T.elem).ok = true ∧ (match l, c with
    | .int _ n, .int _ m => 0 ≤ n ∧ n ≤ m ∧ (tyOf P T.elem).bytes * m ≤ 140737488355328 ∧ m ≤ 140737488355328 ∧ 0 < (tyOf P T.elem).size ∧ (match (tyOf P T.elem).zero with
      | some z => z.known = true ∧ z.cells.length = (tyOf P T.elem).size ∧
        (if n = 0 then ∀ o, σ o = none → k (.sl (.tip o) []) (σ.put o (.tip 0 T.elem (tyOf P T.elem).size))
        else n = m ∧ ∀ o, σ o = none → k (.ms o (tyOf P T.elem).size 0 n.toNat) (σ.put o (.arr T.elem (List.replicate n.toNat z))))
      | none => False)
    | _, _ => False)
def zeroFits (T : Ty) : Bool :=
  match T.zero with
  | some z => decide (z.cells.length = T.size)
  | none => false
def appendA (P : Program) (T : Ty) (mu : Bool) (σ : Store) (x y : AV) (k : KK) : Prop :=
  T.kind = .slice ∧ (tyOf P T.elem).ok = true ∧ zeroFits (tyOf P T.elem) = true ∧ 0 < (tyOf P T.elem).size ∧ (match y with
    | .sl _ ys => rowsOk (tyOf P T.elem).size ys = true ∧ (match x with
      | .ms o sz st n => sz = (tyOf P T.elem).size ∧ st = 0 ∧ (n + ys.length) * (tyOf P T.elem).bytes ≤ 140737488355328 ∧ n + ys.length ≤ 140737488355328 ∧ (match σ o with
        | some (.arr e rows) => e = T.elem ∧ n ≤ rows.length ∧ (if ys = [] then k x σ else ∀ o', σ o' = none → k (.ms o' (tyOf P T.elem).size 0 (n + ys.length)) ((σ.drop o).put o' (.arr T.elem (rows.take n ++ ys))))
        | _ => False)
      | .sl kd xs => rowsOk (tyOf P T.elem).size xs = true ∧ (xs.length + ys.length) * (tyOf P T.elem).bytes ≤ 140737488355328 ∧ xs.length + ys.length ≤ 140737488355328 ∧
        (if ys = [] then k x σ else if mu = true then (kd.fresh = true ∧ ∀ o, σ o = none → k (.ms o (tyOf P T.elem).size 0 (xs.length + ys.length)) (σ.put o (.arr T.elem (xs ++ ys)))) else
          match kd with
          | .nil => ∀ o, σ o = none → k (.sl (.tip o) ys) (σ.put o (.tip ys.length T.elem (tyOf P T.elem).size))
          | .full => ∀ o, σ o = none → k (.sl (.tip o) (xs ++ ys)) (σ.put o (.tip (xs ++ ys).length T.elem (tyOf P T.elem).size))
          | .tip o => σ o = some (.tip xs.length T.elem (tyOf P T.elem).size) ∧ k (.sl (.tip o) (xs ++ ys)) (σ.put o (.tip (xs ++ ys).length T.elem (tyOf P T.elem).size))
          | .imm => False)
      | _ => False)
    | _ => False)
def appendN (P : Program) (T : Ty) (mu : Bool) (σ : Store) (x y : AV) (nu : Nat) (k : KK) : Prop :=
  T.kind = .slice ∧ (tyOf P T.elem).ok = true ∧ zeroFits (tyOf P T.elem) = true ∧ 0 < (tyOf P T.elem).size ∧ (match y with
    | .sl _ ys => rowsOk (tyOf P T.elem).size ys = true ∧ (match x with
      | .ms o sz st n => sz = (tyOf P T.elem).size ∧ st = 0 ∧ (n + ys.length) * (tyOf P T.elem).bytes ≤ 140737488355328 ∧ n + ys.length ≤ 140737488355328 ∧ (match σ o with
        | some (.arr e rows) => e = T.elem ∧ n ≤ rows.length ∧ (if ys = [] then k x σ else k (.ms nu (tyOf P T.elem).size 0 (n + ys.length)) ((σ.drop o).put nu (.arr T.elem (rows.take n ++ ys))))
        | _ => False)
      | .sl kd xs => rowsOk (tyOf P T.elem).size xs = true ∧ (xs.length + ys.length) * (tyOf P T.elem).bytes ≤ 140737488355328 ∧ xs.length + ys.length ≤ 140737488355328 ∧
        (if ys = [] then k x σ else if mu = true then (kd.fresh = true ∧ k (.ms nu (tyOf P T.elem).size 0 (xs.length + ys.length)) (σ.put nu (.arr T.elem (xs ++ ys)))) else
          match kd with
          | .nil => k (.sl (.tip nu) ys) (σ.put nu (.tip ys.length T.elem (tyOf P T.elem).size))
          | .full => k (.sl (.tip nu) (xs ++ ys)) (σ.put nu (.tip (xs ++ ys).length T.elem (tyOf P T.elem).size))
          | .tip o => σ o = some (.tip xs.length T.elem (tyOf P T.elem).size) ∧ k (.sl (.tip o) (xs ++ ys)) (σ.put o (.tip (xs ++ ys).length T.elem (tyOf P T.elem).size))
          | .imm => False)
      | _ => False)
    | _ => False)
theorem appendA_N {P : Program} {T : Ty} {mu : Bool} {σ : Store} {x y : AV} {k : KK} (h : appendA P T mu σ x y k) {nu : Nat} (hn : σ nu = none) : appendN P T mu σ x y nu k := by
  unfold appendA at h
  unfold appendN
  obtain ⟨h1, h2, h3, h4, h⟩ := h
  refine ⟨h1, h2, h3, h4, ?_⟩
  split at h
  · obtain ⟨h5, h⟩ := h
    refine ⟨h5, ?_⟩
    split at h
    · obtain ⟨h6, h7, h8, h9, h⟩ := h
      refine ⟨h6, h7, h8, h9, ?_⟩
      split at h
      · rename_i rows hr
        refine ⟨h.1, h.2.1, ?_⟩
        have h := h.2.2
        split at h
        · rename_i q; rw [if_pos q]; exact h
        · rename_i q; rw [if_neg q]; exact h nu hn
      · exact h.elim
    · obtain ⟨h6, h7, h8, h⟩ := h
      refine ⟨h6, h7, h8, ?_⟩
      split at h
      · rename_i q; rw [if_pos q]; exact h
      · rename_i q
        rw [if_neg q]
        split at h
        · rename_i q2; rw [if_pos q2]; exact ⟨h.1, h.2 nu hn⟩
        · rename_i q2
          rw [if_neg q2]
          split at h
          · exact h nu hn
          · exact h nu hn
          · exact h
          · exact h
    · exact h.elim
  · exact h.elim
def nilCheckA (x : AV) (k : AV → Prop) : Prop :=
  match x with
  | .ip .. => k x
  | .ptr .. => k x
  | .fn .. => k x
  | _ => False
end Go.Kern

namespace Go.Kern
open Go.RowKit
theorem cellsL_get {sz : Nat} (hs : 0 < sz) : ∀ (xs : List AV), (∀ x ∈ xs, x.cells.length = sz) → ∀ k, (cellsL xs)[k]? = (xs[k / sz]?).bind (fun x => x.cells[k % sz]?)
  | [], _, k => by simp [cellsL]
  | x :: xs, hx, k => by
    have hl : x.cells.length = sz := hx x List.mem_cons_self
    have ih := cellsL_get hs xs (fun y hy => hx y (List.mem_cons_of_mem _ hy))
    unfold cellsL at ih ⊢
    rw [List.flatMap_cons]
    by_cases hk : k < sz
    · rw [List.getElem?_append_left (by omega), Nat.div_eq_of_lt hk, Nat.mod_eq_of_lt hk]
      simp
    · have h1 : k / sz = (k - sz) / sz + 1 := by
        have := Nat.sub_add_cancel (Nat.le_of_not_lt hk)
        conv => lhs; rw [← this]
        rw [Nat.add_div_right _ hs]
      have h2 : k % sz = (k - sz) % sz := by
        have := Nat.sub_add_cancel (Nat.le_of_not_lt hk)
        conv => lhs; rw [← this]
        rw [Nat.add_mod_right]
      rw [List.getElem?_append_right (by omega), hl, ih (k - sz), h1, h2, List.getElem?_cons_succ]
theorem cellsL_length {sz : Nat} : ∀ (xs : List AV), (∀ x ∈ xs, x.cells.length = sz) → (cellsL xs).length = xs.length * sz
  | [], _ => by simp [cellsL]
  | x :: xs, hx => by
    have ih := cellsL_length xs (fun y hy => hx y (List.mem_cons_of_mem _ hy))
    unfold cellsL at ih ⊢
    rw [List.flatMap_cons, List.length_append, ih, hx x List.mem_cons_self, List.length_cons, Nat.add_mul]
    omega
theorem cellsL_row {sz : Nat} (xs : List AV) (hx : ∀ x ∈ xs, x.cells.length = sz) (i j : Nat) (x : AV) (hi : xs[i]? = some x) (hj : j < sz) : (cellsL xs)[i * sz + j]? = x.cells[j]? := by
  rw [cellsL_get (by omega) xs hx, Nat.mul_comm, Nat.mul_add_div (by omega), Nat.div_eq_of_lt hj, Nat.add_zero, hi, Nat.mul_add_mod, Nat.mod_eq_of_lt hj]
  rfl
def Lies (g : Gh) (w : World) (a : Addr) (cs : List AV) : Prop :=
  a.spot = none ∧ ∀ i c, cs[i]? = some c → ∃ v, w.cell? ⟨a.block, a.off + i, none⟩ = some v ∧ R g c v
theorem add_spot {a : Addr} (h : a.spot = none) (n : Nat) : a.add n = ⟨a.block, a.off + n, none⟩ := by
  obtain ⟨b, o, s⟩ := a
  simp only at h
  subst h
  unfold Addr.add
  split <;> simp_all
theorem Lies.load {P : Program} {g : Gh} {w : World} {a : Addr} {cs : List AV} (h : Lies g w a cs) {t : TypeId} {k : AV → Prop} {off : Nat}
    (hk : loadA (tyOf P t) cs off k) : ∃ v r, (loadVar t (a.add off)).run P w = .ok v w ∧ R g r v ∧ k r := by
  obtain ⟨hok, hk⟩ := hk
  have hag := run_isAgg' hok w
  have hsz := run_sizeOf' hok w
  have hadd := add_spot h.1
  split at hk
  · rename_i hagg
    obtain ⟨hle, hk⟩ := hk
    obtain ⟨f, hf⟩ : ∃ f : Nat → Value, ∀ j, j < (tyOf P t).size → w.cell? ⟨a.block, a.off + (off + j), none⟩ = some (f j) ∧ ∀ c, cs[off + j]? = some c → R g c (f j) := by
      refine ⟨fun j => ((w.cell? ⟨a.block, a.off + (off + j), none⟩).getD undef), fun j hj => ?_⟩
      obtain ⟨v, hv, hr⟩ := h.2 (off + j) cs[off + j] (by simp)
      refine ⟨by simp [hv], fun c hc => ?_⟩
      simp only [hv, Option.getD_some]
      rw [List.getElem?_eq_getElem (by omega)] at hc
      injection hc with hc
      subst hc
      exact hr
    have hl := run_loadCells (P := P) w (a.add off) (tyOf P t).size f (fun j hj => by
      rw [add_spot (a := a.add off) (by rw [hadd])]
      rw [hadd]
      simp only
      rw [Nat.add_assoc]
      exact (hf j hj).1)
    refine ⟨.agg ((List.range (tyOf P t).size).map f).toArray, .agg ((cs.drop off).take (tyOf P t).size), ?_, ?_, hk⟩
    · simp [loadVar, hag, hagg, hsz, hl]
    · refine .agg (by simp; omega) fun i c v hc hv => ?_
      simp only [List.getElem?_take, List.getElem?_drop] at hc
      split at hc
      · rename_i hi
        simp [hi] at hv
        subst hv
        exact (hf i hi).2 c hc
      · cases hc
  · rename_i hagg
    split at hk
    · rename_i c hc
      obtain ⟨v, hv, hr⟩ := h.2 off c hc
      refine ⟨v, c, ?_, hr, hk⟩
      have : (tyOf P t).kind.agg = false := by simpa using hagg
      rw [hadd]
      simp [loadVar, hag, this, load, Sem.run, hv]
    · exact hk.elim
theorem R.behind {g : Gh} {w : World} {σ : Store} (hc : Conc g w σ) {p : AV} {v : Value} (hr : R g p v) {k : List AV → Nat → Prop} (hk : behind σ p k) :
    ∃ a cs off, v = .pointer (some (Addr.add a off)) ∧ Lies g w a cs ∧ k cs off := by
  unfold Kern.behind at hk
  split at hk
  · rename_i x off
    cases hr with
    | ip hs ho hi h =>
      rename_i base a vs
      refine ⟨⟨a.block, base, none⟩, x.cells, off, ?_, ⟨rfl, fun i c hcx => ?_⟩, hk⟩
      · rw [add_spot rfl]
        simp only
        rw [← ho]
        cases a; simp only at hs; subst hs; rfl
      · have hlt : i < x.cells.length := (List.getElem?_eq_some_iff.1 hcx).1
        exact ⟨vs i, hc.imm _ _ _ (hi i hlt), h i c hcx⟩
  · rename_i o i off
    split at hk
    · rename_i rows hrows
      split at hk
      · rename_i x hx
        cases hr with
        | ptr hb =>
          rename_i b sz n
          obtain ⟨blk, h1, h2⟩ := hc.obj
          obtain ⟨hB, sz', cells, ⟨n', hl, _⟩, hh, hu, hcs, hrr, him⟩ := h1 o _ hrows
          rw [hb] at hl
          injection hl with hl
          injection hl with hl1 hl2
          injection hl2 with hl2 hl3
          subst hl2; subst hl3
          rw [← hl1] at hh
          refine ⟨⟨b, i * sz, none⟩, x.cells, off, by rw [add_spot rfl], ⟨rfl, fun j c hcx => ?_⟩, hk⟩
          have hj : j < x.cells.length := (List.getElem?_eq_some_iff.1 hcx).1
          have hxs : x.cells.length = sz := hu x (List.mem_of_getElem? hx)
          have hrow := cellsL_row rows hu i j x hx (by omega)
          rw [hcx] at hrow
          have hlt : i * sz + j < cells.size := by
            refine Nat.lt_of_lt_of_le ?_ hcs
            rw [← cellsL_length rows hu]
            exact (List.getElem?_eq_some_iff.1 hrow).1
          exact ⟨cells[i * sz + j], by simp [World.cell?, hh, hlt], hrr _ _ _ hrow (by simp [hlt])⟩
      · exact hk.elim
    · exact hk.elim
  · exact hk.elim
theorem sound_load {P : Program} {g : Gh} {w : World} {σ : Store} (hc : Conc g w σ) {t : TypeId} {p : AV} {v : Value} (hr : R g p v) {k : AV → Prop} (hk : behind σ p fun cs off => loadA (tyOf P t) cs off k) :
    ∃ u r, (Instr.loadAt t v).run P w = .ok u w ∧ R g r u ∧ k r := by
  obtain ⟨a, cs, off, rfl, hl, hk⟩ := hr.behind hc hk
  obtain ⟨u, r, hrun, h1, h2⟩ := hl.load hk
  exact ⟨u, r, by simp [Instr.loadAt, Instr.sureAddr, hrun], h1, h2⟩
theorem alloc_imm {P : Program} {g : Gh} {w : World} {σ : Store} (hc : Conc g w σ) {x : AV} {v : Value} (hx : R g x v) (hk : x.known = true) (e : TypeId) :
    ∃ g', g.Le g' ∧ Conc g' (w.alloc (.cells v.cells e)) σ ∧ R g' (.ip x 0) (.pointer (some ⟨w.heap.size, 0, none⟩)) := by
  have hle := Gh.Le_addImm hc v.cells v.cells.size
  refine ⟨g.addImm w.heap.size v.cells v.cells.size, hle, hc.addImm (Below.alloc (Below.refl _ _) (Nat.le_refl _) _) _ _ (fun o u ho hu => ?_), ?_⟩
  · rw [World.cell?_alloc_new]; exact hu
  · obtain ⟨hl, hcs⟩ := hx.cells hk
    refine .ip (base := 0) (vs := fun i => v.cells.getD i undef) rfl rfl (fun i hi => ?_) (fun i c hic => ?_)
    · simp [Gh.addImm, show i < v.cells.size by omega]
    · have hi : i < x.cells.length := (List.getElem?_eq_some_iff.1 hic).1
      exact (hcs i c _ hic (by simp [show i < v.cells.size by omega])).le hle
theorem cells_one_agg {v : Value} : (∃ cs, v = .agg cs) ∨ v.cells = #[v] := by
  cases v <;> first | exact .inr rfl | exact .inl ⟨_, rfl⟩
theorem R.agg_inv {g : Gh} {cs : List AV} {v : Value} (h : R g (.agg cs) v) : ∃ vs, v = .agg vs ∧ cs.length = vs.size ∧ ∀ (i : Nat) (c : AV) (u : Value), cs[i]? = some c → vs[i]? = some u → R g c u := by
  cases h with
  | agg hl h => exact ⟨_, rfl, hl, h⟩
theorem sound_fieldAddr {P : Program} {g : Gh} {w : World} {s : TypeId} {p : AV} {i : Nat} {v : Value} (hr : R g p v) {k : AV → Prop} (hk : fieldAddrA (tyOf P s) p i k) :
    ∃ u r, (Instr.fieldAt s v i).run P w = .ok u w ∧ R g r u ∧ k r := by
  obtain ⟨hs, hk⟩ := hk
  obtain ⟨ti, td, h1, h2, h3⟩ := ty_kind hs (by simp)
  cases td <;> simp [kindOf] at h3
  rename_i fs
  have hf : (tyOf P s).fields = fs.toList.map (fieldOf P) := by simp [tyOf, h1, h2]
  rw [hf] at hk
  cases hfi : fs[i]? with
  | none => simp [hfi] at hk
  | some f =>
    simp only [List.getElem?_map, Array.getElem?_toList, hfi, Option.map_some] at hk
    have hfo : ∃ ii, P.info? f.type = some ii ∧ ii.size ≠ 0 ∧ (fieldOf P f).1 = f.offset := by
      unfold fieldOf at hk ⊢
      cases hi1 : P.info? f.type with
      | none => simp [hi1] at hk
      | some ii =>
        cases hi2 : P.underlying f.type with
        | none => simp [hi1, hi2] at hk
        | some dd => simp only [hi1, hi2] at hk ⊢; exact ⟨ii, rfl, hk.1, trivial⟩
    obtain ⟨ii, hii, hne, hoff⟩ := hfo
    have hrun : ∀ a : Addr, (Instr.fieldAt s (.pointer (some a)) i).run P w = .ok (.pointer (some (a.add f.offset))) w := by
      intro a
      simp [Instr.fieldAt, run_underlying h2, hfi, Instr.sureAddr, fieldPlace, sizeOf, typeInfo, hii, hne]
    revert hk
    rcases hfd : fieldOf P f with ⟨off, sz, ag, ft⟩
    rw [hfd] at hoff
    simp only at hoff
    subst hoff
    intro hk
    obtain ⟨_, hk⟩ := hk
    cases p <;> simp only at hk <;> try exact hk.elim
    · rename_i x o
      cases hr with
      | ip hs ho hi h =>
        rename_i base a vs
        refine ⟨_, _, hrun a, ?_, hk⟩
        refine .ip (base := base) (vs := vs) (by rw [add_spot hs]) ?_ ?_ h
        · rw [add_spot hs]; simp only; omega
        · rw [add_spot hs]; exact hi
    · rename_i o r c
      cases hr with
      | ptr hb =>
        refine ⟨_, _, hrun _, ?_, hk⟩
        rw [add_spot rfl]
        simp only
        rw [Nat.add_assoc]
        exact .ptr hb
theorem sound_part {P : Program} {g : Gh} {w : World} {t : TypeId} {cs : List AV} {vs : Array Value} (hl : cs.length = vs.size) (h : ∀ (i : Nat) (c : AV) (u : Value), cs[i]? = some c → vs[i]? = some u → R g c u)
    {off : Nat} {k : AV → Prop} (hk : loadA (tyOf P t) cs off k) : ∃ u r, (part t vs off).run P w = .ok u w ∧ R g r u ∧ k r := by
  obtain ⟨hok, hk⟩ := hk
  have hag := run_isAgg' hok w
  have hsz := run_sizeOf' hok w
  split at hk
  · rename_i hagg
    obtain ⟨hle, hk⟩ := hk
    refine ⟨.agg (vs.extract off (off + (tyOf P t).size)), _, by simp [part, hag, hagg, hsz], ?_, hk⟩
    refine .agg (by simp; omega) fun i c v hc hv => ?_
    simp only [List.getElem?_take, List.getElem?_drop] at hc
    split at hc
    · rename_i hi
      have hlt : off + i < cs.length := (List.getElem?_eq_some_iff.1 hc).1
      refine h _ c v hc ?_
      rw [Array.getElem?_extract] at hv
      split at hv
      · exact hv
      · cases hv
    · cases hc
  · rename_i hagg
    have hf : (tyOf P t).kind.agg = false := by simpa using hagg
    split at hk
    · rename_i c hcx
      have hlt : off < cs.length := (List.getElem?_eq_some_iff.1 hcx).1
      have hv : vs[off]? = some (vs[off]'(by omega)) := by simp [show off < vs.size by omega]
      exact ⟨vs[off]'(by omega), c, by simp [part, hag, hf, hv], h _ c _ hcx hv, hk⟩
    · exact hk.elim
theorem sound_field {P : Program} {g : Gh} {w : World} {s : TypeId} {x : AV} {i : Nat} {v : Value} (hr : R g x v) {k : AV → Prop} (hk : fieldA P (tyOf P s) x i k) :
    ∃ u r, (Instr.field s v i).run P w = .ok u w ∧ R g r u ∧ k r := by
  obtain ⟨hs, hk⟩ := hk
  obtain ⟨ti, td, h1, h2, h3⟩ := ty_kind hs (by simp)
  cases td <;> simp [kindOf] at h3
  rename_i fs
  have hf : (tyOf P s).fields = fs.toList.map (fieldOf P) := by simp [tyOf, h1, h2]
  rw [hf] at hk
  cases hfi : fs[i]? with
  | none => simp [hfi] at hk
  | some f =>
    simp only [List.getElem?_map, Array.getElem?_toList, hfi, Option.map_some] at hk
    have e1 : (fieldOf P f).1 = f.offset ∧ (fieldOf P f).2.2.2 = f.type := by unfold fieldOf; split <;> exact ⟨rfl, rfl⟩
    revert hk
    rcases hfd : fieldOf P f with ⟨off, sz, ag, ft⟩
    rw [hfd] at e1
    simp only at e1
    obtain ⟨rfl, rfl⟩ := e1
    intro hk
    cases x <;> simp only at hk <;> try exact hk.elim
    rename_i cs
    obtain ⟨vs, rfl, hl, h⟩ := hr.agg_inv
    obtain ⟨u, r, hrun, h4, h5⟩ := sound_part (w := w) hl h hk
    exact ⟨u, r, by simp [Instr.field, run_underlying h2, hfi, asAgg, hrun], h4, h5⟩
theorem sound_indexAddr {P : Program} {g : Gh} {w : World} {s : TypeId} {x ix : AV} {v iv : Value} (hr : R g x v) (hri : R g ix iv) {k : AV → Prop} (hk : indexAddrA P (tyOf P s) x ix k) :
    ∃ u r, (Instr.indexAt s v iv).run P w = .ok u w ∧ R g r u ∧ k r := by
  unfold indexAddrA at hk
  split at hk
  · rename_i kd xs ki i
    obtain ⟨hs, hok, h0, hlt, hsz, hk⟩ := hk
    have hu := ty_slice hs
    cases hri
    have hso := run_sizeOf' hok w
    cases hr with
    | slnil => simp at hlt; omega
    | sl hkk hsp huu hi h =>
      rename_i a cap sz vs
      have hlt' : i.toNat < xs.length := by omega
      have hx : xs[i.toNat]? = some (xs.getD i.toNat .any) := by simp [List.getD_eq_getElem?_getD, hlt']
      have hszz : (xs.getD i.toNat .any).cells.length = sz := huu _ (List.mem_of_getElem? hx)
      have hsp' : a.spot = none := hsp (by intro e; subst e; simp at hlt')
      refine ⟨.pointer (some (a.add (i.toNat * (tyOf P (tyOf P s).elem).size))), _, ?_, ?_, hk⟩
      · simp [Instr.indexAt, asIntOf, run_underlying hu, h0, hlt, hso]
      · rw [add_spot hsp', ← hsz, hszz]
        refine .ip (base := a.off + i.toNat * sz) (vs := fun j => vs (i.toNat * sz + j)) rfl rfl (fun j hj => ?_) (fun j c hc => ?_)
        · have hrow := cellsL_row xs huu i.toNat j _ hx (by omega)
          have : i.toNat * sz + j < (cellsL xs).length := by
            rw [List.getElem?_eq_getElem hj] at hrow
            exact (List.getElem?_eq_some_iff.1 hrow).1
          have := hi _ this
          simp only
          rw [Nat.add_assoc]
          exact this
        · have hj : j < (xs.getD i.toNat .any).cells.length := (List.getElem?_eq_some_iff.1 hc).1
          have hrow := cellsL_row xs huu i.toNat j _ hx (by omega)
          exact h _ c (hrow.trans hc)
  · rename_i o sz st n ki i
    obtain ⟨hs, hok, h0, hlt, rfl, hk⟩ := hk
    have hu := ty_slice hs
    cases hri
    have hso := run_sizeOf' hok w
    cases hr with
    | ms hb hc hln ha =>
      rename_i b nn cap a
      have := ha (by omega)
      subst this
      refine ⟨.pointer (some (Addr.add ⟨b, st * (tyOf P (tyOf P s).elem).size, none⟩ (i.toNat * (tyOf P (tyOf P s).elem).size))), _, ?_, ?_, hk⟩
      · simp [Instr.indexAt, asIntOf, run_underlying hu, h0, hlt, hso]
      · rw [add_spot rfl]
        have := R.ptr (g := g) (i := st + i.toNat) (off := 0) hb
        rw [Nat.add_zero, Nat.add_mul] at this
        exact this
  · exact hk.elim
theorem sound_index {P : Program} {g : Gh} {w : World} {s : TypeId} {x ix : AV} {v iv : Value} (hr : R g x v) (hri : R g ix iv) {k : AV → Prop} (hk : indexA (tyOf P s) x ix k) :
    ∃ u r, (Instr.index s v iv).run P w = .ok u w ∧ R g r u ∧ k r := by
  unfold indexA at hk
  split at hk
  · rename_i str ki i
    obtain ⟨hs, h0, hlt, hk⟩ := hk
    obtain ⟨ti, td, h1, h2, h3⟩ := ty_kind hs (by simp)
    cases td <;> simp [kindOf] at h3
    cases hri
    cases hr
    have hlt' : i.toNat < str.size := by omega
    refine ⟨_, _, ?_, .int _ _, hk⟩
    have hb : str[i.toNat]? = some (str.data.getD i.toNat 0) := by
      have e : str[i.toNat]? = some str[i.toNat] := by simp [hlt']
      rw [e]
      congr 1
      have hd : i.toNat < str.data.size := hlt'
      simp [Array.getD_eq_getD_getElem?, Array.getElem?_eq_getElem hd]
      rfl
    simp [Instr.index, asIntOf, run_underlying h2, h0, hb]
  · exact hk.elim
theorem sound_len {P : Program} {g : Gh} {w : World} {σ : Store} (hc : Conc g w σ) {t : TypeId} {ty : TypeId} {x : AV} {v : Value} (hr : R g x v) {k : AV → Prop} (hk : lenA (tyOf P t) σ x k) :
    ∃ u r, (Builtin.len_ #[t] ty #[v]).run P w = .ok u w ∧ R g r u ∧ k r := by
  unfold lenA at hk
  split at hk
  · obtain ⟨hs, hk⟩ := hk
    obtain ⟨ti, td, h1, h2, h3⟩ := ty_kind hs (by simp)
    cases td <;> simp [kindOf] at h3
    cases hr
    exact ⟨.int .i64 _, _, by simp [Builtin.len_, run_underlying h2, goInt], .int _ _, hk⟩
  · obtain ⟨hs, hk⟩ := hk
    have h2 := ty_slice hs
    cases hr with
    | slnil => exact ⟨.int .i64 _, _, by simp [Builtin.len_, run_underlying h2, goInt], .int _ _, hk⟩
    | sl => exact ⟨.int .i64 _, _, by simp [Builtin.len_, run_underlying h2, goInt], .int _ _, hk⟩
  · obtain ⟨hs, hk⟩ := hk
    have h2 := ty_slice hs
    cases hr
    exact ⟨.int .i64 _, _, by simp [Builtin.len_, run_underlying h2, goInt], .int _ _, hk⟩
  · obtain ⟨hs, hk⟩ := hk
    obtain ⟨ti, td, h1, h2, h3⟩ := ty_kind hs (by simp)
    cases td <;> simp [kindOf] at h3
    cases hr
    exact ⟨.int .i64 _, _, by simp [Builtin.len_, run_underlying h2, goInt], .int _ _, hk⟩
  · obtain ⟨hs, hk⟩ := hk
    obtain ⟨ti, td, h1, h2, h3⟩ := ty_kind hs (by simp)
    cases td <;> simp [kindOf] at h3
    split at hk
    · rename_i es hes
      cases hr with
      | map hb =>
        rename_i b
        obtain ⟨blk, h4, _⟩ := hc.obj
        obtain ⟨_, en, ck, hl, hh, hlen, _⟩ := h4 _ _ hes
        rw [hb] at hl
        injection hl with hl
        injection hl with hl _
        subst hl
        refine ⟨_, _, ?_, .int _ _, hk⟩
        rw [hlen]
        simp [Builtin.len_, run_underlying h2, goInt, getObj, Sem.run, hh]
    · exact hk.elim
  · exact hk.elim
theorem sound_extract {P : Program} {g : Gh} {w : World} {x : AV} {i : Nat} {v : Value} (hr : R g x v) {k : AV → Prop} (hk : extractA x i k) :
    ∃ u r, (Instr.extract v i).run P w = .ok u w ∧ R g r u ∧ k r := by
  unfold extractA at hk
  split at hk
  · rename_i vs
    split at hk
    · rename_i c hcx
      cases hr with
      | tup hl h =>
        rename_i us
        have hlt : i < vs.length := (List.getElem?_eq_some_iff.1 hcx).1
        have hv : us[i]? = some (us[i]'(by omega)) := by simp [show i < us.size by omega]
        exact ⟨us[i]'(by omega), c, by simp [Instr.extract, hv], h _ c _ hcx hv, hk⟩
    · exact hk.elim
  · exact hk.elim
end Go.Kern

namespace Go.Kern
open Go.RowKit
theorem sk_isNil {g : Gh} {k : SK} {xs : List AV} {v : Value} (h : R g (.sl k xs) v) : ∃ a n c, v = .slice a n c ∧ a.isNone = k.isNil := by
  cases h with
  | slnil => exact ⟨_, _, _, rfl, rfl⟩
  | sl hk hs hu hi h =>
    refine ⟨_, _, _, rfl, ?_⟩
    cases k <;> first | rfl | exact hk.elim
theorem run_binOp_int {P : Program} {w : World} {op : BinOp} {i : IntKind} {a b : Int} {t : TypeId} (h1 : op ≠ .shl) (h2 : op ≠ .shr) :
    binOp op t (.int i a) (.int i b) = (match op with
    | .add | .sub | .mul => Op.intArith op i a b
    | .quo | .rem => Op.intDiv op i a b
    | .and | .or | .xor | .andNot => Op.intBits op i a b
    | _ => Op.intCmp op a b) := by
  cases op <;> first | exact (h1 rfl).elim | exact (h2 rfl).elim | simp [binOp]
theorem sound_int {P : Program} {w : World} {op : BinOp} {i : IntKind} {a b : Int} {k : AV → Prop} (hk : intOpA op i a b k) (h1 : op ≠ .shl) (h2 : op ≠ .shr) {t : TypeId} {g : Gh} :
    ∃ u r, (binOp op t (.int i a) (.int i b)).run P w = .ok u w ∧ R g r u ∧ k r := by
  rw [run_binOp_int (P := P) (w := w) h1 h2]
  cases op <;> simp only [intOpA] at hk
  case add => exact ⟨_, _, rfl, .int _ _, hk⟩
  case sub => exact ⟨_, _, rfl, .int _ _, hk⟩
  case mul => exact ⟨_, _, rfl, .int _ _, hk⟩
  case quo => exact ⟨.int i (i.wrap (a.tdiv b)), _, by simp [Op.intDiv, hk.1], .int _ _, hk.2⟩
  case rem => exact ⟨.int i (a.tmod b), _, by simp [Op.intDiv, hk.1], .int _ _, hk.2⟩
  case eql => exact ⟨.bool (decide (a = b)), _, by simp only [Op.intCmp, Sem.run_pure]; congr 2, .bool _, hk⟩
  case neq => exact ⟨.bool (!decide (a = b)), _, by simp only [Op.intCmp, Sem.run_pure]; congr 2, .bool _, hk⟩
  case lss => exact ⟨_, _, rfl, .bool _, hk⟩
  case leq => exact ⟨_, _, rfl, .bool _, hk⟩
  case gtr => exact ⟨_, _, rfl, .bool _, hk⟩
  case geq => exact ⟨_, _, rfl, .bool _, hk⟩
  case and => exact ⟨_, _, rfl, .int _ _, hk⟩
  case or => exact ⟨_, _, rfl, .int _ _, hk⟩
  case xor => exact ⟨_, _, rfl, .int _ _, hk⟩
  case andNot => exact ⟨_, _, rfl, .int _ _, hk⟩
  all_goals exact hk.elim
theorem toList_inj {a b : ByteArray} : a.toList = b.toList ↔ a = b := by
  constructor
  · intro h
    have e : ∀ x : ByteArray, x.toList = x.data.toList := fun x => Lib.toList_data x
    rw [e, e] at h
    cases a; cases b
    simp only at h
    congr 1
    exact Array.toList_inj.1 h
  · rintro rfl; rfl
theorem beq_toList (a b : ByteArray) : (a.toList == b.toList) = decide (a = b) := by
  by_cases h : a = b
  · subst h; simp
  · have : a.toList ≠ b.toList := fun e => h (toList_inj.1 e)
    rw [decide_eq_false h]
    exact beq_eq_false_iff_ne.2 this
theorem sound_str {P : Program} {w : World} {op : BinOp} {a b : ByteArray} {k : AV → Prop} (hk : strOpA op a b k) {t : TypeId} {g : Gh} :
    ∃ u r, (binOp op t (.string a) (.string b)).run P w = .ok u w ∧ R g r u ∧ k r := by
  have hmax : IntKind.i64.max = 9223372036854775807 := by decide
  have hb := beq_toList a b
  have e1 : ∀ o : BinOp, binOp o t (.string a) (.string b) = Op.stringOp o a b := fun o => by cases o <;> rfl
  cases op <;> simp only [strOpA] at hk <;> first
    | exact hk.elim
    | (refine ⟨.string (a ++ b), _, ?_, .str _, hk.2⟩
       rw [e1]
       simp only [Op.stringOp]
       rw [if_neg (by rw [hmax]; omega)]
       rfl)
    | (refine ⟨.bool _, _, ?_, .bool _, hk⟩
       rw [e1]
       simp only [Op.stringOp, hb]
       rfl)
def nilV (kind : TK) (v : Value) : Option Bool :=
  match kind, v with
  | .slice, .slice a _ _ => some a.isNone
  | .ptr, .pointer a => some a.isNone
  | .map, .map a => some a.isNone
  | .func, .func .. => some false
  | .func, .nilFunc => some true
  | _, _ => none
theorem nilSide_V {g : Gh} {kind : TK} {x : AV} {v : Value} (h : R g x v) {a : Bool} (ha : nilSide kind x = some a) : nilV kind v = some a := by
  cases kind <;> cases x <;> simp [nilSide] at ha <;> subst ha
  case slice.sl =>
    obtain ⟨a, n, c, rfl, h2⟩ := sk_isNil h
    simp [nilV, h2]
  all_goals (cases h; rfl)
theorem run_equal_nil {P : Program} {w : World} {t : TypeId} {u v : Value} {a b : Bool} (h1 : nilV (tyOf P t).kind u = some a) (h2 : nilV (tyOf P t).kind v = some b) (hab : a = true ∨ b = true) :
    (Op.equal t u v).run P w = .ok (a && b) w := by
  unfold Op.equal
  obtain ⟨d, hd⟩ : ∃ d, Op.maxDepth = d + 1 := ⟨9999, rfl⟩
  rw [hd]
  clear hd
  cases hkd : (tyOf P t).kind <;> rw [hkd] at h1 h2 <;> try (simp [nilV] at h1; done)
  all_goals
    obtain ⟨ti, td, i1, i2, i3⟩ := ty_kind hkd (by simp)
    cases td <;> simp [kindOf] at i3
    cases u <;> simp [nilV] at h1 <;> cases v <;> simp [nilV] at h2 <;> simp only [Op.equalIn, Sem.run_bind, run_underlying i2, Result.andThen_ok]
  · rename_i a1 _ _ b1 _ _
    cases a1 <;> cases b1 <;> simp at h1 h2 <;> subst h1 <;> subst h2 <;> simp at hab ⊢
  · rename_i a1 b1
    cases a1 <;> cases b1 <;> simp at h1 h2 <;> subst h1 <;> subst h2 <;> simp at hab ⊢
  · rename_i a1 b1
    cases a1 <;> cases b1 <;> simp at h1 h2 <;> subst h1 <;> subst h2 <;> simp at hab ⊢
  all_goals (subst h1; subst h2; simp at hab ⊢)
theorem sound_nil {P : Program} {w : World} {op : BinOp} {t : TypeId} {x y : AV} {u v : Value} {g : Gh} (hx : R g x u) (hy : R g y v) {k : AV → Prop} (hk : nilOpA (tyOf P t).kind op x y k) :
    ∃ z r, (binOp op t u v).run P w = .ok z w ∧ R g r z ∧ k r ∧ ∀ p q, eqGuard op t p q u v = pure () := by
  unfold nilOpA at hk
  cases hnx : nilSide (tyOf P t).kind x with
  | none => simp [hnx] at hk
  | some a =>
    cases hny : nilSide (tyOf P t).kind y with
    | none => simp [hnx, hny] at hk
    | some b =>
      simp only [hnx, hny] at hk
      obtain ⟨hab, hk⟩ := hk
      have h1 := nilSide_V hx hnx
      have h2 := nilSide_V hy hny
      have hrun := run_equal_nil (P := P) (w := w) h1 h2 hab
      have hg : ∀ o p q, eqGuard o t p q u v = pure () := by
        intro o p q
        cases hkd : (tyOf P t).kind <;> rw [hkd] at h1 h2 <;> cases u <;> simp [nilV] at h1 <;> cases o <;> rfl
      have hbo : ∀ o : BinOp, o = .eql ∨ o = .neq → (binOp o t u v).run P w = .ok (.bool (if o = .eql then (a && b) else !(a && b))) w := by
        intro o ho
        cases hkd : (tyOf P t).kind <;> rw [hkd] at h1 h2 <;> cases u <;> simp [nilV] at h1 <;> cases v <;> simp [nilV] at h2 <;> rcases ho with rfl | rfl <;> simp [binOp, hrun]
      cases op <;> simp only at hk <;> first | exact hk.elim | skip
      · exact ⟨_, _, hbo _ (.inl rfl), .bool _, by simpa using hk, hg _⟩
      · exact ⟨_, _, hbo _ (.inr rfl), .bool _, by simpa using hk, hg _⟩
end Go.Kern

namespace Go.Kern
open Go.RowKit
theorem sound_un {P : Program} {w : World} {op : UnOp} {x : AV} {v : Value} {g : Gh} (hx : R g x v) {k : AV → Prop} (hk : unA op x k) :
    ∃ u r, (Op.unary op v).run P w = .ok u w ∧ R g r u ∧ k r := by
  unfold unA at hk
  split at hk
  · cases hx; exact ⟨_, _, rfl, .bool _, hk⟩
  · cases hx; exact ⟨_, _, rfl, .int _ _, hk⟩
  · exact hk.elim
theorem sound_conv {P : Program} {w : World} {s d : TypeId} {x : AV} {v : Value} {g : Gh} (hx : R g x v) {k : AV → Prop} (hk : convA (tyOf P s) (tyOf P d) x k) :
    ∃ u r, (convert s d v).run P w = .ok u w ∧ R g r u ∧ k r := by
  obtain ⟨hs, hd, hk⟩ := hk
  obtain ⟨i1, d1, a1, a2, a3⟩ := ty_ok hs
  obtain ⟨i2, d2, b1, b2, b3⟩ := ty_ok hd
  rw [b3] at hk
  cases d2 <;> cases x <;> simp only [kindOf] at hk <;> first | exact hk.elim | skip
  · cases hx
    exact ⟨.int _ _, _, by simp [convert, run_underlying a2, run_underlying b2, Conv.intToInt], .int _ _, hk⟩
  · cases hx
    exact ⟨.string _, _, by cases d1 <;> (simp [convert, run_underlying a2, run_underlying b2]), .str _, hk⟩
theorem mem_cut {xs : List AV} {l h : Nat} {x : AV} (hx : x ∈ (xs.take h).drop l) : x ∈ xs := List.mem_of_mem_take (List.mem_of_mem_drop hx)
theorem cellsL_cut {sz : Nat} (xs : List AV) (hu : ∀ x ∈ xs, x.cells.length = sz) (l h i : Nat) (hi : i < (cellsL ((xs.take h).drop l)).length) :
    (cellsL xs)[l * sz + i]? = (cellsL ((xs.take h).drop l))[i]? := by
  have hu' : ∀ x ∈ (xs.take h).drop l, x.cells.length = sz := fun x hx => hu x (mem_cut hx)
  rcases Nat.eq_zero_or_pos sz with h0 | h0
  · rw [cellsL_length _ hu', h0] at hi; omega
  · rw [cellsL_get h0 _ hu', cellsL_get h0 _ hu, Nat.mul_comm, Nat.mul_add_div h0, Nat.mul_add_mod]
    have hlt : i / sz < ((xs.take h).drop l).length := by
      rw [cellsL_length _ hu'] at hi
      exact Nat.div_lt_of_lt_mul (by rw [Nat.mul_comm]; exact hi)
    have : ((xs.take h).drop l)[i / sz]? = xs[l + i / sz]? := by
      rw [List.getElem?_drop, List.getElem?_take]
      rw [List.length_drop, List.length_take] at hlt
      generalize i / sz = q at hlt ⊢
      rw [if_pos (by omega)]
    rw [this]
theorem run_bound {P : Program} {w : World} (kk : IntKind) (i : Int) (y : Nat) (c : BoundsCode) (h0 : 0 ≤ i) (h1 : i ≤ y) : (Instr.sliceBound (.int kk i) y c).run P w = .ok i.toNat w := by
  simp [Instr.sliceBound, asIntOf, h0, h1]
theorem run_bounds {P : Program} {w : World} {g : Gh} (isS : Bool) (len cap : Nat) (hlc : len ≤ cap) {lo hi : Option AV} {lo' hi' : Option Value}
    (hlo : ∀ a, lo = some a → ∃ v, lo' = some v ∧ R g a v) (hlo0 : lo = none → lo' = none) (hhi : ∀ a, hi = some a → ∃ v, hi' = some v ∧ R g a v) (hhi0 : hi = none → hi' = none)
    {l h : Int} (hl : boundA 0 lo = some l) (hh : boundA len hi = some h) (h0 : 0 ≤ l) (h1 : l ≤ h) (h2 : h ≤ len) :
    (Instr.sliceBounds isS len cap lo' hi' none).run P w = .ok (l.toNat, h.toNat, cap) w := by
  have hlow : ∀ c, ((match lo' with | some v => Instr.sliceBound v h.toNat c | none => pure 0 : Sem Nat)).run P w = .ok l.toNat w := by
    intro c
    cases lo with
    | none =>
      rw [hlo0 rfl]
      simp only [boundA, Option.some.injEq] at hl
      subst hl
      rfl
    | some a =>
      obtain ⟨v, rfl, hr⟩ := hlo a rfl
      cases a <;> simp only [boundA, Option.some.injEq] at hl <;> try (cases hl; done)
      subst hl
      cases hr
      exact run_bound _ _ _ _ h0 (by omega)
  cases hi with
  | none =>
    rw [hhi0 rfl]
    simp only [boundA, Option.some.injEq] at hh
    subst hh
    have := hlow .sliceB
    simp only [Int.toNat_natCast] at this
    cases lo' with
    | none => simp only [Instr.sliceBounds]; simp at this ⊢; exact this
    | some v => simp only [Instr.sliceBounds]; simp at this ⊢; simp [this]
  | some a =>
    obtain ⟨v, rfl, hr⟩ := hhi a rfl
    cases a <;> simp only [boundA, Option.some.injEq] at hh <;> try (cases hh; done)
    subst hh
    cases hr
    rename_i kk n
    have hb : ∀ c, (Instr.sliceBound (.int kk n) cap c).run P w = .ok n.toNat w := fun c => run_bound _ _ _ _ (by omega) (by omega)
    have := hlow .sliceB
    cases lo' with
    | none => simp only [Instr.sliceBounds]; simp [hb] at this ⊢; exact this
    | some v => simp only [Instr.sliceBounds]; simp [hb] at this ⊢; simp [this]
theorem run_bounds3 {P : Program} {w : World} {g : Gh} (len cap : Nat) (hlc : len ≤ cap) {lo : Option AV} {lo' : Option Value} (hlo : ∀ a, lo = some a → ∃ v, lo' = some v ∧ R g a v) (hlo0 : lo = none → lo' = none)
    (k1 k2 : IntKind) {l h : Int} (hl : boundA 0 lo = some l) (h0 : 0 ≤ l) (h1 : l ≤ h) (h2 : h ≤ len) :
    (Instr.sliceBounds true len cap lo' (some (.int k1 h)) (some (.int k2 h))).run P w = .ok (l.toNat, h.toNat, h.toNat) w := by
  have hb : ∀ kk y c, h ≤ (y : Nat) → (Instr.sliceBound (.int kk h) y c).run P w = .ok h.toNat w := fun kk y c hy => run_bound _ _ _ _ (by omega) hy
  have hlow : ∀ c, ((match lo' with | some v => Instr.sliceBound v h.toNat c | none => pure 0 : Sem Nat)).run P w = .ok l.toNat w := by
    intro c
    cases lo with
    | none =>
      rw [hlo0 rfl]
      simp only [boundA, Option.some.injEq] at hl
      subst hl
      rfl
    | some a =>
      obtain ⟨v, rfl, hr⟩ := hlo a rfl
      cases a <;> simp only [boundA, Option.some.injEq] at hl <;> try (cases hl; done)
      subst hl
      cases hr
      exact run_bound _ _ _ _ h0 (by omega)
  have hb1 := fun c => hb k2 cap c (by omega)
  have hb2 := fun c => hb k1 h.toNat c (by omega)
  have := hlow .slice3C
  cases lo' with
  | none => simp only [Instr.sliceBounds]; simp [hb1, hb2] at this ⊢; exact this
  | some v => simp only [Instr.sliceBounds]; simp [hb1, hb2] at this ⊢; simp [this]
theorem R_cut {g : Gh} {kd : SK} {xs : List AV} {v : Value} (hx : R g (.sl kd xs) v) {size l h m : Nat} (hsz : ∀ x ∈ xs, x.cells.length = size) (h1 : l ≤ h) (h2 : h ≤ xs.length) (kd' : SK)
    (hkd : kd' = kd.cut ∨ (kd' = kd.cutFull ∧ m = h)) :
    ∀ a n cap, v = .slice a n cap → n = xs.length ∧ n ≤ cap ∧ (h ≤ m → m ≤ cap → R g (.sl kd' ((xs.take h).drop l)) (.slice (if m = l then a else a.map (·.add (l * size))) (h - l) (m - l))) := by
  intro a n cap hv
  cases hx with
  | slnil =>
    injection hv with e1 e2 e3
    subst e1; subst e2; subst e3
    refine ⟨rfl, Nat.le_refl _, fun hm hmc => ?_⟩
    simp at h2
    have : l = 0 := by omega
    have hm0 : m = 0 := by omega
    subst h2; subst this; subst hm0
    have : kd' = .nil := by rcases hkd with e | ⟨e, _⟩ <;> simpa [SK.cut, SK.cutFull] using e
    subst this
    simp
    exact .slnil
  | sl hk hs hu hi hr =>
    rename_i a0 cap0 sz vs
    injection hv with e1 e2 e3
    subst e1; subst e2; subst e3
    have hcap : xs.length ≤ cap0 := by
      cases kd with
      | nil => exact hk.elim
      | imm => exact hk
      | full => have : cap0 = xs.length := hk; omega
      | tip o => exact hk.1
    refine ⟨rfl, hcap, fun hm hmc => ?_⟩
    have hlen : ((xs.take h).drop l).length = h - l := by simp; omega
    have hnn : kd ≠ .nil := by rintro rfl; exact hk
    have hk' : ∀ a', SKOk g kd' a' ((xs.take h).drop l).length (m - l) := by
      intro a'
      rcases hkd with e | ⟨e, rfl⟩
      · have : kd' = .imm := by cases kd <;> first | exact (hnn rfl).elim | simpa [SK.cut, SK.cutFull] using e
        subst this
        simp only [SKOk]
        omega
      · have : kd' = .full := by cases kd <;> first | exact (hnn rfl).elim | simpa [SK.cut, SK.cutFull] using e
        subst this
        simp only [SKOk]
        omega
    have hu' : ∀ x ∈ (xs.take h).drop l, x.cells.length = sz := fun x hx => hu x (mem_cut hx)
    have hgoal : ∀ a' : Addr, ((xs.take h).drop l ≠ [] → a' = ⟨a0.block, a0.off + l * sz, none⟩) → R g (.sl kd' ((xs.take h).drop l)) (.slice (some a') (h - l) (m - l)) := by
      intro a' ha'
      rw [← hlen]
      refine .sl (sz := sz) (vs := fun i => vs (l * sz + i)) (hk' a') (fun hne => by rw [ha' hne]) hu' (fun i hii => ?_) (fun i c hic => ?_)
      · have hne : (xs.take h).drop l ≠ [] := by intro e; rw [e] at hii; simp [cellsL] at hii
        rw [ha' hne]
        have := cellsL_cut xs hu l h i hii
        rw [List.getElem?_eq_getElem hii] at this
        have h3 := hi _ (List.getElem?_eq_some_iff.1 this).1
        simp only
        rw [Nat.add_assoc]
        exact h3
      · have hii : i < (cellsL ((xs.take h).drop l)).length := (List.getElem?_eq_some_iff.1 hic).1
        exact hr _ c ((cellsL_cut xs hu l h i hii).trans hic)
    by_cases hml : m = l
    · rw [if_pos hml]
      refine hgoal a0 (fun hne => absurd ?_ hne)
      rw [← List.length_eq_zero_iff]; omega
    · rw [if_neg hml]
      refine hgoal (a0.add (l * size)) (fun hne => ?_)
      have hxne : xs ≠ [] := by rintro rfl; simp at hne
      have hsp := hs hxne
      obtain ⟨x, hx⟩ := List.exists_mem_of_ne_nil xs hxne
      rw [← hu x hx, hsz x hx, add_spot hsp]
theorem sound_slice {P : Program} {w : World} {g : Gh} {t : TypeId} {x : AV} {v : Value} (hx : R g x v) {lo hi mx : Option AV} {lo' hi' mx' : Option Value}
    (hlo : ∀ a, lo = some a → ∃ v, lo' = some v ∧ R g a v) (hlo0 : lo = none → lo' = none) (hhi : ∀ a, hi = some a → ∃ v, hi' = some v ∧ R g a v) (hhi0 : hi = none → hi' = none)
    (hmx : ∀ a, mx = some a → ∃ v, mx' = some v ∧ R g a v) (hmx0 : mx = none → mx' = none) {k : AV → Prop} (hk : sliceA P (tyOf P t) x lo hi mx k) :
    ∃ u r, (Instr.sliceAt t v lo' hi' mx').run P w = .ok u w ∧ R g r u ∧ k r := by
  unfold sliceA at hk
  split at hk
  · rename_i s
    obtain ⟨hs, hm, hk⟩ := hk
    obtain ⟨ti, td, i1, i2, i3⟩ := ty_kind hs (by simp)
    cases td <;> simp [kindOf] at i3
    rw [hmx0 hm]
    split at hk
    · rename_i l h hl hh
      obtain ⟨h0, h1, h2, hk⟩ := hk
      cases hx
      have hb := run_bounds (P := P) (w := w) (g := g) false s.size s.size (Nat.le_refl _) hlo hlo0 hhi hhi0 hl hh h0 h1 h2
      exact ⟨_, _, by simp [Instr.sliceAt, Instr.slice, run_underlying i2, hb], .str _, hk⟩
    · exact hk.elim
  · rename_i kd xs
    obtain ⟨hs, hok, hsz, hk⟩ := hk
    replace hsz := fun x hx => (rowsOk_spec hsz x hx).2.1
    have i2 := ty_slice hs
    have hso := run_sizeOf' hok w
    obtain ⟨a, n, cap, rfl⟩ : ∃ a n cap, v = .slice a n cap := by cases hx <;> exact ⟨_, _, _, rfl⟩
    obtain ⟨hn, hnc, _⟩ := R_cut hx (size := (tyOf P (tyOf P t).elem).size) (l := 0) (h := 0) (m := 0) hsz (Nat.le_refl _) (Nat.zero_le _) _ (.inl rfl) a n cap rfl
    split at hk
    · rename_i l h hl hh
      obtain ⟨h0, h1, h2, hk⟩ := hk
      rw [hmx0 rfl]
      have hb := run_bounds (P := P) (w := w) (g := g) true n cap hnc hlo hlo0 hhi hhi0 hl (by rw [hn]; exact hh) h0 h1 (by omega)
      obtain ⟨_, _, hR⟩ := R_cut hx (size := (tyOf P (tyOf P t).elem).size) (l := l.toNat) (h := h.toNat) (m := cap) hsz (by omega) (by omega) _ (.inl rfl) a n cap rfl
      exact ⟨_, _, by simp [Instr.sliceAt, Instr.slice, run_underlying i2, hb, hso], hR (by omega) (Nat.le_refl _), hk⟩
    · rename_i l h km m hl hh
      obtain ⟨hsome, h0, h1, h2, hmh, hk⟩ := hk
      subst hmh
      obtain ⟨mv, rfl, hrm⟩ := hmx _ rfl
      cases hrm
      obtain ⟨ha, hha⟩ := Option.isSome_iff_exists.1 hsome
      subst hha
      obtain ⟨hv, rfl, hrh⟩ := hhi _ rfl
      cases ha <;> simp only [boundA, Option.some.injEq] at hh <;> try (cases hh; done)
      rename_i kz z
      subst hh
      cases hrh
      have hb := run_bounds3 (P := P) (w := w) (g := g) n cap hnc hlo hlo0 kz km hl h0 h1 (by omega)
      obtain ⟨_, _, hR⟩ := R_cut hx (size := (tyOf P (tyOf P t).elem).size) (l := l.toNat) (h := z.toNat) (m := z.toNat) hsz (by omega) (by omega) _ (.inr ⟨rfl, rfl⟩) a n cap rfl
      exact ⟨_, _, by simp [Instr.sliceAt, Instr.slice, run_underlying i2, hb, hso], hR (Nat.le_refl _) (by omega), hk⟩
    · exact hk.elim
  · rename_i o sz st n
    obtain ⟨hs, hok, rfl, hm, hk⟩ := hk
    have i2 := ty_slice hs
    have hso := run_sizeOf' hok w
    rw [hmx0 hm]
    split at hk
    · rename_i l h hl hh
      obtain ⟨h0, h1, h2, hk⟩ := hk
      cases hx with
      | ms hb hc hln ha =>
        rename_i b nn cap a
        have hbd := run_bounds (P := P) (w := w) (g := g) true n cap hln hlo hlo0 hhi hhi0 hl hh h0 h1 (by omega)
        refine ⟨.slice (if cap = l.toNat then some a else (some a).map (·.add (l.toNat * (tyOf P (tyOf P t).elem).size))) (h.toNat - l.toNat) (cap - l.toNat), _, by simp [Instr.sliceAt, Instr.slice, run_underlying i2, hbd, hso], ?_, hk⟩
        by_cases hcl : cap = l.toNat
        · rw [if_pos hcl]
          exact .ms hb (by omega) (by omega) (fun hp => by omega)
        · rw [if_neg hcl]
          have hcp : 0 < cap := by omega
          have := ha hcp
          subst this
          rw [Option.map_some, add_spot rfl]
          exact .ms hb (by omega) (by omega) (fun hp => by simp only [Nat.add_mul])
    · exact hk.elim
  · exact hk.elim
end Go.Kern

namespace Go.Kern
open Go.RowKit
def RL (g : Gh) (xs : List AV) (vs : List Value) : Prop := xs.length = vs.length ∧ ∀ (i : Nat) (x : AV) (v : Value), xs[i]? = some x → vs[i]? = some v → R g x v
theorem RL.le {g g' : Gh} (hle : g.Le g') {xs : List AV} {vs : List Value} (h : RL g xs vs) : RL g' xs vs := ⟨h.1, fun i x v hx hv => (h.2 i x v hx hv).le hle⟩
theorem RL.cells {g : Gh} {xs : List AV} {vs : List Value} (h : RL g xs vs) {sz : Nat} (hs : 0 < sz) (hk : ∀ x ∈ xs, x.known = true ∧ x.cells.length = sz) :
    (∀ v ∈ vs, v.cells.size = sz) ∧ ∀ (i : Nat) (c : AV), (cellsL xs)[i]? = some c → ∃ u, (vs.flatMap fun v => v.cells.toList)[i]? = some u ∧ R g c u := by
  have hv : ∀ v ∈ vs, v.cells.size = sz := by
    intro v hv
    obtain ⟨i, hi, rfl⟩ := List.getElem_of_mem hv
    have hx : xs[i]? = some (xs[i]'(by rw [h.1]; exact hi)) := by simp [h.1, hi]
    have hm := hk _ (List.mem_of_getElem? hx)
    have := (h.2 i _ _ hx (List.getElem?_eq_getElem hi)).cells hm.1
    rw [← this.1, hm.2]
  refine ⟨hv, fun i c hc => ?_⟩
  rw [Great.flat_get hs vs hv i]
  rw [cellsL_get hs xs (fun x hx => (hk x hx).2)] at hc
  cases hx : xs[i / sz]? with
  | none => simp [hx] at hc
  | some x =>
    simp only [hx, Option.bind_some] at hc
    have hlt : i / sz < xs.length := (List.getElem?_eq_some_iff.1 hx).1
    have hvv : vs[i / sz]? = some (vs[i / sz]'(by rw [← h.1]; exact hlt)) := by simp [← h.1, hlt]
    rw [hvv]
    have hm := hk x (List.mem_of_getElem? hx)
    obtain ⟨h1, h2⟩ := (h.2 _ _ _ hx hvv).cells hm.1
    have hj : i % sz < x.cells.length := (List.getElem?_eq_some_iff.1 hc).1
    refine ⟨_, by simp only [Option.bind_some]; exact Array.getElem?_eq_getElem (by rw [← h1]; exact hj), h2 _ c _ hc (by simp)⟩
theorem cellsL_len_eq {g : Gh} {xs : List AV} {vs : List Value} (h : RL g xs vs) {sz : Nat} (hk : ∀ x ∈ xs, x.cells.length = sz) (hv : ∀ v ∈ vs, v.cells.size = sz) :
    (cellsL xs).length = (vs.flatMap fun v => v.cells.toList).length := by
  rw [cellsL_length xs hk, h.1]
  clear h hk
  induction vs with
  | nil => simp
  | cons v vs ih =>
    rw [List.flatMap_cons, List.length_append, ← ih (fun u hu => hv u (List.mem_cons_of_mem _ hu))]
    have := hv v List.mem_cons_self
    simp [Nat.add_mul, this]
    omega
theorem slice_new {g : Gh} {w : World} {σ : Store} (hc : Conc g w σ) {xs : List AV} {vs : List Value} (h : RL g xs vs) {sz : Nat} (hs : 0 < sz) (hk : ∀ x ∈ xs, x.known = true ∧ x.cells.length = sz) (e : TypeId) :
    ∃ g', g.Le g' ∧ Conc g' (w.alloc (.cells (vs.flatMap fun v => v.cells.toList).toArray e)) σ ∧ R g' (.sl .full xs) (.slice (some ⟨w.heap.size, 0, none⟩) xs.length xs.length) := by
  obtain ⟨hv, hcs⟩ := h.cells hs hk
  have hle := Gh.Le_addImm hc (vs.flatMap fun v => v.cells.toList).toArray (vs.flatMap fun v => v.cells.toList).toArray.size
  refine ⟨_, hle, hc.addImm (Below.alloc (Below.refl _ _) (Nat.le_refl _) _) _ _ (fun o u ho hu => ?_), ?_⟩
  · rw [World.cell?_alloc_new]; exact hu
  · have hlen := cellsL_len_eq h (fun x hx => (hk x hx).2) hv
    refine .sl (sz := sz) (vs := fun i => (vs.flatMap fun v => v.cells.toList).toArray.getD i undef) rfl (fun _ => rfl) (fun x hx => (hk x hx).2) (fun i hi => ?_) (fun i c hic => ?_)
    · have : i < (vs.flatMap fun v => v.cells.toList).length := by rw [← hlen]; exact hi
      simp only [Gh.addImm, Nat.zero_add, if_pos, List.size_toArray, this]
      rw [Array.getD_eq_getD_getElem?, List.getElem?_toArray, List.getElem?_eq_getElem this]
      rfl
    · obtain ⟨u, hu, hr⟩ := hcs i c hic
      have : i < (vs.flatMap fun v => v.cells.toList).length := (List.getElem?_eq_some_iff.1 hu).1
      have e : (vs.flatMap fun v => v.cells.toList).toArray.getD i undef = u := by
        rw [Array.getD_eq_getD_getElem?]
        simp [hu]
      rw [e]
      exact hr.le hle
theorem partsFit_spec {sz : Nat} : ∀ (i : Nat) (ps : List (Nat × AV)), partsFit sz i ps = true → (ps.map (·.1) = (List.range' i ps.length)) ∧ ∀ x ∈ ps.map (·.2), x.known = true ∧ x.cells.length = sz
  | _, [], _ => ⟨rfl, fun x hx => by simp at hx⟩
  | i, (j, v) :: r, h => by
    simp only [partsFit, Bool.and_eq_true, decide_eq_true_eq] at h
    obtain ⟨⟨⟨rfl, hk⟩, hsz⟩, hr⟩ := h
    obtain ⟨h1, h2⟩ := partsFit_spec (j + 1) r hr
    refine ⟨by simp [h1, List.range'_succ], fun x hx => ?_⟩
    simp only [List.map_cons, List.mem_cons] at hx
    rcases hx with rfl | hx
    · exact ⟨hk, hsz⟩
    · exact h2 x hx
theorem zip_parts : ∀ (l : List (Nat × Value)) (i : Nat), l.map (·.1) = List.range' i l.length → l = ((l.map (·.2)).zipIdx i).map fun x => (x.2, x.1)
  | [], _, _ => rfl
  | (j, v) :: r, i, h => by
    simp only [List.map_cons, List.length_cons, List.range'_succ, List.cons.injEq] at h
    obtain ⟨rfl, h⟩ := h
    have := zip_parts r (j + 1) h
    simp only [List.map_cons, List.zipIdx_cons]
    rw [← this]
theorem sound_buildSlice {P : Program} {g : Gh} {w : World} {σ : Store} (hc : Conc g w σ) {t : TypeId} {n : Nat} {ps : List (Nat × AV)} {pv : Array (Nat × Value)}
    (h1 : ps.map (·.1) = pv.toList.map (·.1)) (h2 : RL g (ps.map (·.2)) (pv.toList.map (·.2))) {k : AV → Prop} (hk : buildSliceA P (tyOf P t) n ps k) :
    ∃ u w' g' r, (Instr.buildSlice t n pv).run P w = .ok u w' ∧ g.Le g' ∧ Conc g' w' σ ∧ R g' r u ∧ k r := by
  obtain ⟨hs, hok, hn, hsm, hpos, hz, hfit, hk⟩ := hk
  have hu := ty_slice hs
  obtain ⟨i, d, i1, i2, i3⟩ := ty_ok hok
  have esz : (tyOf P (tyOf P t).elem).size = i.size := by rw [i3]
  have ez : (tyOf P (tyOf P t).elem).zero = i.zero.map ofConst := by rw [i3]
  rw [ez] at hz
  obtain ⟨z, hz⟩ : ∃ z, i.zero = some z := by
    cases hzz : i.zero with
    | none => simp [hzz] at hz
    | some z => exact ⟨z, rfl⟩
  rw [esz] at hsm hpos hfit
  obtain ⟨f1, f2⟩ := partsFit_spec 0 ps hfit
  obtain ⟨hv, _⟩ := h2.cells hpos f2
  have hlen : pv.toList.length = ps.length := by have := congrArg List.length h1; simp at this; simp [this]
  have hpv : pv.toList = ((pv.toList.map (·.2)).zipIdx 0).map fun x => (x.2, x.1) := zip_parts _ _ (by rw [← h1, f1, hlen])
  obtain ⟨g', hle, hc', hr⟩ := slice_new hc h2 hpos f2 (tyOf P t).elem
  rw [List.length_map, hn] at hr
  refine ⟨_, _, g', _, ?_, hle, hc', hr, hk⟩
  by_cases h0 : n = 0
  · subst h0
    have hp0 : ps = [] := List.eq_nil_of_length_eq_zero hn
    have hpv0 : pv = #[] := by
      have : pv.toList = [] := List.eq_nil_of_length_eq_zero (by rw [hlen, hp0]; rfl)
      exact Array.toList_eq_nil_iff.1 this
    subst hpv0
    have hr0 : Array.range 0 = #[] := Array.size_eq_zero_iff.1 (by simp)
    simp [Instr.buildSlice, run_underlying hu, sizeOf, typeInfo, i1, Instr.fill, newRow, hr0]
  · refine run_buildSlice w t (tyOf P t).elem n pv (((pv.toList.map (·.2)).flatMap fun v => v.cells.toList).toArray) i z hu i1 hz (by omega) (by rw [Nat.mul_eq_zero]; omega) ?_
    have hw := Great.fill_whole hpos (pv.toList.map (·.2)) ((Array.range (n * i.size)).map (z.cells[· % z.cells.size]!)) hv (by simp; rw [← hn, ← hlen]; simp)
    rw [← hpv] at hw
    exact hw
theorem fill_ok {g : Gh} {place : Nat → Option (Nat × Nat)} : ∀ (ps : List (Nat × AV)) (pv : List (Nat × Value)) (cs cs' : List AV) (zs : Array Value), ps.map (·.1) = pv.map (·.1) → RL g (ps.map (·.2)) (pv.map (·.2)) →
    cs.length = zs.size → (∀ (i : Nat) (c : AV) (v : Value), cs[i]? = some c → zs[i]? = some v → R g c v) → fillA place cs ps = some cs' →
    ∃ zs', Instr.fill place zs pv = some zs' ∧ cs'.length = zs'.size ∧ ∀ (i : Nat) (c : AV) (v : Value), cs'[i]? = some c → zs'[i]? = some v → R g c v
  | [], [], cs, cs', zs, _, _, hl, h, hf => by
    simp only [fillA, Option.some.injEq] at hf
    subst hf
    exact ⟨zs, rfl, hl, h⟩
  | [], _ :: _, _, _, _, h1, _, _, _, _ => by simp at h1
  | _ :: _, [], _, _, _, h1, _, _, _, _ => by simp at h1
  | (i, x) :: ps, (j, v) :: pv, cs, cs', zs, h1, h2, hl, h, hf => by
    simp only [List.map_cons, List.cons.injEq] at h1
    obtain ⟨rfl, h1⟩ := h1
    have hr : R g x v := h2.2 0 x v rfl rfl
    have h2' : RL g (ps.map (·.2)) (pv.map (·.2)) := ⟨by have := h2.1; simpa using this, fun k a b ha hb => h2.2 (k + 1) a b (by simpa using ha) (by simpa using hb)⟩
    simp only [fillA] at hf
    cases hp : place i with
    | none => simp [hp] at hf
    | some os =>
      obtain ⟨off, size⟩ := os
      simp only [hp] at hf
      split at hf
      · rename_i hcond
        obtain ⟨hkn, hsz, hle⟩ := hcond
        obtain ⟨c1, c2⟩ := hr.cells hkn
        have hfold : ∀ (l : List Value) (o : Nat) (z : Array Value), o + l.length ≤ z.size → (l.zipIdx).foldl (fun cs (c, j) => cs.setIfInBounds (o + j) c) z = (z.toList.take o ++ l ++ z.toList.drop (o + l.length)).toArray := by
          have key : ∀ (l : List Value) (o s : Nat) (z : Array Value), o + s + l.length ≤ z.size → (l.zipIdx s).foldl (fun cs (c, j) => cs.setIfInBounds (o + j) c) z = (z.toList.take (o + s) ++ l ++ z.toList.drop (o + s + l.length)).toArray := by
            intro l
            induction l with
            | nil => intro o s z hz; simp
            | cons a l ih =>
              intro o s z hz
              simp only [List.zipIdx_cons, List.foldl_cons]
              rw [ih o (s + 1) _ (by simp at hz ⊢; omega)]
              congr 1
              simp only [List.length_cons] at hz
              have ho : o + s < z.toList.length := by simp; omega
              rw [Array.toList_setIfInBounds, show o + (s + 1) = o + s + 1 by omega]
              rw [List.take_set, List.drop_set, if_pos (by omega)]
              rw [List.take_succ_eq_append_getElem ho, List.set_append_right _ _ (by simp; omega)]
              simp only [List.length_take, Nat.min_eq_left (Nat.le_of_lt ho), Nat.sub_self, List.set_cons_zero, List.append_assoc, List.length_cons, List.cons_append, List.nil_append]
              rw [show o + s + 1 + l.length = o + s + (l.length + 1) by omega]
          intro l o z hz
          have := key l o 0 z (by omega)
          simpa using this
        obtain ⟨zs', hz1, hz2, hz3⟩ := fill_ok ps pv (cs.take off ++ x.cells ++ cs.drop (off + x.cells.length)) cs' (zs.toList.take off ++ v.cells.toList ++ zs.toList.drop (off + v.cells.toList.length)).toArray h1 h2'
          (by simp [hl, c1]) (fun m c u hcm hum => by
            have hl' : cs.length = zs.toList.length := by simpa using hl
            have c1' : x.cells.length = v.cells.toList.length := by simpa using c1
            simp only [List.getElem?_toArray] at hum
            simp only [List.getElem?_append, List.length_append, List.length_take, List.getElem?_take, List.getElem?_drop] at hcm hum
            rw [← hl', ← c1'] at hum
            split at hcm
            · rename_i q1
              rw [if_pos q1] at hum
              split at hcm
              · rename_i q2
                rw [if_pos q2] at hum
                split at hcm
                · rename_i q3
                  rw [if_pos q3] at hum
                  exact h m c u hcm (by simpa using hum)
                · cases hcm
              · rename_i q2
                rw [if_neg q2] at hum
                exact c2 _ c u hcm (by simpa using hum)
            · rename_i q1
              rw [if_neg q1] at hum
              exact h _ c u hcm (by simpa using hum)) hf
        refine ⟨zs', ?_, hz2, hz3⟩
        simp only [Instr.fill, hp]
        have hnot : ¬(v.cells.size ≠ size ∨ off + v.cells.size > zs.size) := by
          intro hh
          rcases hh with hh | hh
          · exact hh (by rw [← c1]; exact hsz)
          · rw [← c1, ← hl] at hh; omega
        rw [if_neg (by simpa using hnot)]
        have hf2 := hfold v.cells.toList off zs (by simp only [Array.length_toList]; rw [← c1, ← hl]; exact hle)
        rw [← Array.foldl_toList, Array.toList_zipIdx, hf2]
        exact hz1
      · cases hf
end Go.Kern

namespace Go.Kern
open Go.RowKit
theorem zero_inv {P : Program} {t : TypeId} (h : (tyOf P t).ok = true) : ∃ i d, P.info? t = some i ∧ P.underlying t = some d ∧ (tyOf P t).zero = i.zero.map ofConst ∧ (tyOf P t).size = i.size ∧ (tyOf P t).bytes = i.bytes ∧ (tyOf P t).kind = kindOf d := by
  obtain ⟨i, d, h1, h2, h3⟩ := ty_ok h
  exact ⟨i, d, h1, h2, by rw [h3], by rw [h3], by rw [h3], by rw [h3]⟩
theorem ofConst_agg {v : Value} {zs : List AV} (h : ofConst v = .agg zs) : ∃ cs, v = .agg cs ∧ zs = cs.toList.map leafOf := by
  cases v <;> simp only [ofConst] at h <;> first
    | (injection h with h; exact ⟨_, rfl, h.symm⟩)
    | (simp only [leafOf] at h; split at h <;> cases h)
    | (simp only [leafOf] at h; cases h)
    | cases h
theorem places_of {P : Program} : ∀ (fs : List Field), (fs.map (fieldOf P)).all (fun f => decide (f.2.1 ≠ 0)) = true →
    fs.mapM (fun f => (P.info? f.type).map fun i => (f.offset, i.size)) = some ((fs.map (fieldOf P)).map fun f => (f.1, f.2.1))
  | [], _ => rfl
  | f :: fs, h => by
    simp only [List.map_cons, List.all_cons, Bool.and_eq_true, decide_eq_true_eq] at h
    have ih := places_of fs h.2
    have hf : ∃ i, P.info? f.type = some i ∧ fieldOf P f = (f.offset, i.size, (fieldOf P f).2.2.1, f.type) := by
      have h1 := h.1
      unfold fieldOf at h1 ⊢
      cases hi : P.info? f.type with
      | none => simp [hi] at h1
      | some i =>
        cases hd : P.underlying f.type with
        | none => simp [hi, hd] at h1
        | some d => exact ⟨i, rfl, rfl⟩
    obtain ⟨i, hi, he⟩ := hf
    simp only [List.mapM_cons, hi, Option.map_some, Option.bind_eq_bind, Option.bind_some, ih, Option.pure_def, List.map_cons]
    rw [he]
theorem sound_build {P : Program} {g : Gh} {w : World} {t : TypeId} {ps : List (Nat × AV)} {pv : Array (Nat × Value)}
    (h1 : ps.map (·.1) = pv.toList.map (·.1)) (h2 : RL g (ps.map (·.2)) (pv.toList.map (·.2))) {k : AV → Prop} (hk : buildA P (tyOf P t) ps k) :
    ∃ u r, (Instr.build t pv).run P w = .ok u w ∧ R g r u ∧ k r := by
  obtain ⟨hok, hk⟩ := hk
  obtain ⟨i, d, i1, i2, i3, i4, i5, i6⟩ := zero_inv hok
  split at hk
  · rename_i hkind
    obtain ⟨hall, hk⟩ := hk
    split at hk
    · rename_i zs hz
      split at hk
      · rename_i cs hf
        rw [i3] at hz
        obtain ⟨zv, hzv, hze⟩ := Option.map_eq_some_iff.1 hz
        obtain ⟨zc, rfl, rfl⟩ := ofConst_agg hze
        have hd : ∃ fs, d = .struct fs := by
          rw [i6] at hkind
          cases d <;> simp [kindOf] at hkind
          exact ⟨_, rfl⟩
        obtain ⟨fs, rfl⟩ := hd
        have hfs : (tyOf P t).fields = fs.toList.map (fieldOf P) := by simp [tyOf, i1, i2]
        rw [hfs] at hall hf
        have hpl := places_of fs.toList hall
        obtain ⟨zs', hz1, hz2, hz3⟩ := fill_ok ps pv.toList _ cs zc h1 h2 (R_leaves g zc).1 (R_leaves g zc).2 hf
        refine ⟨.agg zs', .agg cs, run_build w t pv zs' ?_, .agg hz2 hz3, hk⟩
        unfold Program.built
        simp only [i1, i2, hzv, hpl]
        rw [← hz1]
        congr 1
        funext j
        simp
      · exact hk.elim
    · exact hk.elim
  · rename_i n hkind
    obtain ⟨hoe, hk⟩ := hk
    split at hk
    · rename_i zs hz
      split at hk
      · rename_i cs hf
        rw [i3] at hz
        obtain ⟨zv, hzv, hze⟩ := Option.map_eq_some_iff.1 hz
        obtain ⟨zc, rfl, rfl⟩ := ofConst_agg hze
        have hd : ∃ n' e, d = .array n' e := by
          rw [i6] at hkind
          cases d <;> simp [kindOf] at hkind
          exact ⟨_, _, rfl⟩
        obtain ⟨n', e, rfl⟩ := hd
        have hel : (tyOf P t).elem = e := by simp [tyOf, i1, i2]
        rw [hel] at hoe hf
        obtain ⟨ie, de, j1, j2, j3, j4, j5, j6⟩ := zero_inv hoe
        rw [j4] at hf
        obtain ⟨zs', hz1, hz2, hz3⟩ := fill_ok ps pv.toList _ cs zc h1 h2 (R_leaves g zc).1 (R_leaves g zc).2 hf
        refine ⟨.agg zs', .agg cs, run_build w t pv zs' ?_, .agg hz2 hz3, hk⟩
        unfold Program.built
        simp only [i1, i2, hzv, j1]
        exact hz1
      · exact hk.elim
    · exact hk.elim
  · exact hk.elim
theorem cellsL_one (x : AV) : cellsL [x] = x.cells := by simp [cellsL]
theorem new_box {P : Program} {g : Gh} {w : World} {σ : Store} (hc : Conc g w σ) {x : AV} {v : Value} (hx : R g x v) (hk : x.known = true) (e : TypeId) {k : KK}
    (h : ∀ o, σ o = none → k (.ptr o 0 0) (σ.put o (.arr e [x]))) :
    ∃ g' r σ', g.Le g' ∧ Conc g' (w.alloc (.cells v.cells e)) σ' ∧ R g' r (.pointer (some ⟨w.heap.size, 0, none⟩)) ∧ k r σ' := by
  obtain ⟨o, ho, hol, hot, hor⟩ := hc.new
  obtain ⟨c1, c2⟩ := hx.cells hk
  have hcc := hc.addObj (w' := w.alloc (.cells v.cells e)) (Below.alloc (Below.refl _ _) (Nat.le_refl _) _) (by simp) o hol ho hot hor (.arr e [x]) x.cells.length 1 (fun g' hle hl him =>
    ⟨x.cells.length, v.cells, ⟨1, hl, by simp [c1]⟩, heap_alloc_new w _, fun r hr => by rw [List.mem_singleton.1 hr], by simp [c1], fun i c u hci hui => by
      rw [cellsL_one] at hci
      exact (c2 i c u hci hui).le hle, him⟩)
  refine ⟨_, _, _, Gh.Le_addLoc _ hol, hcc, ?_, h o ho⟩
  have := R.ptr (g := g.addLoc o (w.heap.size, x.cells.length, 1)) (o := o) (i := 0) (off := 0) (b := w.heap.size) (sz := x.cells.length) (n := 1) (by simp [Gh.addLoc])
  simpa using this
theorem sound_makeMap {P : Program} {g : Gh} {w : World} {σ : Store} (hc : Conc g w σ) {k : KK} (h : ∀ o, σ o = none → k (.map o) (σ.put o (.map []))) :
    ∃ g' r σ', g.Le g' ∧ Conc g' (w.alloc (.map #[] 0)) σ' ∧ R g' r (.map (some w.heap.size)) ∧ k r σ' := by
  obtain ⟨o, ho, hol, hot, hor⟩ := hc.new
  have hcc := hc.addObj (w' := w.alloc (.map #[] 0)) (Below.alloc (Below.refl _ _) (Nat.le_refl _) _) (by simp) o hol ho hot hor (.map []) 0 0 (fun g' hle hl him =>
    ⟨#[], 0, hl, heap_alloc_new w _, rfl, (fun i kv en hi => by simp at hi), Go.MapKept.stamped_empty 0⟩)
  refine ⟨_, _, _, Gh.Le_addLoc _ hol, hcc, .map (by simp [Gh.addLoc]), h o ho⟩
theorem splice_cells (x : AV) (off : Nat) (vs : List AV) (h : off + vs.length ≤ x.cells.length) (h1 : vs.all AV.one = true) : (splice x off vs).cells = x.cells.take off ++ vs ++ x.cells.drop (off + vs.length) := by
  have gen : x.cells = [x] → splice x off vs = oneOf vs x → (splice x off vs).cells = x.cells.take off ++ vs ++ x.cells.drop (off + vs.length) := by
    intro hx hs
    rw [hs]
    have h' := h
    rw [hx] at h'
    match vs with
    | [] =>
      simp only [List.append_nil, List.length_nil, Nat.add_zero, List.take_append_drop]
      rfl
    | [v] =>
      simp only [List.length_cons, List.length_nil] at h'
      have : off = 0 := by omega
      subst this
      simp only [List.all_cons, List.all_nil, Bool.and_true] at h1
      rw [hx]
      cases v <;> first | (simp [AV.one] at h1; done) | rfl
    | a :: b :: r => simp at h'; omega
  cases x <;> first | rfl | exact gen rfl rfl
theorem setRow_size (w : World) (b : Nat) (cs : Array Value) : (w.setRow b cs).heap.size = w.heap.size := by simp [World.setRow]
theorem sound_store {P : Program} {g : Gh} {w : World} {σ : Store} (hc : Conc g w σ) {t : TypeId} {p x : AV} {pv v : Value} (hp : R g p pv) (hx : R g x v) {k : Store → Prop} (hk : storeA (tyOf P t) σ p x k) :
    ∃ w' σ', (Instr.storeAt t pv v).run P w = .ok () w' ∧ Conc g w' σ' ∧ k σ' := by
  unfold storeA at hk
  split at hk
  · rename_i o i off
    split at hk
    · rename_i e rows hrows
      split at hk
      · rename_i y hy
        obtain ⟨hok, hkn, hsz, hone, hle, hk⟩ := hk
        cases hp with
        | ptr hb =>
          rename_i b sz n
          obtain ⟨blk, h1, h2⟩ := hc.obj
          obtain ⟨hB, sz', cells, ⟨n', hl, hcn⟩, hh, hu, hcs, hrr, him⟩ := h1 o _ hrows
          rw [hb] at hl
          injection hl with hl
          injection hl with hl1 hl2
          injection hl2 with hl2 hl3
          subst hl2; subst hl3
          rw [← hl1] at hh him
          obtain ⟨c1, c2⟩ := hx.cells hkn
          have hys : y.cells.length = sz := hu y (List.mem_of_getElem? hy)
          have hi : i < rows.length := (List.getElem?_eq_some_iff.1 hy).1
          have hspl : (splice y off x.cells).cells.length = sz := by
            rw [splice_cells y off x.cells hle hone]
            simp only [List.length_append, List.length_take, List.length_drop]
            omega
          obtain ⟨N, hN⟩ : ∃ N, N = cells.size := ⟨_, rfl⟩
          rw [← hN] at hcs
          have hlen : cells.toList.length = N := by simp [hN]
          have hmul : i * sz + sz ≤ rows.length * sz := by
            have : (i + 1) * sz ≤ rows.length * sz := Nat.mul_le_mul_right _ hi
            rw [Nat.add_mul] at this; omega
          have hv1 : ∀ u ∈ v.cells.toList, u.oneCell' = true := by
            intro u hu'
            obtain ⟨j, hj, rfl⟩ := List.getElem_of_mem hu'
            have hj' : j < x.cells.length := by rw [c1]; simpa using hj
            have hxj : x.cells[j]? = some x.cells[j] := List.getElem?_eq_getElem hj'
            refine (c2 j _ _ hxj (by simp at hj ⊢)).one ?_
            exact List.all_eq_true.1 hone _ (List.getElem_mem hj')
          have hrun := run_storeCells_at (P := P) b (i * sz + off) e v.cells.toList 0 cells w hh (by simp only [Array.length_toList]; omega) hv1
          refine ⟨w.setRow b (cells.toList.take (i * sz + off + 0) ++ v.cells.toList ++ cells.toList.drop (i * sz + off + 0 + v.cells.toList.length)).toArray, _, ?_, ?_, hk⟩
          · have hsz' := run_sizeOf' hok w
            have hnn : ¬ v.cells.size ≠ (tyOf P t).size := by rw [← c1]; simp [hsz]
            simp only [Instr.storeAt, Instr.sureAddr, storeVar, Sem.run_bind, Sem.run_pure, Result.andThen_ok, hsz', if_neg hnn]
            exact hrun
          · refine hc.write (b := b) hrows (fun blk' hb' => ?_) (fun q hq => setRow_other w b q _ hq) rfl rfl rfl (setRow_size w b _) him ?_
            · obtain ⟨sz2, cells2, ⟨n2, hl2, _⟩, _⟩ := hb'
              rw [hb] at hl2
              injection hl2 with hl2
              injection hl2 with hl2 _
              exact hl2.symm
            · refine ⟨sz, _, ⟨n, hb, ?_⟩, setRow_heap w b cells _ e _ hh, ?_, ?_, ?_, him⟩
              · simp only [List.size_toArray, List.length_append, List.length_take, List.length_drop, hlen, Array.length_toList, ← c1]
                omega
              · intro r hr
                rcases List.mem_or_eq_of_mem_set hr with hr | rfl
                · exact hu r hr
                · rw [splice_cells y off x.cells hle hone]
                  simp
                  omega
              · simp only [List.length_set, List.size_toArray, List.length_append, List.length_take, List.length_drop, hlen, Array.length_toList, ← c1]
                omega
              · intro m c u hm hu2
                have hsz0 : 0 < sz := by
                  rcases Nat.eq_zero_or_pos sz with h0 | h0
                  · exfalso
                    have hall : ∀ r ∈ rows.set i (splice y off x.cells), r.cells.length = 0 := by
                      intro r hr
                      rcases List.mem_or_eq_of_mem_set hr with hr | rfl
                      · rw [hu r hr, h0]
                      · rw [hspl, h0]
                    have := cellsL_length _ hall
                    have h3 := (List.getElem?_eq_some_iff.1 hm).1
                    rw [this] at h3
                    omega
                  · exact h0
                have huni : ∀ r ∈ rows.set i (splice y off x.cells), r.cells.length = sz := by
                  intro r hr
                  rcases List.mem_or_eq_of_mem_set hr with hr | rfl
                  · exact hu r hr
                  · rw [splice_cells y off x.cells hle hone]; simp; omega
                rw [cellsL_get hsz0 _ huni] at hm
                have hdm : m / sz * sz + m % sz = m := by rw [Nat.mul_comm]; exact Nat.div_add_mod m sz
                have hml : m % sz < sz := Nat.mod_lt _ hsz0
                have hold : ∀ c', (cellsL rows)[m]? = some c' → ∀ u', cells[m]? = some u' → R g c' u' := fun c' a u' b => hrr m c' u' a b
                simp only [Nat.add_zero, List.getElem?_toArray] at hu2
                by_cases hmi : m / sz = i
                · rw [hmi, List.getElem?_set_self hi, Option.bind_some, splice_cells y off x.cells hle hone] at hm
                  have hmm : m = i * sz + m % sz := by rw [← hmi]; exact hdm.symm
                  simp only [List.getElem?_append, List.length_append, List.length_take, List.getElem?_take, List.getElem?_drop] at hm hu2
                  rw [hlen] at hu2
                  have hl2 : v.cells.toList.length = x.cells.length := by simp [c1]
                  rw [hl2] at hu2
                  have hrow := cellsL_row rows hu i (m % sz) y hy (by omega)
                  rw [← hmm] at hrow
                  by_cases q1 : m % sz < off
                  · rw [if_pos (by omega), if_pos (by omega), if_pos q1] at hm
                    rw [if_pos (by omega), if_pos (by omega), if_pos (by omega)] at hu2
                    exact hold c (hrow.trans hm) u (by simpa using hu2)
                  · by_cases q2 : m % sz < off + x.cells.length
                    · rw [if_pos (by omega), if_neg (by omega)] at hm
                      rw [if_pos (by omega), if_neg (by omega)] at hu2
                      have e1 : m - min (i * sz + off) N = m % sz - min off y.cells.length := by omega
                      rw [e1] at hu2
                      exact c2 _ c u hm (by simpa using hu2)
                    · rw [if_neg (by omega)] at hm
                      rw [if_neg (by omega)] at hu2
                      have e2 : off + x.cells.length + (m % sz - (min off y.cells.length + x.cells.length)) = m % sz := by omega
                      have e3 : i * sz + off + x.cells.length + (m - (min (i * sz + off) N + x.cells.length)) = m := by omega
                      rw [e2] at hm
                      rw [e3] at hu2
                      exact hold c (hrow.trans hm) u (by simpa using hu2)
                · rw [List.getElem?_set_ne (fun h => hmi h.symm)] at hm
                  have hc0 : (cellsL rows)[m]? = some c := by rw [cellsL_get hsz0 _ hu]; exact hm
                  refine hold c hc0 u ?_
                  have hl2 : v.cells.toList.length = x.cells.length := by simp [c1]
                  simp only [List.getElem?_append, List.length_append, List.length_take, List.getElem?_take, List.getElem?_drop] at hu2
                  rw [hlen, hl2] at hu2
                  by_cases q : m / sz < i
                  · have : m < i * sz := by
                      have : (m / sz + 1) * sz ≤ i * sz := Nat.mul_le_mul_right _ q
                      rw [Nat.add_mul] at this; omega
                    rw [if_pos (by omega), if_pos (by omega), if_pos (by omega)] at hu2
                    simpa using hu2
                  · have : i * sz + sz ≤ m := by
                      have : (i + 1) * sz ≤ (m / sz) * sz := Nat.mul_le_mul_right _ (by omega)
                      rw [Nat.add_mul] at this; omega
                    rw [if_neg (by omega)] at hu2
                    have e3 : i * sz + off + x.cells.length + (m - (min (i * sz + off) N + x.cells.length)) = m := by omega
                    rw [e3] at hu2
                    simpa using hu2
      · exact hk.elim
    · exact hk.elim
  · exact hk.elim
end Go.Kern

namespace Go.Kern
open Go.RowKit Go.MapKept
def PK.of : PK → Value → Bool
  | .bool, .bool _ => true
  | .int k, .int j _ => decide (j = k)
  | .str, .string _ => true
  | _, _ => false
def fits : List PK → List Value → Bool
  | [], [] => true
  | k :: ks, v :: vs => k.of v && fits ks vs
  | _, _ => false
theorem fits_length : ∀ {ks : List PK} {vs : List Value}, fits ks vs = true → vs.length = ks.length
  | [], [], _ => rfl
  | [], _ :: _, h => by simp [fits] at h
  | _ :: _, [], h => by simp [fits] at h
  | k :: ks, v :: vs, h => by
    simp only [fits, Bool.and_eq_true] at h
    simp [fits_length h.2]
theorem fits_split : ∀ {as bs : List PK} {vs : List Value}, fits (as ++ bs) vs = true → fits as (vs.take as.length) = true ∧ fits bs (vs.drop as.length) = true
  | [], bs, vs, h => by simpa [fits] using h
  | k :: as, bs, [], h => by simp [fits] at h
  | k :: as, bs, v :: vs, h => by
    simp only [List.cons_append, fits, Bool.and_eq_true] at h
    have ih := fits_split h.2
    simp [fits, h.1, ih.1, ih.2]
def whole (P : Program) (t : TypeId) (a : Value) : Bool :=
  match P.underlying t, a with
  | some (.array _ _), .agg _ => true
  | some (.struct _), .agg _ => true
  | some .bool, .bool _ => true
  | some (.int _), .int _ _ => true
  | some .string, .string _ => true
  | _, _ => false
section
variable {P : Program}
theorem part_flat {m : Nat} {t : TypeId} {ks : List PK} (h : flatOf P m t = some ks) (hs : P.cellsOf t = ks.length) (w : World) (xs : Array Value) (off : Nat) (hf : fits ks ((xs.toList.drop off).take ks.length) = true) :
    ∃ a, (part t xs off).run P w = .ok a w ∧ whole P t a = true ∧ a.cells.toList = (xs.toList.drop off).take ks.length := by
  cases m with
  | zero => simp [flatOf] at h
  | succ m =>
    unfold flatOf at h
    cases hu : P.underlying t with
    | none => simp [hu] at h
    | some d =>
      obtain ⟨i, hi⟩ := info_of_underlying hu
      have agg : (kindOf d).agg = true → (∀ ys, whole P t (.agg ys) = true) → ∃ a, (part t xs off).run P w = .ok a w ∧ whole P t a = true ∧ a.cells.toList = (xs.toList.drop off).take ks.length := by
        intro hk hw
        have hl : (xs.extract off (off + P.cellsOf t)).toList = (xs.toList.drop off).take ks.length := by
          rw [Array.toList_extract, hs]
          simp [List.extract]
        refine ⟨.agg (xs.extract off (off + P.cellsOf t)), ?_, hw _, hl⟩
        cases d <;> simp [kindOf, TK.agg] at hk <;> simp [part, isAgg, run_underlying hu, run_sizeOf w hi]
      have one : ∀ {k : PK}, ks = [k] → P.plainKey t = true → (∀ v, k.of v = true → whole P t v = true ∧ v.cells = #[v]) → ∃ a, (part t xs off).run P w = .ok a w ∧ whole P t a = true ∧ a.cells.toList = (xs.toList.drop off).take ks.length := by
        rintro k rfl hp hv
        have hlen := fits_length hf
        simp only [List.length_singleton] at hlen hf ⊢
        match hq : (xs.toList.drop off).take 1, hlen with
        | [v], _ =>
          rw [hq] at hf
          simp only [fits, Bool.and_true] at hf
          obtain ⟨h1, h2⟩ := hv v hf
          refine ⟨v, run_part_plain w hp ?_, h1, by rw [h2]⟩
          have : (xs.toList.drop off)[0]? = some v := by
            have := congrArg (fun l => l[0]?) hq
            simpa using this
          simpa using this
      cases d
      case bool =>
        simp only [hu, Option.some.injEq] at h
        exact one h.symm (by simp [Program.plainKey, hu]) (fun v hv => by cases v <;> simp [PK.of] at hv <;> simp [whole, hu, Value.cells])
      case int k =>
        simp only [hu, Option.some.injEq] at h
        exact one h.symm (by simp [Program.plainKey, hu]) (fun v hv => by cases v <;> simp [PK.of] at hv <;> simp [whole, hu, Value.cells])
      case string =>
        simp only [hu, Option.some.injEq] at h
        exact one h.symm (by simp [Program.plainKey, hu]) (fun v hv => by cases v <;> simp [PK.of] at hv <;> simp [whole, hu, Value.cells])
      case array n e => exact agg rfl (fun ys => by simp [whole, hu])
      case struct fs => exact agg rfl (fun ys => by simp [whole, hu])
      all_goals (simp [hu] at h; done)
def EqF (P : Program) (d : Nat) (t : TypeId) (ks : List PK) : Prop :=
  ∀ (w : World) (a b : Value), whole P t a = true → whole P t b = true → fits ks a.cells.toList = true → fits ks b.cells.toList = true →
    ∃ r : Bool, (Op.equalIn d t a b).run P w = .ok r w ∧ (r = true ↔ a.cells.toList = b.cells.toList)
def ChF (P : Program) (em : Bool) (d : Nat) (t : TypeId) (ks : List PK) : Prop :=
  ∀ (w : World) (a : Value), whole P t a = true → fits ks a.cells.toList = true → (Instr.checkKey em d t a).run P w = .ok () w
theorem fits_rows {ks : List PK} : ∀ {n : Nat} {vs : List Value}, fits (List.replicate n ks).flatten vs = true → ∀ i, i < n → fits ks ((vs.drop (i * ks.length)).take ks.length) = true
  | 0, _, _, i, hi => by omega
  | n + 1, vs, h, i, hi => by
    rw [List.replicate_succ, List.flatten_cons] at h
    obtain ⟨h1, h2⟩ := fits_split h
    cases i with
    | zero => simpa using h1
    | succ i =>
      have := fits_rows h2 i (by omega)
      rw [List.drop_drop] at this
      rw [Nat.succ_mul, Nat.add_comm]
      exact this
theorem rows_eq (c : Nat) : ∀ (n : Nat) (vs us : List Value), vs.length = n * c → us.length = n * c → (vs = us ↔ ∀ i, i < n → (vs.drop (i * c)).take c = (us.drop (i * c)).take c)
  | 0, vs, us, h1, h2 => by
    have e1 : vs = [] := List.eq_nil_of_length_eq_zero (by simpa using h1)
    have e2 : us = [] := List.eq_nil_of_length_eq_zero (by simpa using h2)
    subst e1; subst e2
    simp
  | n + 1, vs, us, h1, h2 => by
    have ih := rows_eq c n (vs.drop c) (us.drop c) (by rw [List.length_drop, h1, Nat.succ_mul]; omega) (by rw [List.length_drop, h2, Nat.succ_mul]; omega)
    constructor
    · rintro rfl i _; rfl
    · intro h
      have h0 := h 0 (by omega)
      simp only [Nat.zero_mul, List.drop_zero] at h0
      have hr := ih.2 fun i hi => by
        have := h (i + 1) (by omega)
        rw [List.drop_drop, List.drop_drop, show c + i * c = (i + 1) * c by rw [Nat.succ_mul]; omega]
        exact this
      rw [← List.take_append_drop c vs, ← List.take_append_drop c us, h0, hr]
theorem items_flat {d m : Nat} {e : TypeId} {ks : List PK} (he : flatOf P m e = some ks) (hs : P.cellsOf e = ks.length) (IH : EqF P d e ks) (xs ys : Array Value) (w : World) :
    ∀ (is : List Nat), (∀ i ∈ is, fits ks ((xs.toList.drop (i * ks.length)).take ks.length) = true) → (∀ i ∈ is, fits ks ((ys.toList.drop (i * ks.length)).take ks.length) = true) →
      ∃ r : Bool, (Op.eqItems d e ks.length xs ys is).run P w = .ok r w ∧ (r = true ↔ ∀ i ∈ is, (xs.toList.drop (i * ks.length)).take ks.length = (ys.toList.drop (i * ks.length)).take ks.length)
  | [], _, _ => ⟨true, by simp [Op.eqItems], by simp⟩
  | i :: is, hx, hy => by
    obtain ⟨a, p1, f1, c1⟩ := part_flat he hs w xs (i * ks.length) (hx i List.mem_cons_self)
    obtain ⟨b, p2, f2, c2⟩ := part_flat he hs w ys (i * ks.length) (hy i List.mem_cons_self)
    obtain ⟨r, p3, hiff⟩ := IH w a b f1 f2 (by rw [c1]; exact hx i List.mem_cons_self) (by rw [c2]; exact hy i List.mem_cons_self)
    obtain ⟨r', hr', hiff'⟩ := items_flat he hs IH xs ys w is (fun j hj => hx j (List.mem_cons_of_mem _ hj)) (fun j hj => hy j (List.mem_cons_of_mem _ hj))
    rw [c1, c2] at hiff
    simp only [Op.eqItems, Sem.run_bind, p1, p2, p3, Result.andThen_ok, List.forall_mem_cons]
    cases r
    · exact ⟨false, by simp, by simp; intro e; exact absurd (hiff.2 e) (by simp)⟩
    · exact ⟨r', by simpa using hr', by rw [hiff']; simp [hiff.1 rfl]⟩
theorem fields_flat {d m : Nat} (IH : ∀ t ks, flatOf P m t = some ks → EqF P d t ks) (xs ys : Array Value) (w : World) :
    ∀ (fs : List Field) (off : Nat) (ks : List PK), flatFs P (flatOf P m) off fs = some ks → fits ks (xs.toList.drop off) = true → fits ks (ys.toList.drop off) = true →
      ∃ r : Bool, (Op.eqFields d xs ys fs).run P w = .ok r w ∧ (r = true ↔ xs.toList.drop off = ys.toList.drop off)
  | [], off, ks, h, hx, hy => by
    simp only [flatFs, Option.some.injEq] at h
    subst h
    have e1 := List.eq_nil_of_length_eq_zero (fits_length hx)
    have e2 := List.eq_nil_of_length_eq_zero (fits_length hy)
    exact ⟨true, by simp [Op.eqFields], by rw [e1, e2]; simp⟩
  | f :: fs, off, ks, h, hx, hy => by
    unfold flatFs at h
    split at h
    · cases h
    · rename_i hn
      have hn1 : f.name ≠ "_" := fun e => hn (.inl e)
      have hn2 : f.offset = off := by
        by_cases e : f.offset = off
        · exact e
        · exact absurd (.inr e) hn
      split at h
      · rename_i k1 hk1
        split at h
        · rename_i hs
          obtain ⟨k2, hk2, rfl⟩ := Option.map_eq_some_iff.1 h
          obtain ⟨x1, x2⟩ := fits_split hx
          obtain ⟨y1, y2⟩ := fits_split hy
          rw [List.drop_drop] at x2 y2
          obtain ⟨a, p1, f1, c1⟩ := part_flat hk1 hs w xs off x1
          obtain ⟨b, p2, f2, c2⟩ := part_flat hk1 hs w ys off y1
          obtain ⟨r, p3, hiff⟩ := IH _ _ hk1 w a b f1 f2 (by rw [c1]; exact x1) (by rw [c2]; exact y1)
          obtain ⟨r', hr', hiff'⟩ := fields_flat IH xs ys w fs (off + k1.length) k2 hk2 x2 y2
          rw [c1, c2] at hiff
          have hall : xs.toList.drop off = ys.toList.drop off ↔ (xs.toList.drop off).take k1.length = (ys.toList.drop off).take k1.length ∧ xs.toList.drop (off + k1.length) = ys.toList.drop (off + k1.length) := by
            constructor
            · intro e
              refine ⟨by rw [e], ?_⟩
              rw [← List.drop_drop, ← List.drop_drop, e]
            · rintro ⟨e1, e2⟩
              rw [← List.drop_drop, ← List.drop_drop] at e2
              rw [← List.take_append_drop k1.length (xs.toList.drop off), ← List.take_append_drop k1.length (ys.toList.drop off), e1, e2]
          simp only [Op.eqFields, hn1, hn2, ne_eq, not_false_eq_true, if_true, Sem.run_bind, p1, p2, p3, Result.andThen_ok]
          cases r
          · exact ⟨false, by simp, by rw [hall]; simp; intro e; exact absurd (hiff.2 e) (by simp)⟩
          · exact ⟨r', by simpa using hr', by rw [hiff', hall]; simp [hiff.1 rfl]⟩
        · cases h
      · cases h
theorem equal_flat (d : Nat) : ∀ (m : Nat) (t : TypeId) (ks : List PK), flatOf P m t = some ks → EqF P (d + m) t ks
  | 0, _, _, h => by simp [flatOf] at h
  | m + 1, t, ks, h => by
    intro w a b wa wb fa fb
    unfold flatOf at h
    cases hu : P.underlying t with
    | none => simp [hu] at h
    | some kd =>
      cases kd
      case bool =>
        cases a <;> simp [whole, hu] at wa
        cases b <;> simp [whole, hu] at wb
        rename_i p q
        exact ⟨p == q, by rw [show d + (m + 1) = (d + m) + 1 from rfl]; simp [Op.equalIn, run_underlying hu], by simp [Value.cells]⟩
      case int k =>
        simp only [hu, Option.some.injEq] at h
        subst h
        cases a <;> simp [whole, hu] at wa
        cases b <;> simp [whole, hu] at wb
        rename_i k1 p k2 q
        simp [fits, PK.of, Value.cells] at fa fb
        subst fa; subst fb
        exact ⟨p == q, by rw [show d + (m + 1) = (d + m) + 1 from rfl]; simp [Op.equalIn, run_underlying hu], by simp [Value.cells]⟩
      case string =>
        cases a <;> simp [whole, hu] at wa
        cases b <;> simp [whole, hu] at wb
        rename_i p q
        exact ⟨p == q, by rw [show d + (m + 1) = (d + m) + 1 from rfl]; simp [Op.equalIn, run_underlying hu], by simp [Value.cells, bytes_beq]⟩
      case array n e =>
        simp only [hu] at h
        cases a <;> simp [whole, hu] at wa
        cases b <;> simp [whole, hu] at wb
        rename_i xs ys
        split at h
        · rename_i k1 hk1
          split at h
          · rename_i hs
            injection h with h
            subst h
            simp only [Value.cells] at fa fb ⊢
            have hie : ∃ i, P.info? e = some i := by
              cases m with
              | zero => simp [flatOf] at hk1
              | succ m' =>
                unfold flatOf at hk1
                cases hue : P.underlying e with
                | none => simp [hue] at hk1
                | some _ => exact info_of_underlying hue
            obtain ⟨i, hi⟩ := hie
            obtain ⟨r, hr, hiff⟩ := items_flat hk1 hs (equal_flat d m e k1 hk1) xs ys w (List.range n) (fun i hi => fits_rows fa i (by simpa using hi)) (fun i hi => fits_rows fb i (by simpa using hi))
            have l1 := fits_length fa
            have l2 := fits_length fb
            have hlen : (List.replicate n k1).flatten.length = n * k1.length := by simp
            rw [hlen] at l1 l2
            refine ⟨r, by rw [show d + (m + 1) = (d + m) + 1 from rfl, run_equalIn_array w (d + m) xs ys hu hi, hs]; exact hr, ?_⟩
            rw [hiff, rows_eq k1.length n _ _ l1 l2]
            simp
          · cases h
        · cases h
      case struct fs =>
        simp only [hu] at h
        cases a <;> simp [whole, hu] at wa
        cases b <;> simp [whole, hu] at wb
        rename_i xs ys
        split at h
        · cases h
        · rename_i hst
          simp only [Value.cells] at fa fb ⊢
          have hfs : P.fieldsOf t = fs := by simp [Program.fieldsOf, hu]
          obtain ⟨r, hr, hiff⟩ := fields_flat (fun t ks h => equal_flat d m t ks h) xs ys w fs.toList 0 ks h (by simpa using fa) (by simpa using fb)
          refine ⟨r, by rw [show d + (m + 1) = (d + m) + 1 from rfl, run_equalIn_struct w (d + m) t xs ys (by rw [hfs]; exact hu) (by simpa using hst), hfs]; exact hr, by simpa using hiff⟩
      all_goals (simp [hu] at h; done)
theorem check_flat (em : Bool) (d : Nat) : ∀ (m : Nat) (t : TypeId) (ks : List PK), flatOf P m t = some ks → ChF P em (d + m) t ks
  | 0, _, _, h => by simp [flatOf] at h
  | m + 1, t, ks, h => by
    intro w a wa fa
    unfold flatOf at h
    cases hu : P.underlying t with
    | none => simp [hu] at h
    | some kd =>
      cases kd
      case bool => cases a <;> simp [whole, hu] at wa; rw [show d + (m + 1) = (d + m) + 1 from rfl]; simp [Instr.checkKey, run_underlying hu]
      case int k => cases a <;> simp [whole, hu] at wa; rw [show d + (m + 1) = (d + m) + 1 from rfl]; simp [Instr.checkKey, run_underlying hu]
      case string => cases a <;> simp [whole, hu] at wa; rw [show d + (m + 1) = (d + m) + 1 from rfl]; simp [Instr.checkKey, run_underlying hu]
      case array n e =>
        simp only [hu] at h
        cases a <;> simp [whole, hu] at wa
        rename_i xs
        split at h
        · rename_i k1 hk1
          split at h
          · rename_i hs
            injection h with h
            subst h
            simp only [Value.cells] at fa
            have hie : ∃ i, P.info? e = some i := by
              cases m with
              | zero => simp [flatOf] at hk1
              | succ m' =>
                unfold flatOf at hk1
                cases hue : P.underlying e with
                | none => simp [hue] at hk1
                | some _ => exact info_of_underlying hue
            obtain ⟨i, hi⟩ := hie
            have IH := check_flat em d m e k1 hk1
            have each : ∀ i ∈ List.range n, fits k1 ((xs.toList.drop (i * k1.length)).take k1.length) = true := fun i hi => fits_rows fa i (by simpa using hi)
            rw [show d + (m + 1) = (d + m) + 1 from rfl, Instr.checkKey]
            simp only [Sem.run_bind, run_underlying hu, Result.andThen_ok]
            simp only [Std.Legacy.Range.forIn_eq_forIn_range', Std.Legacy.Range.size, Nat.sub_zero, Nat.add_one_sub_one, Nat.div_one]
            rw [List.range_eq_range'] at each
            generalize List.range' 0 n = is at each
            induction is with
            | nil => simp
            | cons j is ih =>
              obtain ⟨a, p1, f1, c1⟩ := part_flat hk1 hs w xs (j * k1.length) (each j List.mem_cons_self)
              have p2 := IH w a f1 (by rw [c1]; exact each j List.mem_cons_self)
              simp only [List.forIn_cons, Sem.run_bind, run_sizeOf w hi, hs, Result.andThen_ok, p1, p2, Sem.run_pure]
              exact ih (fun y hy => each y (List.mem_cons_of_mem _ hy))
          · cases h
        · cases h
      case struct fs =>
        simp only [hu] at h
        cases a <;> simp [whole, hu] at wa
        rename_i xs
        split at h
        · cases h
        · simp only [Value.cells] at fa
          rw [show d + (m + 1) = (d + m) + 1 from rfl, Instr.checkKey]
          simp only [Sem.run_bind, run_underlying hu, Result.andThen_ok]
          rw [← Array.forIn_toList]
          have fa0 : fits ks (xs.toList.drop 0) = true := by simpa using fa
          clear fa
          generalize fs.toList = L at h
          generalize 0 = off at h fa0
          induction L generalizing off ks with
          | nil => simp
          | cons f L ih =>
            unfold flatFs at h
            split at h
            · cases h
            · rename_i hn
              have hn1 : f.name ≠ "_" := fun e => hn (.inl e)
              have hn2 : f.offset = off := by
                by_cases e : f.offset = off
                · exact e
                · exact absurd (.inr e) hn
              split at h
              · rename_i k1 hk1
                split at h
                · rename_i hs
                  obtain ⟨k2, hk2, rfl⟩ := Option.map_eq_some_iff.1 h
                  obtain ⟨x1, x2⟩ := fits_split fa0
                  rw [List.drop_drop] at x2
                  obtain ⟨a, p1, f1, c1⟩ := part_flat hk1 hs w xs off x1
                  have p2 := check_flat em d m _ _ hk1 w a f1 (by rw [c1]; exact x1)
                  simp only [List.forIn_cons, Sem.run_bind, hn1, hn2, ne_eq, not_false_eq_true, if_true, Result.andThen_ok, p1, p2, Sem.run_pure]
                  exact ih k2 (off + k1.length) hk2 x2
                · cases h
              · cases h
      all_goals (simp [hu] at h; done)
end
end Go.Kern

namespace Go.Kern
open Go.RowKit Go.MapKept
def KeyV (P : Program) (t : TypeId) (v : Value) : Prop :=
  (∃ d, P.underlying t = some d ∧ IsKey d v) ∨ ((∃ d, P.underlying t = some d ∧ (kindOf d).agg = true) ∧ ∃ ks, flatOf P 6 t = some ks ∧ whole P t v = true ∧ fits ks v.cells.toList = true)
theorem cellsKind_fits {g : Gh} : ∀ {ks : List PK} {cs : List AV} {vs : List Value}, cs.length = vs.length → (∀ (i : Nat) (c : AV) (v : Value), cs[i]? = some c → vs[i]? = some v → R g c v) → cellsKind ks cs = true → fits ks vs = true
  | [], [], [], _, _, _ => rfl
  | [], [], _ :: _, hl, _, _ => by simp at hl
  | [], _ :: _, _, _, _, h => by simp [cellsKind] at h
  | _ :: _, [], _, _, _, h => by simp [cellsKind] at h
  | _ :: _, _ :: _, [], hl, _, _ => by simp at hl
  | k :: ks, c :: cs, v :: vs, hl, hr, h => by
    simp only [cellsKind, Bool.and_eq_true] at h
    have h0 := hr 0 c v rfl rfl
    have ih := cellsKind_fits (ks := ks) (cs := cs) (vs := vs) (by simpa using hl) (fun i c v h1 h2 => hr (i + 1) c v (by simpa using h1) (by simpa using h2)) h.2
    simp only [fits, ih, Bool.and_true]
    have h1 := h.1
    cases k <;> cases c <;> simp [cellKind] at h1 <;> cases h0 <;> simp [PK.of, h1]
theorem cellB_iff {k : PK} {g : Gh} {a b : AV} {u v : Value} (h1 : R g a u) (h2 : R g b v) (k1 : cellKind k a = true) (k2 : cellKind k b = true) : cellB a b = true ↔ u = v := by
  cases k <;> cases a <;> simp [cellKind] at k1 <;> cases b <;> simp [cellKind] at k2 <;> cases h1 <;> cases h2 <;> simp [cellB]
  subst k1; subst k2
  simp
theorem cellsB_iff {g : Gh} : ∀ {ks : List PK} {as bs : List AV} {us vs : List Value}, as.length = us.length → bs.length = vs.length → (∀ (i : Nat) (c : AV) (v : Value), as[i]? = some c → us[i]? = some v → R g c v) → (∀ (i : Nat) (c : AV) (v : Value), bs[i]? = some c → vs[i]? = some v → R g c v) →
    cellsKind ks as = true → cellsKind ks bs = true → (cellsB as bs = true ↔ us = vs)
  | [], [], [], [], [], _, _, _, _, _, _ => by simp [cellsB]
  | [], _ :: _, _, _, _, _, _, _, _, h, _ => by simp [cellsKind] at h
  | [], _, _ :: _, _, _, _, _, _, _, _, h => by simp [cellsKind] at h
  | [], [], _, _ :: _, _, hl, _, _, _, _, _ => by simp at hl
  | [], _, [], _, _ :: _, _, hl, _, _, _, _ => by simp at hl
  | _ :: _, [], _, _, _, _, _, _, _, h, _ => by simp [cellsKind] at h
  | _ :: _, _, [], _, _, _, _, _, _, _, h => by simp [cellsKind] at h
  | _ :: _, _ :: _, _, [], _, hl, _, _, _, _, _ => by simp at hl
  | _ :: _, _, _ :: _, _, [], _, hl, _, _, _, _ => by simp at hl
  | k :: ks, a :: as, b :: bs, u :: us, v :: vs, l1, l2, r1, r2, h1, h2 => by
    simp only [cellsKind, Bool.and_eq_true] at h1 h2
    have ih := cellsB_iff (ks := ks) (as := as) (bs := bs) (us := us) (vs := vs) (by simpa using l1) (by simpa using l2) (fun i c v h1 h2 => r1 (i + 1) c v (by simpa using h1) (by simpa using h2)) (fun i c v h1 h2 => r2 (i + 1) c v (by simpa using h1) (by simpa using h2)) h1.2 h2.2
    have h0 := cellB_iff (r1 0 a u rfl rfl) (r2 0 b v rfl rfl) h1.1 h2.1
    simp only [cellsB, Bool.and_eq_true, ih, h0, List.cons.injEq]
theorem wide_ty {P : Program} {t : TypeId} {ks : List PK} (h : (tyOf P t).kk = .wide ks) : flatOf P 6 t = some ks ∧ P.eqGuardType P.depth t = false ∧ ∃ d, P.underlying t = some d ∧ (kindOf d).agg = true := by
  unfold tyOf at h
  split at h
  · rename_i i d h1 h2
    simp only at h
    unfold keyTK at h
    rw [h2] at h
    cases d
    case array n e =>
      simp only at h
      split at h
      · cases h
      · rename_i hg
        split at h
        · rename_i ks' hk; cases h; exact ⟨hk, by simpa using hg, _, h2, rfl⟩
        · cases h
    case struct fs =>
      simp only at h
      split at h
      · cases h
      · rename_i hg
        split at h
        · rename_i ks' hk; cases h; exact ⟨hk, by simpa using hg, _, h2, rfl⟩
        · cases h
    all_goals (simp [kindOf] at h; done)
  · cases h
theorem plain_ty {P : Program} {t : TypeId} {a : AV} (h : keyKind (tyOf P t).kk a = true) (hw : ∀ ks, (tyOf P t).kk ≠ .wide ks) : ∃ d, P.underlying t = some d ∧ (tyOf P t).kk = kindOf d := by
  unfold tyOf at h hw ⊢
  split
  · rename_i i d h1 h2
    simp only [h1, h2] at h hw ⊢
    refine ⟨d, rfl, ?_⟩
    unfold keyTK at h hw ⊢
    rw [h2] at h hw ⊢
    cases d <;> simp only [kindOf] <;> simp only at h hw
    all_goals (split at h; · cases a <;> simp [keyKind] at h)
    all_goals (split at h; · rename_i hg _ ks hk; exact absurd (by rw [if_neg hg, hk]) (hw ks))
    all_goals (cases a <;> simp [keyKind] at h)
  · rename_i h1
    cases hi : P.info? t with
    | none => simp [hi] at h; cases a <;> simp [keyKind] at h
    | some i => cases hd : P.underlying t with
      | none => simp [hi, hd] at h; cases a <;> simp [keyKind] at h
      | some d => exact absurd hd (h1 i d hi)
theorem agg_whole {P : Program} {t : TypeId} {d : TypeDesc} (hu : P.underlying t = some d) (hd : (kindOf d).agg = true) (vs : Array Value) : whole P t (.agg vs) = true := by
  cases d <;> simp [kindOf, TK.agg] at hd <;> simp [whole, hu]
theorem keyKind_V {P : Program} {t : TypeId} {g : Gh} {a : AV} {v : Value} (h : R g a v) (hk : keyKind (tyOf P t).kk a = true) : KeyV P t v := by
  by_cases hw : ∃ ks, (tyOf P t).kk = .wide ks
  · obtain ⟨ks, hw⟩ := hw
    obtain ⟨h1, _, d, h2, h3⟩ := wide_ty hw
    rw [hw] at hk
    cases a <;> simp [keyKind] at hk
    cases h with
    | agg hl hr =>
      rename_i cs vs
      exact .inr ⟨⟨d, h2, h3⟩, ks, h1, agg_whole h2 h3 _, cellsKind_fits (by simpa [Value.cells] using hl) (fun i c v h1 h2 => hr i c v h1 (by simpa [Value.cells] using h2)) hk⟩
  · obtain ⟨d, hu, hd⟩ := plain_ty hk fun ks e => hw ⟨ks, e⟩
    rw [hd] at hk
    refine .inl ⟨d, hu, ?_⟩
    cases d <;> cases a <;> simp [kindOf, keyKind] at hk <;> cases h <;> simp [IsKey, hk]
theorem keyB_iff {K : TK} {g : Gh} {a b : AV} {u v : Value} (h1 : R g a u) (h2 : R g b v) (k1 : keyKind K a = true) (k2 : keyKind K b = true) : keyB a b = true ↔ u = v := by
  by_cases hw : ∃ ks, K = .wide ks
  · obtain ⟨ks, rfl⟩ := hw
    cases a <;> simp [keyKind] at k1
    cases b <;> simp [keyKind] at k2
    cases h1 with
    | agg l1 r1 =>
      cases h2 with
      | agg l2 r2 =>
        rename_i as bs us vs
        have := cellsB_iff (g := g) (ks := ks) (as := as) (bs := bs) (us := us.toList) (vs := vs.toList) (by simpa using l1) (by simpa using l2) (fun i c v h1 h2 => r1 i c v h1 (by simpa using h2)) (fun i c v h1 h2 => r2 i c v h1 (by simpa using h2)) k1 k2
        simp only [keyB, this, Value.agg.injEq]
        exact ⟨fun e => Array.ext' e, fun e => by rw [e]⟩
  · cases K
    case wide ks => exact absurd ⟨ks, rfl⟩ hw
    all_goals
      cases a <;> simp [keyKind] at k1
    all_goals
      cases b <;> simp [keyKind] at k2
    all_goals
      cases h1
    all_goals
      cases h2
    all_goals
      first
        | (simp [keyB]; done)
        | (subst k1; subst k2; simp [keyB]; done)
open Classical in
noncomputable def findV (k : Value) : List MapEntry → Nat → Option (Nat × Value)
  | [], _ => none
  | e :: es, i => if e.key = k then some (i, e.val) else findV k es (i + 1)
theorem findV_none {k : Value} : ∀ {en : List MapEntry} {i : Nat}, findV k en i = none → ∀ x, x ∈ en → ¬ x.key = k
  | [], _, _, x, hx => by simp at hx
  | e :: es, i, h, x, hx => by
    simp only [findV] at h
    split at h
    · cases h
    · rename_i hn
      rcases List.mem_cons.1 hx with rfl | hx
      · exact hn
      · exact findV_none h x hx
theorem run_findV {P : Program} {w : World} {t : TypeId} {k : Value} (hk : KeyV P t k) {en : List MapEntry} (hall : ∀ e ∈ en, KeyV P t e.key) : (Instr.findKey t k en).run P w = .ok (findV k en 0) w := by
  rcases hk with ⟨d, hu, hk⟩ | ⟨⟨d, hu, hd⟩, ks, hf, hwk, hfk⟩
  · have : ∀ (en : List MapEntry) (i : Nat), (∀ e ∈ en, KeyV P t e.key) → Instr.findNow d k en i = some (findV k en i) := by
      intro en
      induction en with
      | nil => intro i _; rfl
      | cons e es ih =>
        intro i hall
        have he : IsKey d e.key := by
          rcases hall e List.mem_cons_self with ⟨d', hu', h'⟩ | ⟨⟨d', hu', h'⟩, _⟩
          · rw [hu] at hu'; injection hu' with hu'; rw [hu']; exact h'
          · rw [hu] at hu'; injection hu' with hu'
            subst hu'
            cases d <;> simp [kindOf, TK.agg] at h' <;> cases k <;> simp [IsKey] at hk
        obtain ⟨r, hr, hiff⟩ := sameNow_of_keys hk he
        have ih' := ih (i + 1) fun e he => hall e (List.mem_cons_of_mem _ he)
        unfold Instr.findNow findV
        rw [hr]
        cases r with
        | true => simp only; rw [if_pos (hiff.1 rfl).symm]
        | false => simp only; rw [if_neg (fun e => by have := hiff.2 e.symm; cases this), ih']
    simp [Instr.findKey, run_underlying hu, this en 0 hall]
  · have hwide : (match P.underlying t with | some (.array _ _) | some (.struct _) => true | _ => false) = true := by
      rw [hu]; cases d <;> simp [kindOf, TK.agg] at hd <;> rfl
    rw [run_findKey_eq w hwide]
    have : ∀ (en : List MapEntry) (i : Nat), (∀ e ∈ en, KeyV P t e.key) → (Instr.findAsking t k en i).run P w = .ok (findV k en i) w := by
      intro en
      induction en with
      | nil => intro i _; simp [Instr.findAsking, findV]
      | cons e es ih =>
        intro i hall
        obtain ⟨hwe, hfe⟩ : whole P t e.key = true ∧ fits ks e.key.cells.toList = true := by
          rcases hall e List.mem_cons_self with ⟨d', hu', h'⟩ | ⟨_, ks', hf', h1, h2⟩
          · rw [hu] at hu'; injection hu' with hu'
            subst hu'
            cases d <;> simp [kindOf, TK.agg] at hd <;> cases hq : e.key <;> simp [IsKey, hq] at h'
          · rw [hf] at hf'; injection hf' with hf'; subst hf'; exact ⟨h1, h2⟩
        obtain ⟨r, hr, hiff⟩ := equal_flat 9994 6 t ks hf w k e.key hwk hwe hfk hfe
        have heq : (Op.equal t k e.key).run P w = .ok r w := hr
        have hag : ∀ v, whole P t v = true → ∃ xs, v = .agg xs := by
          intro v hv
          unfold whole at hv
          rw [hu] at hv
          cases d <;> simp [kindOf, TK.agg] at hd <;> cases v <;> simp at hv <;> exact ⟨_, rfl⟩
        have hiff2 : r = true ↔ e.key = k := by
          rw [hiff]
          obtain ⟨xs, hx⟩ := hag _ hwk
          obtain ⟨ys, hy⟩ := hag _ hwe
          rw [hx, hy]
          simp only [Value.cells, Value.agg.injEq]
          exact ⟨fun e => (Array.ext' e).symm, fun e => by rw [e]⟩
        have ih' := ih (i + 1) fun e he => hall e (List.mem_cons_of_mem _ he)
        unfold Instr.findAsking findV
        simp only [Sem.run_bind, heq, Result.andThen_ok]
        cases r with
        | true => rw [if_pos rfl, if_pos (hiff2.1 rfl)]; rfl
        | false => rw [if_neg (by simp), if_neg (fun e => by have := hiff2.2 e; cases this), ih']
    exact this en 0 hall
theorem run_checkV {P : Program} {w : World} {t : TypeId} {k : Value} (hk : KeyV P t k) (b : Bool) : (Instr.checkKey b 10000 t k).run P w = .ok () w := by
  rcases hk with ⟨d, hu, hk⟩ | ⟨_, ks, hf, hwk, hfk⟩
  · exact MapKept.run_checkKey hu hk b 9999
  · exact check_flat b 9994 6 t ks hf w k hwk hfk
theorem sameBits_keyV {P : Program} {t : TypeId} {k : Value} (hk : KeyV P t k) : Instr.sameBits 10000 k k = true := by
  rcases hk with ⟨d, hu, hk⟩ | ⟨⟨d, hu, hd⟩, ks, hf, hwk, hfk⟩
  · cases d <;> cases k <;> simp [IsKey] at hk <;> simp [Instr.sameBits, bytes_beq]
  · have : ∃ xs, k = .agg xs := by
      unfold whole at hwk
      rw [hu] at hwk
      cases d <;> simp [kindOf, TK.agg] at hd <;> cases k <;> simp at hwk <;> exact ⟨_, rfl⟩
    obtain ⟨xs, rfl⟩ := this
    show Instr.sameBits (9999 + 1) (.agg xs) (.agg xs) = true
    simp only [Instr.sameBits, beq_self_eq_true, Bool.true_and, List.all_eq_true]
    simp only [Value.cells] at hfk
    have one : ∀ (p : PK) (v : Value), p.of v = true → Instr.sameBits 9999 v v = true := by
      intro p v hp
      cases p <;> cases v <;> simp [PK.of] at hp <;> simp [Instr.sameBits, bytes_beq]
    have : ∀ (ks : List PK) (vs : List Value), fits ks vs = true → ∀ q ∈ vs.zip vs, Instr.sameBits 9999 q.1 q.2 = true := by
      intro ks vs
      induction vs generalizing ks with
      | nil => intro _ q hq; simp at hq
      | cons v vs ih =>
        intro h q hq
        cases ks with
        | nil => simp [fits] at h
        | cons p ks =>
          simp only [fits, Bool.and_eq_true] at h
          simp only [List.zip_cons_cons, List.mem_cons] at hq
          rcases hq with rfl | hq
          · exact one p v h.1
          · exact ih ks h.2 q hq
    exact this ks _ hfk
def REs (g : Gh) (es : List (AV × AV)) (en : List MapEntry) : Prop :=
  es.length = en.length ∧ ∀ (i : Nat) (kv : AV × AV) (e : MapEntry), es[i]? = some kv → en[i]? = some e → R g kv.1 e.key ∧ R g kv.2 e.val
theorem REs.tail {g : Gh} {a : AV × AV} {b : MapEntry} {es : List (AV × AV)} {en : List MapEntry} (h : REs g (a :: es) (b :: en)) : REs g es en :=
  ⟨by have := h.1; simpa using this, fun i kv e h1 h2 => h.2 (i + 1) kv e (by simpa using h1) (by simpa using h2)⟩
theorem REs.head {g : Gh} {a : AV × AV} {b : MapEntry} {es : List (AV × AV)} {en : List MapEntry} (h : REs g (a :: es) (b :: en)) : R g a.1 b.key ∧ R g a.2 b.val := h.2 0 a b rfl rfl
theorem find_abs {K : TK} {g : Gh} {key : AV} {kv : Value} (hkey : R g key kv) (hk : keyKind K key = true) :
    ∀ (es : List (AV × AV)) (en : List MapEntry) (i : Nat), REs g es en → es.all (fun e => keyKind K e.1) = true →
      (match es.find? (fun e => keyB key e.1) with
        | none => findV kv en i = none ∧ asetA key (.any) es = es ++ [(key, .any)]
        | some x => ∃ j e, findV kv en i = some (i + j, e.val) ∧ en[j]? = some e ∧ e.key = kv ∧ R g x.2 e.val ∧ j < es.length)
  | [], [], i, _, _ => ⟨rfl, rfl⟩
  | [], _ :: _, _, h, _ => by have := h.1; simp at this
  | _ :: _, [], _, h, _ => by have := h.1; simp at this
  | a :: es, b :: en, i, h, hall => by
    simp only [List.all_cons, Bool.and_eq_true] at hall
    have hb := h.head
    have hiff := keyB_iff hkey hb.1 hk hall.1
    simp only [List.find?_cons]
    cases hq : keyB key a.1 with
    | true =>
      have e1 := (hiff.1 hq).symm
      exact ⟨0, b, by rw [findV, if_pos e1]; rfl, rfl, e1, hb.2, by simp⟩
    | false =>
      have e1 : ¬ b.key = kv := fun e => by have := hiff.2 e.symm; rw [hq] at this; cases this
      have ih := find_abs hkey hk es en (i + 1) h.tail hall.2
      simp only
      cases hf : es.find? (fun e => keyB key e.1) with
      | none =>
        rw [hf] at ih
        exact ⟨by rw [findV, if_neg e1]; exact ih.1, by simp only [asetA, hq, Bool.false_eq_true, if_false, List.cons_append, ih.2]⟩
      | some x =>
        rw [hf] at ih
        obtain ⟨j, e, h1, h2, h3, h4, h5⟩ := ih
        exact ⟨j + 1, e, by rw [findV, if_neg e1, h1]; congr 2; omega, by simpa using h2, h3, h4, by simp; omega⟩
theorem map_ty {P : Program} {t : TypeId} (h : (tyOf P t).kind = .map) : P.underlying t = some (.map (tyOf P t).key (tyOf P t).elem) := by
  obtain ⟨i, d, h1, h2, h3⟩ := ty_kind h (by simp)
  cases d <;> simp [kindOf] at h3
  simp [tyOf, h1, h2]
theorem map_at {g : Gh} {w : World} {σ : Store} (hc : Conc g w σ) {o b : Nat} {es : List (AV × AV)} (ho : σ o = some (.map es)) (hb : g.loc o = some (b, 0, 0)) :
    ∃ (en : Array MapEntry) (ck : Nat), w.heap[b]? = some (.map en ck) ∧ REs g es en.toList ∧ Go.MapKept.Stamped en ck := by
  obtain ⟨blk, h4, _⟩ := hc.obj
  obtain ⟨_, en, ck, hl, hh, hlen, hr, hst⟩ := h4 o _ ho
  rw [hb] at hl
  injection hl with hl
  injection hl with hl _
  rw [← hl] at hh
  exact ⟨en, ck, hh, ⟨by simpa using hlen, fun i kv e h1 h2 => hr i kv e h1 (by simpa using h2)⟩, hst⟩
theorem en_keys {P : Program} {t : TypeId} {g : Gh} {es : List (AV × AV)} {en : List MapEntry} (h : REs g es en) (hall : es.all (fun e => keyKind (tyOf P t).kk e.1) = true) : ∀ e ∈ en, KeyV P t e.key := by
  intro e he
  obtain ⟨i, hi, rfl⟩ := List.getElem_of_mem he
  have hi' : i < es.length := by rw [h.1]; exact hi
  have := h.2 i es[i] en[i] (List.getElem?_eq_getElem hi') (List.getElem?_eq_getElem hi)
  exact keyKind_V this.1 (List.all_eq_true.1 hall _ (List.getElem_mem hi'))
theorem sound_lookup {P : Program} {g : Gh} {w : World} {σ : Store} (hc : Conc g w σ) {t : TypeId} {m key : AV} {mv kv : Value} (hm : R g m mv) (hkey : R g key kv) {ok : Bool} {k : AV → Prop} (hk : lookupA P (tyOf P t) σ m key ok k) :
    ∃ u r, (Instr.lookup t mv kv ok).run P w = .ok u w ∧ R g r u ∧ k r := by
  obtain ⟨hkind, hkk, hoe, hk⟩ := hk
  have hu := map_ty hkind
  have hisk := keyKind_V hkey hkk
  have hck : ∀ b, (Instr.checkKey b 10000 (tyOf P t).key kv).run P w = .ok () w := fun b => run_checkV hisk b
  have fin : ∀ (a : AV) (v : Value) (b : Bool), R g a v → R g (if ok = true then .tup [a, .bool b] else a) (if ok = true then .tuple #[v, .bool b] else v) := by
    intro a v b h
    split
    · exact R_tup2 h (.bool b)
    · exact h
  split at hk
  · split at hk
    · rename_i z hz
      cases hm
      obtain ⟨zv, hzv, hzr, _⟩ := run_zero' hoe hz w
      refine ⟨if ok = true then .tuple #[zv, .bool false] else zv, _, ?_, fin z zv false (hzr g), hk⟩
      have hfk := run_findV (P := P) (w := w) hisk (en := []) (by simp)
      unfold Instr.lookup
      simp only [Sem.run_bind, run_underlying hu, Result.andThen_ok, hck, Array.toList_empty, hfk, findV, hzv, Sem.run_pure]
    · exact hk.elim
  · rename_i o
    split at hk
    · rename_i es hes
      cases hm with
      | map hb =>
        rename_i b
        obtain ⟨en, ck, hh, hre, hst⟩ := map_at hc hes hb
        obtain ⟨hall, hk⟩ := hk
        replace hall : es.all (fun e => keyKind (tyOf P (tyOf P t).key).kk e.1) = true := hall
        have hgo : (getObj b).run P w = .ok (.map en ck) w := by simp [getObj, Sem.run, hh]
        have habs := find_abs hkey hkk es en.toList 0 hre hall
        have hfk := run_findV (P := P) (w := w) hisk (en_keys hre hall)
        cases hf : es.find? (fun e => keyB key e.1) with
        | none =>
          rw [hf] at habs hk
          simp only at hk
          cases hz : (tyOf P (tyOf P t).elem).zero with
          | none => simp [hz] at hk
          | some z =>
            simp only [hz] at hk
            obtain ⟨zv, hzv, hzr, _⟩ := run_zero' hoe hz w
            refine ⟨if ok = true then .tuple #[zv, .bool false] else zv, _, ?_, fin z zv false (hzr g), hk⟩
            rw [habs.1] at hfk
            unfold Instr.lookup
            simp only [Sem.run_bind, run_underlying hu, Result.andThen_ok, hgo, Sem.run_pure, hck, hfk, hzv]
        | some x =>
          rw [hf] at habs hk
          simp only at hk
          obtain ⟨j, e, h1, h2, h3, h4, h5⟩ := habs
          refine ⟨if ok = true then .tuple #[e.val, .bool true] else e.val, _, ?_, fin _ _ true h4, hk⟩
          rw [h1] at hfk
          unfold Instr.lookup
          simp only [Sem.run_bind, run_underlying hu, Result.andThen_ok, hgo, Sem.run_pure, hck, hfk]
    · exact hk.elim
  · exact hk.elim
theorem aset_spec {K : TK} {g : Gh} {key v : AV} {kv vv : Value} (hkey : R g key kv) (hv : R g v vv) (hk : keyKind K key = true) (ck : Nat) :
    ∀ (es : List (AV × AV)) (en : List MapEntry) (i : Nat), REs g es en → es.all (fun e => keyKind K e.1) = true →
      (findV kv en i = none ∧ REs g (asetA key v es) (en ++ [{ key := kv, val := vv, born := ck }])) ∨
      (∃ j e, findV kv en i = some (i + j, e.val) ∧ en[j]? = some e ∧ e.key = kv ∧ REs g (asetA key v es) (en.set j { e with key := kv, val := vv }))
  | [], [], i, _, _ => .inl ⟨rfl, rfl, fun j kv' e h1 h2 => by
      cases j with
      | zero => simp [asetA] at h1 h2; subst h1; subst h2; exact ⟨hkey, hv⟩
      | succ j => simp [asetA] at h1⟩
  | [], _ :: _, _, h, _ => by have := h.1; simp at this
  | _ :: _, [], _, h, _ => by have := h.1; simp at this
  | a :: es, b :: en, i, h, hall => by
    simp only [List.all_cons, Bool.and_eq_true] at hall
    have hb := h.head
    have hiff := keyB_iff hkey hb.1 hk hall.1
    have cons : ∀ {x : AV × AV} {y : MapEntry} {xs : List (AV × AV)} {ys : List MapEntry}, R g x.1 y.key → R g x.2 y.val → REs g xs ys → REs g (x :: xs) (y :: ys) := by
      intro x y xs ys q1 q2 q3
      refine ⟨by simp [q3.1], fun j kv' e h1 h2 => ?_⟩
      cases j with
      | zero => simp at h1 h2; subst h1; subst h2; exact ⟨q1, q2⟩
      | succ j => exact q3.2 j kv' e (by simpa using h1) (by simpa using h2)
    simp only [asetA]
    cases hq : keyB key a.1 with
    | true =>
      have e1 := (hiff.1 hq).symm
      refine .inr ⟨0, b, by rw [findV, if_pos e1]; rfl, rfl, e1, ?_⟩
      simp only [if_true, List.set_cons_zero]
      exact cons hkey hv h.tail
    | false =>
      have e1 : ¬ b.key = kv := fun e => by have := hiff.2 e.symm; rw [hq] at this; cases this
      simp only [Bool.false_eq_true, if_false]
      rcases aset_spec hkey hv hk ck es en (i + 1) h.tail hall.2 with ⟨h1, h2⟩ | ⟨j, e, h1, h2, h3, h4⟩
      · exact .inl ⟨by rw [findV, if_neg e1]; exact h1, cons hb.1 hb.2 h2⟩
      · exact .inr ⟨j + 1, e, by rw [findV, if_neg e1, h1]; congr 2; omega, by simpa using h2, h3, by simp only [List.set_cons_succ]; exact cons hb.1 hb.2 h4⟩
theorem setObj_heap {P : Program} {w : World} {b : Nat} {en en' : Array MapEntry} {ck ck' : Nat} (hh : w.heap[b]? = some (.map en ck)) :
    (setObj b (.map en' ck')).run P w = .ok () { w with heap := w.heap.setIfInBounds b (.map en' ck') } := by
  simp [setObj, Sem.run, hh]
theorem Conc.setMap {g : Gh} {w : World} {σ : Store} (hc : Conc g w σ) {o b : Nat} {es es' : List (AV × AV)} (ho : σ o = some (.map es)) (hb : g.loc o = some (b, 0, 0)) {en en' : Array MapEntry} {ck ck' : Nat} (hh : w.heap[b]? = some (.map en ck))
    (hre : REs g es' en'.toList) (hst : Go.MapKept.Stamped en' ck') : Conc g { w with heap := w.heap.setIfInBounds b (.map en' ck') } (σ.put o (.map es')) := by
  have hlt : b < w.heap.size := (Array.getElem?_eq_some_iff.1 hh).1
  refine hc.write (b := b) ho (fun blk hbl => ?_) (fun k hk => by simp [Array.getElem?_setIfInBounds, Ne.symm hk]) rfl rfl rfl (by simp) (fun off => ?_) ?_
  · obtain ⟨en2, ck2, hl, _⟩ := hbl
    rw [hb] at hl
    injection hl with hl
    injection hl with hl _
    exact hl.symm
  · cases hi : g.imm b off with
    | none => rfl
    | some v =>
      have := hc.imm _ _ _ hi
      simp [World.cell?, hh] at this
  · exact ⟨en', ck', hb, by simp [Array.getElem?_setIfInBounds, hlt], by simpa using hre.1, (fun i kv e h1 h2 => hre.2 i kv e h1 (by simpa using h2)), hst⟩
theorem sound_mapSet {P : Program} {g : Gh} {w : World} {σ : Store} (hc : Conc g w σ) {t : TypeId} {m key v : AV} {mv kv vv : Value} (hm : R g m mv) (hkey : R g key kv) (hv : R g v vv) {k : Store → Prop} (hk : mapSetA P (tyOf P t) σ m key v k) :
    ∃ w' σ', (Instr.mapUpdate t mv kv vv).run P w = .ok () w' ∧ Conc g w' σ' ∧ k σ' := by
  obtain ⟨hkind, hkk, hk⟩ := hk
  have hu := map_ty hkind
  have hisk := keyKind_V hkey hkk
  have hck : ∀ b, (Instr.checkKey b 10000 (tyOf P t).key kv).run P w = .ok () w := fun b => run_checkV hisk b
  split at hk
  · rename_i o
    split at hk
    · rename_i es hes
      cases hm with
      | map hb =>
        rename_i b
        obtain ⟨en, ck, hh, hre, hst⟩ := map_at hc hes hb
        obtain ⟨hall, hk⟩ := hk
        replace hall : es.all (fun e => keyKind (tyOf P (tyOf P t).key).kk e.1) = true := hall
        have hgo : (getObj b).run P w = .ok (.map en ck) w := by simp [getObj, Sem.run, hh]
        have hfk := run_findV (P := P) (w := w) hisk (en_keys hre hall)
        rcases aset_spec hkey hv hkk ck es en.toList 0 hre hall with ⟨h1, h2⟩ | ⟨j, e, h1, h2, h3, h4⟩
        · rw [h1] at hfk
          refine ⟨_, _, ?_, hc.setMap hes hb hh (en' := en.push { key := kv, val := vv, born := ck }) (ck' := ck + 1) (by simpa using h2) (Go.MapKept.stamped_push hst fun x hx e => findV_none h1 x hx e), hk⟩
          unfold Instr.mapUpdate
          simp only [Sem.run_bind, run_underlying hu, Result.andThen_ok, hgo, hck, hfk]
          exact setObj_heap hh
        · rw [h1] at hfk
          have hj : j < en.size := by have := (List.getElem?_eq_some_iff.1 h2).1; simpa using this
          have hej : en[j]? = some e := by simpa using h2
          refine ⟨_, _, ?_, hc.setMap hes hb hh (en' := en.modify j fun x => { x with key := kv, val := vv }) (ck' := ck) ?_ (Go.MapKept.stamped_modify hst j _ (fun _ _ => rfl) (fun x _ hx => by rw [hej] at hx; injection hx with hx; subst hx; exact h3.symm)), hk⟩
          · unfold Instr.mapUpdate
            simp only [Sem.run_bind, run_underlying hu, Result.andThen_ok, hgo, hck, hfk, Nat.zero_add, hej, Option.map_some, Option.getD_some, Instr.keyThatStays, h3, sameBits_keyV hisk, if_true, Sem.run_pure]
            exact setObj_heap hh
          · have : (en.modify j fun x => { x with key := kv, val := vv }).toList = en.toList.set j { e with key := kv, val := vv } := by
              apply List.ext_getElem?
              intro q
              rw [Array.getElem?_toList, Array.getElem?_modify, List.getElem?_set]
              by_cases hq : j = q
              · subst hq
                rw [if_pos rfl, if_pos rfl, if_pos (by simpa using hj), hej]
                rfl
              · rw [if_neg hq, if_neg hq]
                simp
            rw [this]
            exact h4
    · exact hk.elim
  · exact hk.elim
theorem adel_spec {K : TK} {g : Gh} {key : AV} {kv : Value} (hkey : R g key kv) (hk : keyKind K key = true) :
    ∀ (es : List (AV × AV)) (en : List MapEntry) (i : Nat), REs g es en → es.all (fun e => keyKind K e.1) = true →
      (findV kv en i = none ∧ REs g (adelA key es) en) ∨
      (∃ j e, findV kv en i = some (i + j, e.val) ∧ en[j]? = some e ∧ REs g (adelA key es) (en.eraseIdx j))
  | [], [], i, h, _ => .inl ⟨rfl, h⟩
  | [], _ :: _, _, h, _ => by have := h.1; simp at this
  | _ :: _, [], _, h, _ => by have := h.1; simp at this
  | a :: es, b :: en, i, h, hall => by
    simp only [List.all_cons, Bool.and_eq_true] at hall
    have hb := h.head
    have hiff := keyB_iff hkey hb.1 hk hall.1
    have cons : ∀ {x : AV × AV} {y : MapEntry} {xs : List (AV × AV)} {ys : List MapEntry}, R g x.1 y.key → R g x.2 y.val → REs g xs ys → REs g (x :: xs) (y :: ys) := by
      intro x y xs ys q1 q2 q3
      refine ⟨by simp [q3.1], fun j kv' e h1 h2 => ?_⟩
      cases j with
      | zero => simp at h1 h2; subst h1; subst h2; exact ⟨q1, q2⟩
      | succ j => exact q3.2 j kv' e (by simpa using h1) (by simpa using h2)
    simp only [adelA]
    cases hq : keyB key a.1 with
    | true =>
      have e1 := (hiff.1 hq).symm
      refine .inr ⟨0, b, by rw [findV, if_pos e1]; rfl, rfl, ?_⟩
      simp only [if_true, List.eraseIdx_cons_zero]
      exact h.tail
    | false =>
      have e1 : ¬ b.key = kv := fun e => by have := hiff.2 e.symm; rw [hq] at this; cases this
      simp only [Bool.false_eq_true, if_false]
      rcases adel_spec hkey hk es en (i + 1) h.tail hall.2 with ⟨h1, h2⟩ | ⟨j, e, h1, h2, h3⟩
      · exact .inl ⟨by rw [findV, if_neg e1]; exact h1, cons hb.1 hb.2 h2⟩
      · exact .inr ⟨j + 1, e, by rw [findV, if_neg e1, h1]; congr 2; omega, by simpa using h2, by simp only [List.eraseIdx_cons_succ]; exact cons hb.1 hb.2 h3⟩
theorem sound_mapDel {P : Program} {g : Gh} {w : World} {σ : Store} (hc : Conc g w σ) {t t2 ty : TypeId} {m key : AV} {mv kv : Value} (hm : R g m mv) (hkey : R g key kv) {k : Store → Prop} (hk : mapDelA P (tyOf P t) σ m key k) :
    ∃ w' σ', (Builtin.delete_ #[t, t2] ty #[mv, kv]).run P w = .ok (.tuple #[]) w' ∧ Conc g w' σ' ∧ k σ' := by
  obtain ⟨hkind, hkk, hk⟩ := hk
  have hu := map_ty hkind
  have hisk := keyKind_V hkey hkk
  have hck : ∀ b, (Instr.checkKey b 10000 (tyOf P t).key kv).run P w = .ok () w := fun b => run_checkV hisk b
  split at hk
  · rename_i o
    split at hk
    · rename_i es hes
      cases hm with
      | map hb =>
        rename_i b
        obtain ⟨en, ck, hh, hre, hst⟩ := map_at hc hes hb
        obtain ⟨hall, hk⟩ := hk
        replace hall : es.all (fun e => keyKind (tyOf P (tyOf P t).key).kk e.1) = true := hall
        have hgo : (getObj b).run P w = .ok (.map en ck) w := by simp [getObj, Sem.run, hh]
        have hlt : b < w.heap.size := (Array.getElem?_eq_some_iff.1 hh).1
        have hfk := run_findV (P := P) (w := w) hisk (en_keys hre hall)
        rcases adel_spec hkey hkk es en.toList 0 hre hall with ⟨h1, h2⟩ | ⟨j, e, h1, h2, h4⟩
        · rw [h1] at hfk
          refine ⟨_, _, ?_, hc.setMap hes hb hh (en' := en) (ck' := ck) h2 hst, hk⟩
          unfold Builtin.delete_
          simp [run_underlying hu, hgo, hck, hfk, setObj_heap hh]
        · rw [h1] at hfk
          have hj : j < en.size := by have := (List.getElem?_eq_some_iff.1 h2).1; simpa using this
          refine ⟨_, _, ?_, hc.setMap hes hb hh (en' := en.eraseIdxIfInBounds j) (ck' := ck) ?_ (Go.MapKept.stamped_erase hst j), hk⟩
          · unfold Builtin.delete_
            simp [run_underlying hu, hgo, hck, hfk, setObj_heap hh]
          · have : (en.eraseIdxIfInBounds j).toList = en.toList.eraseIdx j := by
              unfold Array.eraseIdxIfInBounds
              rw [dif_pos hj]
              simp
            rw [this]
            exact h4
    · exact hk.elim
  · exact hk.elim
end Go.Kern

namespace Go.Kern
open Go.RowKit
def Gh.addTip (g : Gh) (o n : Nat) (v : Value) (b : Nat) (cs : List Value) : Gh :=
  { g with imm := fun b' i => if b' = b ∧ i < cs.length then cs[i]? else g.imm b' i, tipv := fun p m => if p = o ∧ m = n then some v else g.tipv p m }
theorem Gh.Le_addTip {g : Gh} {o n : Nat} {v : Value} {b : Nat} {cs : List Value} (ht : g.tipv o n = none) (hi : ∀ i u, i < cs.length → g.imm b i = some u → cs[i]? = some u) : g.Le (g.addTip o n v b cs) :=
  ⟨rfl, fun b' i u h => by
    simp only [Gh.addTip]
    split
    · rename_i hc; obtain ⟨rfl, hl⟩ := hc; exact hi i u hl h
    · exact h, fun _ _ h => h, fun p m u h => by
    simp only [Gh.addTip]
    split
    · rename_i hc; obtain ⟨rfl, rfl⟩ := hc; rw [ht] at h; cases h
    · exact h, rfl⟩
def TipBefore (g : Gh) (σ : Store) (o n : Nat) (e : TypeId) (sz : Nat) : Prop :=
  (σ o = none ∧ g.loc o = none ∧ (∀ m, g.tipv o m = none) ∧ ¬ g.res o) ∨ (∃ n0, σ o = some (.tip n0 e sz) ∧ n0 < n ∧ ∀ m, n0 < m → g.tipv o m = none)
theorem TipBefore.later {g : Gh} {σ : Store} {o n : Nat} {e : TypeId} {sz : Nat} (h : TipBefore g σ o n e sz) : ∀ m, n ≤ m → g.tipv o m = none := by
  rcases h with ⟨_, _, h, _⟩ | ⟨n0, _, hn, h⟩
  · exact fun m _ => h m
  · exact fun m hm => h m (by omega)
theorem fresh_put {g : Gh} {σ : Store} {N o : Nat} (hN : ∀ p, N ≤ p → g.loc p = none ∧ (∀ m, g.tipv p m = none) ∧ σ p = none ∧ ¬ g.res p) (n : Nat) (v : Value) (b : Nat) (cs : List Value) (x : Ob) :
    ∃ N, ∀ p, N ≤ p → (g.addTip o n v b cs).loc p = none ∧ (∀ m, (g.addTip o n v b cs).tipv p m = none) ∧ (σ.put o x) p = none ∧ ¬ (g.addTip o n v b cs).res p := by
  refine ⟨max N (o + 1), fun p hp => ?_⟩
  have hpo : p ≠ o := by omega
  have := hN p (by omega)
  exact ⟨this.1, fun m => by simp only [Gh.addTip]; rw [if_neg (fun h => hpo h.1)]; exact this.2.1 m, by simp only [Store.put]; rw [if_neg hpo]; exact this.2.2.1, this.2.2.2⟩
theorem res_put {g : Gh} {w : World} {σ : Store} (hc : Conc g w σ) {o n : Nat} (hno : ¬ g.res o) (v : Value) (b : Nat) (cs : List Value) (x : Ob) :
    ∀ p, (g.addTip o n v b cs).res p → (g.addTip o n v b cs).loc p = none ∧ (∀ m, (g.addTip o n v b cs).tipv p m = none) ∧ (σ.put o x) p = none := by
  intro p hp
  have hp' : g.res p := hp
  have hpo : p ≠ o := fun e => hno (by rw [← e]; exact hp')
  have := hc.res p hp'
  exact ⟨this.1, fun m => by simp only [Gh.addTip]; rw [if_neg (fun h => hpo h.1)]; exact this.2.1 m, by simp only [Store.put]; rw [if_neg hpo]; exact this.2.2⟩
theorem TipBefore.nores {g : Gh} {w : World} {σ : Store} (hc : Conc g w σ) {o n : Nat} {e : TypeId} {sz : Nat} (h : TipBefore g σ o n e sz) : ¬ g.res o := by
  rcases h with ⟨_, _, _, h⟩ | ⟨n0, ho, _, _⟩
  · exact h
  · intro hr; rw [(hc.res o hr).2.2] at ho; cases ho
theorem tip_new {g : Gh} {w w' : World} {σ : Store} (hc : Conc g w σ) (hb : Below w.heap.size w w') {o n : Nat} {e : TypeId} {sz cap : Nat} {cur : Array Value} {cs : List Value}
    (hh : w'.heap[w.heap.size]? = some (.cells cur e (0, 0))) (hn : n ≤ cap) (hcm : cap ≤ maxLen) (hcs : cur.size = cap * sz) (hl : cs.length = n * sz) (htk : cur.toList.take (n * sz) = cs) (hbef : TipBefore g σ o n e sz) :
    ∃ g', g.Le g' ∧ Conc g' w' (σ.put o (.tip n e sz)) ∧ g'.tipv o n = some (.slice (some ⟨w.heap.size, 0, none⟩) n cap) ∧ (∀ i v, cs[i]? = some v → g'.imm w.heap.size i = some v) := by
  have hnone : ∀ i, g.imm w.heap.size i = none := fun i => by
    cases hi : g.imm w.heap.size i with
    | none => rfl
    | some v => exact absurd (hc.imm_lt hi) (Nat.lt_irrefl _)
  have hlater := hbef.later
  have hle : g.Le (g.addTip o n (.slice (some ⟨w.heap.size, 0, none⟩) n cap) w.heap.size cs) := Gh.Le_addTip (hlater n (Nat.le_refl _)) (fun i u _ h => by rw [hnone i] at h; cases h)
  have hgrow := hc.grow hb
  refine ⟨_, hle, ⟨hgrow.below, fun b i v hi => ?_, hgrow.loc, ?_, res_put hgrow (hbef.nores hc) _ _ _ _, ?_⟩, by simp [Gh.addTip], fun i v hv => ?_⟩
  · simp only [Gh.addTip] at hi
    split at hi
    · rename_i hcd
      obtain ⟨rfl, hlt⟩ := hcd
      rw [← htk, List.getElem?_take] at hi
      split at hi
      · simp only [World.cell?, hh]
        simpa using hi
      · cases hi
    · exact hgrow.imm b i v hi
  · obtain ⟨N, hN⟩ := hgrow.fresh
    exact fresh_put hN _ _ _ _ _
  · obtain ⟨blk, h1, h2⟩ := hc.obj
    refine ⟨fun p => if p = o then w.heap.size else blk p, fun p x hp => ?_, fun p q x y hp hq he => ?_⟩
    · simp only [Store.put] at hp
      by_cases hpo : p = o
      · subst hpo
        rw [if_pos rfl] at hp
        injection hp with hp
        subst hp
        simp only [if_pos]
        refine ⟨hc.below.size, cap, cur, by simp [Gh.addTip], fun m hm => ?_, hh, hn, hcm, hcs, fun off ho => ?_⟩
        · simp only [Gh.addTip]; rw [if_neg (by omega)]; exact hlater m (by omega)
        · simp only [Gh.addTip]; rw [if_neg (by omega)]; exact hnone off
      · rw [if_neg hpo] at hp
        simp only [if_neg hpo]
        have hlt := (h1 p x hp).2.lt
        exact ⟨(h1 p x hp).1, (h1 p x hp).2.keep hle (hb.block _ hlt) (fun off => by simp only [Gh.addTip]; rw [if_neg (by omega)]) (fun m => by simp only [Gh.addTip]; rw [if_neg (fun h => hpo h.1)])⟩
    · simp only [Store.put] at hp hq
      by_cases hpo : p = o <;> by_cases hqo : q = o
      · rw [hpo, hqo]
      · rw [if_neg hqo] at hq
        simp only [if_pos hpo, if_neg hqo] at he
        exact absurd (h1 q y hq).2.lt (by omega)
      · rw [if_neg hpo] at hp
        simp only [if_neg hpo, if_pos hqo] at he
        exact absurd (h1 p x hp).2.lt (by omega)
      · rw [if_neg hpo] at hp; rw [if_neg hqo] at hq
        simp only [if_neg hpo, if_neg hqo] at he
        exact h2 p q x y hp hq he
  · simp only [Gh.addTip]
    rw [if_pos ⟨trivial, (List.getElem?_eq_some_iff.1 hv).1⟩]
    exact hv
theorem tip_in {g : Gh} {w : World} {σ : Store} (hc : Conc g w σ) {o n0 n : Nat} {e : TypeId} {sz b cap : Nat} {cur : Array Value} {news : List Value} (ho : σ o = some (.tip n0 e sz)) (hlt : n0 < n)
    (htip : g.tipv o n0 = some (.slice (some ⟨b, 0, none⟩) n0 cap)) (hh : w.heap[b]? = some (.cells cur e (0, 0))) (hn : n ≤ cap) (hcs : cur.size = cap * sz) (hl : n0 * sz + news.length = n * sz) :
    ∃ g', g.Le g' ∧ Conc g' (w.setRow b (cur.toList.take (n0 * sz) ++ news ++ cur.toList.drop (n0 * sz + news.length)).toArray) (σ.put o (.tip n e sz)) ∧ g'.tipv o n = some (.slice (some ⟨b, 0, none⟩) n cap) ∧
      (∀ i v, (cur.toList.take (n0 * sz) ++ news)[i]? = some v → g'.imm b i = some v) := by
  obtain ⟨blk, h1, h2⟩ := hc.obj
  obtain ⟨hB, cap', cur', ht', hlater, hh', _, hcm, hcs', him⟩ := h1 o _ ho
  rw [htip] at ht'
  injection ht' with ht'
  injection ht' with e1 e2 e3
  injection e1 with e1
  injection e1 with e1
  subst e3
  have hbo : blk o = b := e1.symm
  rw [hbo] at him hB
  have hmul : n * sz ≤ cap * sz := Nat.mul_le_mul_right _ hn
  have hlen0 : (cur.toList.take (n0 * sz)).length = n0 * sz := by rw [List.length_take, Array.length_toList, hcs]; omega
  have himm : ∀ i u, g.imm b i = some u → (cur.toList.take (n0 * sz) ++ news)[i]? = some u := by
    intro i u hi
    have hi0 : i < n0 * sz := by
      rcases Nat.lt_or_ge i (n0 * sz) with h | h
      · exact h
      · rw [him i h] at hi; cases hi
    have := hc.imm _ _ _ hi
    simp only [World.cell?, hh] at this
    rw [List.getElem?_append_left (by omega), List.getElem?_take, if_pos hi0]
    simpa using this
  have hle : g.Le (g.addTip o n (.slice (some ⟨b, 0, none⟩) n cap) b (cur.toList.take (n0 * sz) ++ news)) := Gh.Le_addTip (hlater n hlt) (fun i u _ h => himm i u h)
  have hheap := setRow_heap w b cur (cur.toList.take (n0 * sz) ++ news ++ cur.toList.drop (n0 * sz + news.length)).toArray e _ hh
  have hoth : ∀ k, k ≠ b → (w.setRow b (cur.toList.take (n0 * sz) ++ news ++ cur.toList.drop (n0 * sz + news.length)).toArray).heap[k]? = w.heap[k]? := fun k hk => setRow_other w b k _ hk
  have hlen2 : (cur.toList.take (n0 * sz) ++ news).length = n * sz := by rw [List.length_append, hlen0, hl]
  refine ⟨_, hle, ⟨hc.below.trans ⟨rfl, rfl, rfl, by rw [setRow_size]; exact Nat.le_refl _, fun k hk => hoth k (by omega)⟩, fun b' i v hi => ?_, fun p b' sz' n' hl' => ⟨(hc.loc p b' sz' n' hl').1, by rw [setRow_size]; exact (hc.loc p b' sz' n' hl').2⟩, ?_, res_put hc (fun hr => by rw [(hc.res o hr).2.2] at ho; cases ho) _ _ _ _, ?_⟩, by simp [Gh.addTip], fun i v hv => ?_⟩
  · simp only [Gh.addTip] at hi
    split at hi
    · rename_i hcd
      obtain ⟨rfl, hlt'⟩ := hcd
      simp only [World.cell?, hheap]
      rw [List.getElem?_toArray, List.getElem?_append_left hlt']
      simpa using hi
    · rename_i hnc
      by_cases hbb : b' = b
      · subst hbb
        have := himm i v hi
        exact absurd ⟨rfl, (List.getElem?_eq_some_iff.1 this).1⟩ hnc
      · exact (World.cell?_of_block (a := ⟨b', i, none⟩) (hoth b' hbb)).trans (hc.imm b' i v hi)
  · obtain ⟨N, hN⟩ := hc.fresh
    exact fresh_put hN _ _ _ _ _
  · refine ⟨blk, fun p x hp => ?_, fun p q x y hp hq he => ?_⟩
    · simp only [Store.put] at hp
      by_cases hpo : p = o
      · subst hpo
        rw [if_pos rfl] at hp
        injection hp with hp
        subst hp
        rw [hbo]
        refine ⟨hB, cap, _, by simp [Gh.addTip], fun m hm => ?_, hheap, hn, hcm, ?_, fun off hoff => ?_⟩
        · simp only [Gh.addTip]; rw [if_neg (by omega)]; exact hlater m (by omega)
        · simp only [List.size_toArray, List.length_append, List.length_drop, Array.length_toList, hlen0, hcs]; omega
        · simp only [Gh.addTip]; rw [if_neg (by omega)]; exact him off (by omega)
      · rw [if_neg hpo] at hp
        have hne : blk p ≠ b := fun e => hpo (h2 p o x _ hp ho (by rw [e, hbo]))
        exact ⟨(h1 p x hp).1, (h1 p x hp).2.keep hle (hoth _ hne) (fun off => by simp only [Gh.addTip]; rw [if_neg (fun h => hne h.1)]) (fun m => by simp only [Gh.addTip]; rw [if_neg (fun h => hpo h.1)])⟩
    · have hp' : ∃ u', σ p = some u' := by
        simp only [Store.put] at hp
        by_cases hpo : p = o
        · subst hpo; exact ⟨_, ho⟩
        · rw [if_neg hpo] at hp; exact ⟨x, hp⟩
      have hq' : ∃ u', σ q = some u' := by
        simp only [Store.put] at hq
        by_cases hqo : q = o
        · subst hqo; exact ⟨_, ho⟩
        · rw [if_neg hqo] at hq; exact ⟨y, hq⟩
      exact h2 p q _ _ hp'.choose_spec hq'.choose_spec he
  · simp only [Gh.addTip]
    rw [if_pos ⟨trivial, (List.getElem?_eq_some_iff.1 hv).1⟩]
    exact hv
theorem sl_cells {g : Gh} {w : World} {σ : Store} (hc : Conc g w σ) {kd : SK} {xs : List AV} {v : Value} (h : R g (.sl kd xs) v) :
    ∃ A cap, v = .slice A xs.length cap ∧ xs.length ≤ cap ∧ (A = none → v = .slice none 0 0 ∧ xs = [] ∧ kd = .nil) ∧ (kd = .full → cap = xs.length) ∧ (kd = .nil → A = none) ∧
      ∃ cs : List Value, cs.length = (cellsL xs).length ∧ (∀ (i : Nat) (c : AV) (u : Value), (cellsL xs)[i]? = some c → cs[i]? = some u → R g c u) ∧ (∀ a, A = some a → ∀ j u, cs[j]? = some u → w.cell? (a.add j) = some u) := by
  cases h with
  | slnil => exact ⟨none, 0, rfl, Nat.le_refl _, fun _ => ⟨rfl, rfl, rfl⟩, nofun, fun _ => rfl, [], rfl, (fun i c u h => by simp [cellsL] at h), nofun⟩
  | sl hk hs hu hi hr =>
    rename_i a cap sz vs
    have hcap : xs.length ≤ cap ∧ (kd = .full → cap = xs.length) ∧ kd ≠ .nil := by
      cases kd with
      | nil => exact hk.elim
      | imm => exact ⟨hk, nofun, nofun⟩
      | full => have e : cap = xs.length := hk; exact ⟨by omega, fun _ => e, nofun⟩
      | tip o => exact ⟨hk.1, nofun, nofun⟩
    refine ⟨some a, cap, rfl, hcap.1, nofun, hcap.2.1, fun h => absurd h hcap.2.2, (List.range (cellsL xs).length).map vs, by simp, fun i c u h1 h2 => ?_, fun a' ha' j u hj => ?_⟩
    · have hlt : i < (cellsL xs).length := (List.getElem?_eq_some_iff.1 h1).1
      simp [hlt] at h2
      subst h2
      exact hr i c h1
    · injection ha' with ha'
      subst ha'
      have hlt : j < (cellsL xs).length := by have := (List.getElem?_eq_some_iff.1 hj).1; simpa using this
      simp [hlt] at hj
      subst hj
      have hne : xs ≠ [] := by rintro rfl; simp [cellsL] at hlt
      rw [add_spot (hs hne)]
      exact hc.imm _ _ _ (hi j hlt)
theorem R_tip {g : Gh} {o b cap sz : Nat} {xs : List AV} {cs : List Value} (ht : g.tipv o xs.length = some (.slice (some ⟨b, 0, none⟩) xs.length cap)) (hcap : xs.length ≤ cap) (hu : ∀ x ∈ xs, x.cells.length = sz)
    (hl : cs.length = (cellsL xs).length) (hr : ∀ (i : Nat) (c : AV) (u : Value), (cellsL xs)[i]? = some c → cs[i]? = some u → R g c u) (hi : ∀ i v, cs[i]? = some v → g.imm b i = some v) : R g (.sl (.tip o) xs) (.slice (some ⟨b, 0, none⟩) xs.length cap) := by
  refine .sl (sz := sz) (vs := fun i => cs.getD i undef) ⟨hcap, ht⟩ (fun _ => rfl) hu (fun i hlt => ?_) (fun i c hic => ?_)
  · simp only [Nat.zero_add]
    exact hi i _ (by simp [List.getD_eq_getElem?_getD, show i < cs.length by omega])
  · have hlt : i < (cellsL xs).length := (List.getElem?_eq_some_iff.1 hic).1
    exact hr i c _ hic (by simp [List.getD_eq_getElem?_getD, show i < cs.length by omega])
theorem cellsL_append (xs ys : List AV) : cellsL (xs ++ ys) = cellsL xs ++ cellsL ys := by simp [cellsL]
theorem append_R {g g' : Gh} (hle : g.Le g') {xs ys : List AV} {cs ds : List Value} (hl : cs.length = (cellsL xs).length) (h1 : ∀ (i : Nat) (c : AV) (u : Value), (cellsL xs)[i]? = some c → cs[i]? = some u → R g c u)
    (h2 : ∀ (i : Nat) (c : AV) (u : Value), (cellsL ys)[i]? = some c → ds[i]? = some u → R g c u) : ∀ (i : Nat) (c : AV) (u : Value), (cellsL (xs ++ ys))[i]? = some c → (cs ++ ds)[i]? = some u → R g' c u := by
  intro i c u hc hu
  rw [cellsL_append, List.getElem?_append] at hc
  rw [List.getElem?_append, hl] at hu
  split at hc
  · rename_i q; rw [if_pos q] at hu; exact (h1 i c u hc hu).le hle
  · rename_i q; rw [if_neg q] at hu; exact (h2 _ c u hc hu).le hle
theorem cells_oneV {g : Gh} {xs : List AV} {cs : List Value} (hl : cs.length = (cellsL xs).length) (hr : ∀ (i : Nat) (c : AV) (u : Value), (cellsL xs)[i]? = some c → cs[i]? = some u → R g c u) (h1 : ∀ x ∈ xs, x.cells.all AV.one = true) : ∀ u ∈ cs, u.oneCell' = true := by
  intro u hu
  obtain ⟨i, hi, rfl⟩ := List.getElem_of_mem hu
  have hi' : i < (cellsL xs).length := by omega
  refine (hr i _ _ (List.getElem?_eq_getElem hi') (List.getElem?_eq_getElem hi)).one ?_
  have hm := List.getElem_mem hi'
  unfold cellsL at hm
  rw [List.mem_flatMap] at hm
  obtain ⟨x, hx, hc⟩ := hm
  exact List.all_eq_true.1 (h1 x hx) _ hc
theorem arr_new {g : Gh} {w : World} {σ : Store} (hc : Conc g w σ) {e : TypeId} {rows : List AV} {cs : List Value} {sz gc : Nat} {z : Array Value} (hz : z.size = sz) (hu : ∀ r ∈ rows, r.cells.length = sz) (hl : cs.length = rows.length * sz)
    (hr : ∀ (i : Nat) (c : AV) (u : Value), (cellsL rows)[i]? = some c → cs[i]? = some u → R g c u) (hge : rows.length ≤ gc) {o : Nat} (ho : σ o = none) (hol : g.loc o = none) (hot : ∀ m, g.tipv o m = none) (hor : ¬ g.res o) :
    Conc (g.addLoc o (w.heap.size, sz, gc)) (w.drew.alloc (.cells (cs.toArray ++ Builtin.zeroCells z (gc - rows.length)) e)) (σ.put o (.arr e rows)) ∧
      R (g.addLoc o (w.heap.size, sz, gc)) (.ms o sz 0 rows.length) (.slice (some ⟨w.heap.size, 0, none⟩) rows.length gc) := by
  have hsz : (cs.toArray ++ Builtin.zeroCells z (gc - rows.length)).size = gc * sz := by
    simp only [Array.size_append, List.size_toArray, size_zeroCells, hz, hl, ← Nat.add_mul]
    congr 1
    omega
  refine ⟨hc.addObj (w' := w.drew.alloc (.cells (cs.toArray ++ Builtin.zeroCells z (gc - rows.length)) e)) ((Below.refl _ _).drew.alloc (Nat.le_refl _) _) (by simp) o hol ho hot hor (.arr e rows) sz gc (fun g' hle hl' him =>
    ⟨sz, _, ⟨gc, hl', hsz⟩, heap_alloc_new w.drew _, hu, by rw [hsz]; exact Nat.mul_le_mul_right _ hge, fun i c u hci hui => ?_, him⟩), .ms (b := w.heap.size) (n := gc) (by simp [Gh.addLoc]) (by omega) hge (fun _ => by rw [Nat.zero_mul])⟩
  have hlt := (List.getElem?_eq_some_iff.1 hci).1
  rw [cellsL_length rows hu] at hlt
  rw [Array.getElem?_append_left (by simpa [hl] using hlt)] at hui
  exact (hr i c u hci (by simpa using hui)).le hle
theorem run_append_room3 {P : Program} {w : World} {t tx ty e e2 : TypeId} {i : TypeInfo} (ht : P.underlying t = some (.slice e)) (hi : P.info? e = some i)
    (g sLen sCap : Nat) (cur : Array Value) (hg : w.heap[g]? = some (.cells cur e2 (0, 0)))
    (x : Value) (m : Nat) (news : List Value) (hs : Src P i.size tx x m news w)
    (hroom : sLen + m ≤ sCap) (hfit : sLen * i.size + news.length ≤ cur.size) :
    (Builtin.append_ #[t, tx] ty #[.slice (some ⟨g, 0, none⟩) sLen sCap, x]).run P w =
      .ok (.slice (some ⟨g, 0, none⟩) (sLen + m) sCap) (w.setRow g (cur.toList.take (sLen * i.size) ++ news ++ cur.toList.drop (sLen * i.size + news.length)).toArray) := by
  have hst := run_storeCells_at P g (sLen * i.size) e2 news 0 cur w hg (by simpa using hfit) hs.one
  simp only [Nat.add_zero] at hst
  rcases hs.kind with ⟨e', hk⟩ | hk <;> simp [Builtin.append_, run_underlying ht, run_underlying hk, sizeOf, typeInfo, hi, hs.len, hroom, hs.cells, Addr.add_lit, hst]
theorem run_append_zero3 {P : Program} {w : World} {t tx ty e : TypeId} {i : TypeInfo} (ht : P.underlying t = some (.slice e)) (hi : P.info? e = some i)
    (a : Option Addr) (sLen sCap : Nat) (x : Value) (hs : Src P i.size tx x 0 [] w) (hroom : sLen ≤ sCap) :
    (Builtin.append_ #[t, tx] ty #[.slice a sLen sCap, x]).run P w = .ok (.slice a sLen sCap) w := by
  rcases hs.kind with ⟨e', hk⟩ | hk <;> cases a <;> simp [Builtin.append_, run_underlying ht, run_underlying hk, sizeOf, typeInfo, hi, hs.len, hroom, hs.cells, storeCells]
theorem Src_sl {P : Program} {g : Gh} {w : World} {σ : Store} (hc : Conc g w σ) {ky : SK} {ys : List AV} {u : Value} (hy : R g (.sl ky ys) u) {size : Nat} (hys : ∀ z ∈ ys, z.known = true ∧ z.cells.length = size ∧ z.cells.all AV.one = true) {tx e : TypeId} (hk : P.underlying tx = some (.slice e)) :
    ∃ ds, Src P size tx u ys.length ds w ∧ ds.length = (cellsL ys).length ∧ ∀ (i : Nat) (c : AV) (v : Value), (cellsL ys)[i]? = some c → ds[i]? = some v → R g c v := by
  obtain ⟨B, cap2, rfl, hcap2, hBn, _, _, ds, hdl, hdr, hdc⟩ := sl_cells hc hy
  have hdl' : ds.length = ys.length * size := by rw [hdl, cellsL_length ys (fun q hq => (hys q hq).2.1)]
  have hd1 := cells_oneV hdl hdr (fun q hq => (hys q hq).2.2)
  refine ⟨ds, ?_, hdl, hdr⟩
  cases B with
  | none =>
    obtain ⟨e1, rfl, _⟩ := hBn rfl
    have : ds = [] := List.eq_nil_of_length_eq_zero (by simpa using hdl')
    subst this
    exact Src.ofNil w hk cap2
  | some b => exact Src.ofSlice w hk b ys.length cap2 ds hdl' (hdc b rfl) hd1
theorem append_ms {P : Program} {g : Gh} {w : World} {σ : Store} (hc : Conc g w σ) {t ty : TypeId} {i : TypeInfo} {z : Value} (hu : P.underlying t = some (.slice (tyOf P t).elem)) (i1 : P.info? (tyOf P t).elem = some i) (hz : i.zero = some z) (hzs : z.cells.size = i.size) (hpos : 0 < i.size)
    {o n : Nat} {tx : TypeId} {ys rows : List AV} {v u : Value} {ds : List Value} (hx : R g (.ms o i.size 0 n) v) (hs : Src P i.size tx u ys.length ds w) (hdl : ds.length = (cellsL ys).length) (hdr : ∀ (i : Nat) (c : AV) (u : Value), (cellsL ys)[i]? = some c → ds[i]? = some u → R g c u) (hys : ∀ z ∈ ys, z.known = true ∧ z.cells.length = i.size ∧ z.cells.all AV.one = true)
    (hbytes : (n + ys.length) * i.bytes ≤ 140737488355328) (hlen : n + ys.length ≤ 140737488355328) (ho : σ o = some (.arr (tyOf P t).elem rows)) {k : KK}
    {o' : Nat} (ho' : σ o' = none) (hol : g.loc o' = none) (hot : ∀ m, g.tipv o' m = none) (hor : ¬ g.res o')
    (hk : n ≤ rows.length ∧ (if ys = [] then k (.ms o i.size 0 n) σ else k (.ms o' i.size 0 (n + ys.length)) ((σ.drop o).put o' (.arr (tyOf P t).elem (rows.take n ++ ys))))) :
    ∃ r w' g' a σ', (Builtin.append_ #[t, tx] ty #[v, u]).run P w = .ok r w' ∧ g.Le g' ∧ Conc g' w' σ' ∧ R g' a r ∧ k a σ' := by
  obtain ⟨hnr, hk⟩ := hk
  have hdl' : ds.length = ys.length * i.size := by rw [hdl, cellsL_length ys (fun q hq => (hys q hq).2.1)]
  have hd1 := cells_oneV hdl hdr (fun q hq => (hys q hq).2.2)
  cases hx with
  | ms hb hcc hln ha =>
    rename_i b nn cap a
    by_cases hy0 : ys = []
    · subst hy0
      rw [if_pos rfl] at hk
      refine ⟨_, w, g, _, σ, ?_, .refl g, hc, .ms hb hcc hln ha, hk⟩
      have hds0 : ds = [] := List.eq_nil_of_length_eq_zero (by simpa using hdl')
      subst hds0
      exact run_append_zero3 hu i1 a n cap u hs hln
    · rw [if_neg hy0] at hk
      have hy1 : 0 < ys.length := by
        rcases Nat.eq_zero_or_pos ys.length with h | h
        · exact absurd (List.eq_nil_of_length_eq_zero h) hy0
        · exact h
      obtain ⟨blk, q1, q2⟩ := hc.obj
      obtain ⟨hB, sz', cells, ⟨n', hl, hcn⟩, hh, hun, hle, hrr, him⟩ := q1 o _ ho
      rw [hb] at hl
      injection hl with hl
      injection hl with hl1 hl2
      injection hl2 with hl2 hl3
      subst hl2; subst hl3
      rw [← hl1] at hh him hB
      have htk : (rows.take n).length = n := by rw [List.length_take]; omega
      have huni : ∀ q ∈ rows.take n ++ ys, q.cells.length = i.size := by
        intro q hq
        rcases List.mem_append.1 hq with h | h
        · exact hun q (List.mem_of_mem_take h)
        · exact (hys q h).2.1
      have hmn : n * i.size ≤ rows.length * i.size := Nat.mul_le_mul_right _ hnr
      have hcl1 : (cellsL (rows.take n)).length = n * i.size := by rw [cellsL_length _ (fun q hq => hun q (List.mem_of_mem_take hq)), htk]
      have hpre : ∀ (j : Nat) (c : AV), (cellsL (rows.take n))[j]? = some c → (cellsL rows)[j]? = some c := by
        intro j c hj
        have e : cellsL rows = cellsL (rows.take n) ++ cellsL (rows.drop n) := by rw [← cellsL_append, List.take_append_drop]
        rw [e, List.getElem?_append_left ((List.getElem?_eq_some_iff.1 hj).1)]
        exact hj
      have hcs1 : (cells.toList.take (n * i.size)).length = n * i.size := by rw [List.length_take, Array.length_toList]; omega
      have hold : ∀ (j : Nat) (c : AV) (u : Value), (cellsL (rows.take n))[j]? = some c → (cells.toList.take (n * i.size))[j]? = some u → R g c u := by
        intro j c u hj hu'
        have hlt := (List.getElem?_eq_some_iff.1 hj).1
        rw [List.getElem?_take, if_pos (by omega)] at hu'
        exact hrr j c u (hpre j c hj) (by simpa using hu')
      by_cases hroom : n + ys.length ≤ cap
      · have hae := ha (by omega)
        rw [Nat.zero_mul] at hae
        subst hae
        have hmul : (n + ys.length) * i.size ≤ nn * i.size := Nat.mul_le_mul_right _ (by omega)
        rw [Nat.add_mul] at hmul
        have hlen2 : (cells.toList.take (n * i.size) ++ ds ++ cells.toList.drop (n * i.size + ds.length)).toArray.size = nn * i.size := by
          simp only [List.size_toArray, List.length_append, List.length_drop, Array.length_toList, hcs1, hcn, hdl']; omega
        · have hr := run_append_room3 (P := P) (w := w) (ty := ty) (e2 := (tyOf P t).elem) hu i1 b n cap cells hh u ys.length ds hs hroom (by rw [hdl', hcn]; omega)
          have hw := hc.write (w' := w.setRow b (cells.toList.take (n * i.size) ++ ds ++ cells.toList.drop (n * i.size + ds.length)).toArray) (y := .arr (tyOf P t).elem (rows.take n ++ ys)) (b := b) ho (fun blk' hb' => by
            obtain ⟨sz2, cells2, ⟨n2, hl2, _⟩, _⟩ := hb'
            rw [hb] at hl2
            injection hl2 with hl2
            injection hl2 with hl2 _
            exact hl2.symm) (fun q hq => setRow_other w b q _ hq) rfl rfl rfl (setRow_size w b _) him
            ⟨i.size, _, ⟨nn, hb, hlen2⟩, setRow_heap w b cells _ _ _ hh, huni, by rw [hlen2, List.length_append, htk]; exact Nat.mul_le_mul_right _ (by omega), fun j c u hj hu' => by
              rw [List.getElem?_toArray] at hu'
              have hlt := (List.getElem?_eq_some_iff.1 hj).1
              rw [cellsL_append, List.length_append, hcl1, ← hdl, hdl'] at hlt
              rw [List.getElem?_append_left (by rw [List.length_append, hcs1, hdl']; exact hlt)] at hu'
              exact append_R (.refl g) (hcs1.trans hcl1.symm) hold hdr j c u hj hu', him⟩
          have hren := hw.rename (o := o) (o' := o') (et := (tyOf P t).elem) (rows := rows.take n ++ ys) (b := b) (sz := i.size) (n := nn) (by simp [Store.put]) hb hol (by
            simp only [Store.put]
            rw [if_neg (fun e => by rw [e, ho] at ho'; cases ho')]; exact ho') hot hor
          refine ⟨_, _, g.addLoc o' (b, i.size, nn), _, _, hr, Gh.Le_addLoc _ hol, ?_, .ms (b := b) (n := nn) (by simp [Gh.addLoc]) (by omega) hroom (fun _ => by simp), hk⟩
          have hst : (((σ.put o (.arr (tyOf P t).elem (rows.take n ++ ys))).drop o).put o' (.arr (tyOf P t).elem (rows.take n ++ ys))) = ((σ.drop o).put o' (.arr (tyOf P t).elem (rows.take n ++ ys))) := by
            funext p
            simp only [Store.put, Store.drop]
            by_cases h1 : p = o' <;> by_cases h2 : p = o <;> simp [h1, h2]
          rw [hst] at hren
          exact hren
      · have hr := run_append_grow_src (P := P) w t tx ty (tyOf P t).elem i z hu i1 hz (some a) n cap (cells.toList.take (n * i.size)) (run_firstCells_some w.drew i.size n a n cap _ (by rw [hcs1]) (fun j u hj => by
          have hlt := (List.getElem?_eq_some_iff.1 hj).1
          rw [hcs1] at hlt
          have hn0 : 0 < n := by
            rcases Nat.eq_zero_or_pos n with h | h
            · subst h; simp at hlt
            · exact h
          have hae := ha (by omega)
          subst hae
          rw [add_spot rfl]
          rw [List.getElem?_take, if_pos hlt] at hj
          have hhd : w.drew.heap[b]? = some (.cells cells (tyOf P t).elem (0, 0)) := hh
          simp only [World.cell?, hhd, Nat.zero_mul, Nat.zero_add]
          simpa using hj)) u ys.length ds hs (by omega) (by omega) (growslice_fits (by omega) hbytes)
        have hge := grownCap_ge w (n + ys.length) cap (tyOf P t).elem
        obtain ⟨h1, h2⟩ := arr_new hc (e := (tyOf P t).elem) (rows := rows.take n ++ ys) (cs := cells.toList.take (n * i.size) ++ ds) (gc := grownCap w (n + ys.length) cap (tyOf P t).elem) (z := z.cells) hzs huni (by rw [List.length_append, List.length_append, hcs1, hdl', htk, Nat.add_mul])
          (append_R (.refl g) (hcs1.trans hcl1.symm) hold hdr) (by rw [List.length_append, htk]; exact hge) ho' hol hot hor
        rw [List.length_append, htk] at h1 h2
        refine ⟨_, _, _, _, _, hr, Gh.Le_addLoc _ hol, h1.sub ?_, h2, hk⟩
        intro p x hp
        simp only [Store.put, Store.drop] at hp ⊢
        by_cases h1 : p = o'
        · rw [if_pos h1] at hp ⊢; exact hp
        · rw [if_neg h1] at hp ⊢
          by_cases h2 : p = o
          · rw [if_pos h2] at hp; cases hp
          · rw [if_neg h2] at hp; exact hp
theorem sound_appendN {P : Program} {g : Gh} {w : World} {σ : Store} (hc : Conc g w σ) {t ty : TypeId} {x y : AV} {v u : Value} (hx : R g x v) (hy : R g y u) {k : KK} {mu : Bool} {o : Nat} (ho : σ o = none) (hol : g.loc o = none) (hot : ∀ m, g.tipv o m = none) (hor : ¬ g.res o) (hk : appendN P (tyOf P t) mu σ x y o k) :
    ∃ r w' g' a σ', (Builtin.append_ #[t, t] ty #[v, u]).run P w = .ok r w' ∧ g.Le g' ∧ Conc g' w' σ' ∧ R g' a r ∧ k a σ' := by
  obtain ⟨hkind, hoe, hz, hpos, hk⟩ := hk
  have hu := ty_slice hkind
  obtain ⟨i, d, i1, i2, i3, i4, i5, i6⟩ := zero_inv hoe
  unfold zeroFits at hz
  rw [i3, i4] at hz
  obtain ⟨z, hz, hzs⟩ : ∃ z, i.zero = some z ∧ z.cells.size = i.size := by
    cases hzz : i.zero with
    | none => simp [hzz] at hz
    | some z =>
      simp only [hzz, Option.map_some, decide_eq_true_eq] at hz
      refine ⟨z, rfl, ?_⟩
      rw [← hz]
      cases z <;> first | rfl | (simp [ofConst, AV.cells, Value.cells]; done) | (simp only [ofConst, leafOf]; split <;> rfl)
  split at hk
  · rename_i ky ys
    obtain ⟨hys, hk⟩ := hk
    replace hys := rowsOk_spec hys
    split at hk
    · rename_i ox sz st n
      obtain ⟨rfl, rfl, hbytes, hlen, hk⟩ := hk
      rw [i5] at hbytes
      rw [i4] at hpos hys hx hk
      split at hk
      · rename_i e rows hro
        obtain ⟨rfl, hk⟩ := hk
        obtain ⟨ds, q1, q2, q3⟩ := Src_sl hc hy hys hu
        exact append_ms hc hu i1 hz hzs hpos hx q1 q2 q3 hys hbytes hlen hro ho hol hot hor hk
      · exact hk.elim
    · rename_i kd xs
      obtain ⟨hxs, hbytes, hlen, hk⟩ := hk
      replace hxs := rowsOk_spec hxs
      rw [i5] at hbytes
      rw [i4] at hpos hys hxs hk
      obtain ⟨A, cap, rfl, hcap, hAn, hfull, hnil, cs, hcl, hcr, hcc⟩ := sl_cells hc hx
      obtain ⟨B, cap2, rfl, hcap2, hBn, hfull2, hnil2, ds, hdl, hdr, hdc⟩ := sl_cells hc hy
      have hcl' : cs.length = xs.length * i.size := by rw [hcl, cellsL_length xs (fun q hq => (hxs q hq).2.1)]
      have hdl' : ds.length = ys.length * i.size := by rw [hdl, cellsL_length ys (fun q hq => (hys q hq).2.1)]
      have hd1 := cells_oneV hdl hdr (fun q hq => (hys q hq).2.2)
      have h63 : xs.length + ys.length ≤ maxLen := by unfold maxLen; omega
      have huni : ∀ q ∈ xs ++ ys, q.cells.length = i.size := by
        intro q hq
        rcases List.mem_append.1 hq with h | h
        · exact (hxs q h).2.1
        · exact (hys q h).2.1
      have hcds : (cs ++ ds).length = (cellsL (xs ++ ys)).length := by rw [List.length_append, hcl, hdl, cellsL_append, List.length_append]
      by_cases hy0 : ys = []
      · subst hy0
        rw [if_pos rfl] at hk
        refine ⟨_, w, g, _, σ, ?_, .refl g, hc, hx, hk⟩
        have hds0 : ds = [] := List.eq_nil_of_length_eq_zero (by simpa using hdl')
        cases A with
        | none =>
          obtain ⟨e1, rfl, _⟩ := hAn rfl
          injection e1 with _ _ e1
          subst e1
          cases B <;> simp [Builtin.append_, run_underlying hu, sizeOf, typeInfo, i1, Builtin.lenOf, Builtin.firstCells, loadCells, loadCellsFrom]
        | some a =>
          cases B <;> simp [Builtin.append_, run_underlying hu, sizeOf, typeInfo, i1, Builtin.lenOf, Builtin.firstCells, loadCells, loadCellsFrom, hcap, storeCells]
      · rw [if_neg hy0] at hk
        have hy1 : 0 < ys.length := by
          rcases Nat.eq_zero_or_pos ys.length with h | h
          · exact absurd (List.eq_nil_of_length_eq_zero h) hy0
          · exact h
        obtain ⟨b, rfl⟩ : ∃ b, B = some b := by
          cases B with
          | none => exact absurd (hBn rfl).2.1 hy0
          | some b => exact ⟨b, rfl⟩
        have hnews := hdc b rfl
        split at hk
        · obtain ⟨hfr, hk⟩ := hk
          have fin : ∀ (cs' : List Value) (gc : Nat), cs'.length = xs.length * i.size → (∀ (i : Nat) (c : AV) (u : Value), (cellsL xs)[i]? = some c → cs'[i]? = some u → R g c u) → cs'.length = (cellsL xs).length → xs.length + ys.length ≤ gc →
              ∃ g' a σ', g.Le g' ∧ Conc g' (w.drew.alloc (.cells (cs'.toArray ++ ds.toArray ++ Builtin.zeroCells z.cells (gc - (xs.length + ys.length))) (tyOf P t).elem)) σ' ∧
                R g' a (.slice (some ⟨w.heap.size, 0, none⟩) (xs.length + ys.length) gc) ∧ k a σ' := by
            intro cs' gc hcl2 hcr2 hcl3 hge
            have hln : (cs' ++ ds).length = (xs ++ ys).length * i.size := by rw [List.length_append, hcl2, hdl', List.length_append, Nat.add_mul]
            obtain ⟨h1, h2⟩ := arr_new hc (e := (tyOf P t).elem) (rows := xs ++ ys) (cs := cs' ++ ds) (gc := gc) (z := z.cells) hzs huni hln (append_R (.refl g) hcl3 hcr2 hdr) (by rw [List.length_append]; exact hge) ho hol hot hor
            rw [List.length_append] at h1 h2
            refine ⟨_, _, _, Gh.Le_addLoc _ hol, ?_, h2, hk⟩
            rw [show cs'.toArray ++ ds.toArray = (cs' ++ ds).toArray from by simp]
            exact h1
          cases kd with
          | imm => simp [SK.fresh] at hfr
          | tip o => simp [SK.fresh] at hfr
          | nil =>
            have hA := hnil rfl
            subst hA
            obtain ⟨e1, rfl, _⟩ := hAn rfl
            injection e1 with _ _ e1
            subst e1
            have hr := run_append_nil (P := P) w t ty (tyOf P t).elem i z hu i1 hz b ys.length cap2 ds hdl' hnews hy1 (by simp at hlen; omega) (by simp at hbytes; omega)
            obtain ⟨g', a, σ', h1, h2, h3, h4⟩ := fin [] (grownCap w ys.length 0 (tyOf P t).elem) (by simp) (fun i c u h => by simp [cellsL] at h) rfl (by simpa using grownCap_ge w ys.length 0 (tyOf P t).elem)
            simp only [List.length_nil, Nat.zero_add] at h2 h3
            exact ⟨_, _, g', a, σ', hr, h1, by simpa using h2, h3, h4⟩
          | full =>
            have hcapx := hfull rfl
            subst hcapx
            cases A with
            | none => obtain ⟨_, _, h⟩ := hAn rfl; cases h
            | some a0 =>
              have hr := run_append_grow (P := P) w t ty (tyOf P t).elem i z hu i1 hz a0 xs.length xs.length cs hcl' (hcc a0 rfl) b ys.length cap2 ds hdl' hnews (by omega) (by omega) (growslice_fits (by omega) hbytes)
              obtain ⟨g', a, σ', h1, h2, h3, h4⟩ := fin cs (grownCap w (xs.length + ys.length) xs.length (tyOf P t).elem) hcl' hcr hcl (grownCap_ge w _ _ _)
              exact ⟨_, _, g', a, σ', hr, h1, h2, h3, h4⟩
        have grown : ∀ (old : Nat) (o : Nat) (cs' : List Value), cs'.length = xs.length * i.size → TipBefore g σ o (xs ++ ys).length (tyOf P t).elem i.size →
            (∀ (i : Nat) (c : AV) (u : Value), (cellsL xs)[i]? = some c → cs'[i]? = some u → R g c u) → cs'.length = (cellsL xs).length →
            k (.sl (.tip o) (xs ++ ys)) (σ.put o (.tip (xs ++ ys).length (tyOf P t).elem i.size)) →
            ∃ g' a σ', g.Le g' ∧ Conc g' (w.drew.alloc (.cells (cs'.toArray ++ ds.toArray ++ Builtin.zeroCells z.cells (grownCap w (xs.length + ys.length) old (tyOf P t).elem - (xs.length + ys.length))) (tyOf P t).elem)) σ' ∧
              R g' a (.slice (some ⟨w.heap.size, 0, none⟩) (xs.length + ys.length) (grownCap w (xs.length + ys.length) old (tyOf P t).elem)) ∧ k a σ' := by
          intro old o cs' hcl2 hbef hcr2 hcl3 hk2
          have hge := grownCap_ge w (xs.length + ys.length) old (tyOf P t).elem
          have hle' := grownCap_le_maxLen w (xs.length + ys.length) old (tyOf P t).elem h63
          generalize grownCap w (xs.length + ys.length) old (tyOf P t).elem = gc at hge hle' ⊢
          have hln : (cs' ++ ds).length = (xs ++ ys).length * i.size := by rw [List.length_append, hcl2, hdl', List.length_append, Nat.add_mul]
          obtain ⟨g', h1, h2, h3, h4⟩ := tip_new hc (w' := w.drew.alloc (.cells (cs'.toArray ++ ds.toArray ++ Builtin.zeroCells z.cells (gc - (xs.length + ys.length))) (tyOf P t).elem))
            ((Below.refl _ _).drew.alloc (Nat.le_refl _) _) (heap_alloc_new w.drew _) (n := (xs ++ ys).length) (by rw [List.length_append]; exact hge) hle'
            (by
              simp only [Array.size_append, List.size_toArray, size_zeroCells, hzs, hcl2, hdl', ← Nat.add_mul]
              congr 1
              omega) (cs := cs' ++ ds) hln (by
              simp only [Array.toList_append, List.append_assoc]
              rw [← List.append_assoc, ← hln]
              exact List.take_left) hbef
          refine ⟨g', _, _, h1, h2, ?_, hk2⟩
          have := R_tip h3 (by rw [List.length_append]; exact hge) huni (by rw [List.length_append, hcl3, hdl, cellsL_append, List.length_append]) (append_R h1 hcl3 hcr2 hdr) h4
          rw [List.length_append] at this
          exact this
        have hxy : (xs ++ ys).length = xs.length + ys.length := List.length_append
        cases kd with
        | imm => exact hk.elim
        | nil =>
          have hA := hnil rfl
          subst hA
          obtain ⟨e1, rfl, _⟩ := hAn rfl
          injection e1 with _ _ e1
          subst e1
          have hr := run_append_nil (P := P) w t ty (tyOf P t).elem i z hu i1 hz b ys.length cap2 ds hdl' hnews hy1 (by simp at hlen; omega) (by simp at hbytes; omega)
          obtain ⟨g', a, σ', h1, h2, h3, h4⟩ := grown 0 o [] (by simp) (.inl ⟨ho, hol, hot, hor⟩) (fun i c u h => by simp [cellsL] at h) rfl (by simpa using hk)
          simp only [List.length_nil, Nat.zero_add] at h2 h3
          exact ⟨_, _, g', a, σ', hr, h1, by simpa using h2, h3, h4⟩
        | full =>
          have hcapx := hfull rfl
          subst hcapx
          cases A with
          | none => obtain ⟨_, _, h⟩ := hAn rfl; cases h
          | some a0 =>
            have hr := run_append_grow (P := P) w t ty (tyOf P t).elem i z hu i1 hz a0 xs.length xs.length cs hcl' (hcc a0 rfl) b ys.length cap2 ds hdl' hnews (by omega) (by omega) (growslice_fits (by omega) hbytes)
            obtain ⟨g', a, σ', h1, h2, h3, h4⟩ := grown xs.length o cs hcl' (.inl ⟨ho, hol, hot, hor⟩) hcr hcl hk
            exact ⟨_, _, g', a, σ', hr, h1, h2, h3, h4⟩
        | tip o =>
          clear ho hol hot hor
          obtain ⟨ho, hk⟩ := hk
          obtain ⟨blk, q1, q2⟩ := hc.obj
          obtain ⟨hB, cap', cur, ht, hlater, hh, hnc, hcm, hcs, him⟩ := q1 o _ ho
          have htv : g.tipv o xs.length = some (.slice A xs.length cap) := by
            cases hx with
            | sl hk2 hs2 hu2 hi2 hr2 => exact hk2.2
          rw [htv] at ht
          injection ht with ht
          injection ht with e1 e2 e3
          subst e1; subst e3
          by_cases hroom : xs.length + ys.length ≤ cap
          · have hmul : (xs.length + ys.length) * i.size ≤ cap * i.size := Nat.mul_le_mul_right _ hroom
            rw [Nat.add_mul] at hmul
            have hr := run_append_room (P := P) w t ty (tyOf P t).elem i hu i1 (blk o) xs.length cap cur hh b ys.length cap2 ds hdl' hnews hd1 hroom (by rw [hdl', hcs]; omega)
            obtain ⟨g', h1, h2, h3, h4⟩ := tip_in hc (n := (xs ++ ys).length) ho (by rw [hxy]; omega) htv hh (by rw [hxy]; exact hroom) hcs (news := ds) (by rw [hdl', hxy, Nat.add_mul])
            have hcur : cur.toList.take (xs.length * i.size) = cs := by
              apply List.ext_getElem?
              intro j
              rw [List.getElem?_take]
              by_cases hj : j < xs.length * i.size
              · rw [if_pos hj]
                have hcj : cs[j]? = some (cs[j]'(by omega)) := List.getElem?_eq_getElem _
                have := hcc _ rfl j _ hcj
                rw [add_spot rfl] at this
                simp only [World.cell?, hh, Nat.zero_add] at this
                rw [hcj]
                simpa using this
              · rw [if_neg hj, List.getElem?_eq_none (by omega)]
            rw [hcur] at h2 h4 hr
            refine ⟨_, _, g', _, _, hr, h1, h2, ?_, hk⟩
            rw [← hxy]
            exact R_tip h3 (by rw [hxy]; exact hroom) huni hcds (append_R h1 hcl hcr hdr) h4
          · have hr := run_append_grow (P := P) w t ty (tyOf P t).elem i z hu i1 hz ⟨blk o, 0, none⟩ xs.length cap cs hcl' (hcc _ rfl) b ys.length cap2 ds hdl' hnews (by omega) (by omega) (growslice_fits (by omega) hbytes)
            obtain ⟨g', a, σ', h1, h2, h3, h4⟩ := grown cap o cs hcl' (.inr ⟨xs.length, ho, by rw [hxy]; omega, hlater⟩) hcr hcl hk
            exact ⟨_, _, g', a, σ', hr, h1, h2, h3, h4⟩
    · exact hk.elim
  · exact hk.elim
theorem sound_append {P : Program} {g : Gh} {w : World} {σ : Store} (hc : Conc g w σ) {t ty : TypeId} {x y : AV} {v u : Value} (hx : R g x v) (hy : R g y u) {k : KK} {mu : Bool} (hk : appendA P (tyOf P t) mu σ x y k) :
    ∃ r w' g' a σ', (Builtin.append_ #[t, t] ty #[v, u]).run P w = .ok r w' ∧ g.Le g' ∧ Conc g' w' σ' ∧ R g' a r ∧ k a σ' := by
  obtain ⟨o, ho, hol, hot, hor⟩ := hc.new
  exact sound_appendN hc hx hy ho hol hot hor (appendA_N hk ho)
end Go.Kern

namespace Go.Kern
open Go.RowKit
def bytesA (s : ByteArray) : List AV := s.data.toList.map fun b => .int .u8 b.toNat
theorem length_bytesA (s : ByteArray) : (bytesA s).length = s.size := by simp [bytesA]
def unB : List AV → Option ByteArray
  | [] => some .empty
  | .int .u8 n :: l => (unB l).map fun s => ⟨#[UInt8.ofNat n.toNat] ++ s.data⟩
  | _ :: _ => none
theorem unB_spec : ∀ {l : List AV} {s : ByteArray}, unB l = some s → ∃ ns : List Int, l = ns.map (AV.int .u8) ∧ s = ⟨(ns.map fun n => UInt8.ofNat n.toNat).toArray⟩
  | [], s, h => by simp [unB] at h; subst h; exact ⟨[], rfl, rfl⟩
  | .int .u8 n :: l, s, h => by
    simp only [unB, Option.map_eq_some_iff] at h
    obtain ⟨t, h1, rfl⟩ := h
    obtain ⟨ns, rfl, rfl⟩ := unB_spec h1
    exact ⟨n :: ns, rfl, by simp⟩
  | .int .i8 _ :: _, _, h => by simp [unB] at h
  | .int .i16 _ :: _, _, h => by simp [unB] at h
  | .int .i32 _ :: _, _, h => by simp [unB] at h
  | .int .i64 _ :: _, _, h => by simp [unB] at h
  | .int .u16 _ :: _, _, h => by simp [unB] at h
  | .int .u32 _ :: _, _, h => by simp [unB] at h
  | .int .u64 _ :: _, _, h => by simp [unB] at h
  | .any :: _, _, h => by simp [unB] at h
  | .bool _ :: _, _, h => by simp [unB] at h
  | .str _ :: _, _, h => by simp [unB] at h
  | .agg _ :: _, _, h => by simp [unB] at h
  | .tup _ :: _, _, h => by simp [unB] at h
  | .sl _ _ :: _, _, h => by simp [unB] at h
  | .nilp :: _, _, h => by simp [unB] at h
  | .ip _ _ :: _, _, h => by simp [unB] at h
  | .ptr _ _ _ :: _, _, h => by simp [unB] at h
  | .ms _ _ _ _ :: _, _, h => by simp [unB] at h
  | .map _ :: _, _, h => by simp [unB] at h
  | .nilmap :: _, _, h => by simp [unB] at h
  | .fn _ _ :: _, _, h => by simp [unB] at h
  | .nilfn :: _, _, h => by simp [unB] at h
  | .ifc _ _ :: _, _, h => by simp [unB] at h
  | .nilifc :: _, _, h => by simp [unB] at h
theorem unB_list : ∀ l : List UInt8, unB (l.map fun b => AV.int .u8 b.toNat) = some ⟨l.toArray⟩
  | [] => rfl
  | b :: l => by
    simp only [List.map_cons, unB, unB_list l, Option.map_some]
    congr 1
    simp
theorem unB_bytesA (s : ByteArray) : unB (bytesA s) = some s := by
  have := unB_list s.data.toList
  simpa [bytesA] using this
theorem rowsOk_bytesA (s : ByteArray) : rowsOk 1 (bytesA s) = true := by
  unfold bytesA
  induction s.data.toList with
  | nil => rfl
  | cons b l ih => simp only [List.map_cons, rowsOk, List.all_cons] at ih ⊢; rw [ih]; rfl
def appendS (P : Program) (T U : Ty) (σ : Store) (x : AV) (s : ByteArray) (k : KK) : Prop :=
  T.kind = .slice ∧ U.kind = .str ∧ (tyOf P T.elem).ok = true ∧ zeroFits (tyOf P T.elem) = true ∧ (tyOf P T.elem).size = 1 ∧ (tyOf P T.elem).bytes = 1 ∧ (match x with
    | .ms o sz st n => sz = 1 ∧ st = 0 ∧ n + s.size ≤ 140737488355328 ∧ (match σ o with
      | some (.arr e rows) => e = T.elem ∧ n ≤ rows.length ∧ (if s.size = 0 then k x σ else ∀ o', σ o' = none → k (.ms o' 1 0 (n + s.size)) ((σ.drop o).put o' (.arr T.elem (rows.take n ++ bytesA s))))
      | _ => False)
    | .sl .nil [] => s.size ≤ 140737488355328 ∧ (if s.size = 0 then k x σ else ∀ o', σ o' = none → k (.ms o' 1 0 s.size) (σ.put o' (.arr T.elem (bytesA s))))
    | _ => False)
theorem bytes_R (g : Gh) (s : ByteArray) : (byteCells s).length = (cellsL (bytesA s)).length ∧ ∀ (i : Nat) (c : AV) (u : Value), (cellsL (bytesA s))[i]? = some c → (byteCells s)[i]? = some u → R g c u := by
  have e : cellsL (bytesA s) = bytesA s := by
    unfold bytesA
    induction s.data.toList with
    | nil => rfl
    | cons b l ih => simp only [cellsL, List.map_cons, List.flatMap_cons] at ih ⊢; rw [ih]; rfl
  rw [e]
  refine ⟨by simp [byteCells, bytesA], fun i c u h1 h2 => ?_⟩
  simp only [bytesA, byteCells, List.getElem?_map] at h1 h2
  cases hb : s.data.toList[i]? with
  | none => rw [hb] at h1; cases h1
  | some b =>
    rw [hb] at h1 h2
    simp only [Option.map_some, Option.some.injEq] at h1 h2
    subst h1; subst h2
    exact .int _ _
theorem sound_appendS {P : Program} {g : Gh} {w : World} {σ : Store} (hc : Conc g w σ) {t u ty : TypeId} {x : AV} {s : ByteArray} {v : Value} (hx : R g x v) {k : KK} (hk : appendS P (tyOf P t) (tyOf P u) σ x s k) :
    ∃ r w' g' a σ', (Builtin.append_ #[t, u] ty #[v, .string s]).run P w = .ok r w' ∧ g.Le g' ∧ Conc g' w' σ' ∧ R g' a r ∧ k a σ' := by
  obtain ⟨hkind, hstr, hoe, hz, hsz1, hby1, hk⟩ := hk
  have hu := ty_slice hkind
  obtain ⟨i, d, i1, i2, i3, i4, i5, i6⟩ := zero_inv hoe
  unfold zeroFits at hz
  rw [i3, i4] at hz
  rw [i4] at hsz1
  rw [i5] at hby1
  obtain ⟨z, hz, hzs⟩ : ∃ z, i.zero = some z ∧ z.cells.size = i.size := by
    cases hzz : i.zero with
    | none => simp [hzz] at hz
    | some z =>
      simp only [hzz, Option.map_some, decide_eq_true_eq] at hz
      refine ⟨z, rfl, ?_⟩
      rw [← hz]
      cases z <;> first | rfl | (simp [ofConst, AV.cells, Value.cells]; done) | (simp only [ofConst, leafOf]; split <;> rfl)
  obtain ⟨iu, du, u1, u2, u3⟩ := ty_kind hstr (by simp)
  have hU : P.underlying u = some .string := by
    cases du <;> simp [kindOf] at u3
    exact u2
  have hsrc : Src P i.size u (.string s) (bytesA s).length (byteCells s) w := by
    rw [length_bytesA, hsz1]; exact Src.ofString w hU s
  obtain ⟨b1, b2⟩ := bytes_R g s
  have hys := rowsOk_spec (rowsOk_bytesA s)
  rw [← hsz1] at hys
  have hl := length_bytesA s
  have hnil : ∀ {A B : Prop} {c : Prop} [Decidable c], A = B → True := fun _ => trivial
  split at hk
  · rename_i o sz st n
    obtain ⟨rfl, rfl, hlen, hk⟩ := hk
    obtain ⟨o', ho', hol, hot, hor⟩ := hc.new
    split at hk
    · rename_i e rows hro
      obtain ⟨rfl, hnr, hk⟩ := hk
      rw [← hsz1] at hx hk
      refine append_ms (k := k) hc hu i1 hz hzs (by omega) hx hsrc b1 b2 hys (by rw [hl, hby1]; omega) (by rw [hl]; exact hlen) hro ho' hol hot hor ⟨hnr, ?_⟩
      by_cases h0 : s.size = 0
      · rw [if_pos h0] at hk
        rw [if_pos (List.eq_nil_of_length_eq_zero (hl.trans h0))]
        exact hk
      · rw [if_neg h0] at hk
        rw [if_neg (fun e => h0 (by rw [← hl, e]; rfl)), hl]
        exact hk o' ho'
    · exact hk.elim
  · obtain ⟨hlen, hk⟩ := hk
    cases hx with
    | slnil =>
      by_cases h0 : s.size = 0
      · rw [if_pos h0] at hk
        have hb0 : byteCells s = [] := List.eq_nil_of_length_eq_zero (by rw [byteCells_length]; exact h0)
        have hs0 : Src P i.size u (.string s) 0 [] w := by
          have := hsrc
          rw [hl, h0, hb0] at this
          exact this
        exact ⟨_, w, g, _, σ, run_append_zero3 hu i1 none 0 0 _ hs0 (Nat.le_refl _), .refl g, hc, .slnil, hk⟩
      · rw [if_neg h0] at hk
        obtain ⟨o', ho', hol, hot, hor⟩ := hc.new
        have hr := run_append_grow_src (P := P) w t u ty (tyOf P t).elem i z hu i1 hz none 0 0 [] (run_firstCells_none w.drew i.size 0 0 0) (.string s) s.size (byteCells s) (by have := hsrc; rw [hl] at this; exact this) (by omega) (by omega) (growslice_fits (by omega) (by rw [hby1]; omega))
        have hge := grownCap_ge w (0 + s.size) 0 (tyOf P t).elem
        obtain ⟨gc, hgc⟩ : ∃ gc, gc = grownCap w (0 + s.size) 0 (tyOf P t).elem := ⟨_, rfl⟩
        rw [← hgc] at hr hge
        rw [Nat.zero_add, List.nil_append] at hr
        obtain ⟨h1, h2⟩ := arr_new hc (e := (tyOf P t).elem) (rows := bytesA s) (cs := byteCells s) (gc := gc) (z := z.cells) hzs (fun r hr => (hys r hr).2.1) (by rw [byteCells_length, hl, hsz1]; omega) b2 (by rw [hl]; omega) ho' hol hot hor
        rw [hl] at h1 h2
        rw [hsz1] at h2
        refine ⟨_, _, _, _, _, hr, Gh.Le_addLoc _ hol, h1, ?_, hk o' ho'⟩
        rw [hsz1]
        exact h2
    | sl hk' _ _ _ _ => exact hk'.elim
  · exact hk.elim
theorem cells_replicate {z : Value} {sz : Nat} (h : z.cells.size = sz) (hs : 0 < sz) (n : Nat) : (madeCells z.cells (n * sz)).toList = (List.replicate n z).flatMap fun v => v.cells.toList := by
  apply List.ext_getElem?
  intro i
  rw [Great.flat_get hs _ (fun v hv => by rw [List.eq_of_mem_replicate hv]; exact h)]
  simp only [madeCells]
  by_cases hi : i < n * sz
  · have hq : i / sz < n := Nat.div_lt_of_lt_mul (by rw [Nat.mul_comm]; exact hi)
    have hm : i % sz < z.cells.size := by rw [h]; exact Nat.mod_lt _ hs
    rw [List.getElem?_replicate, if_pos hq]
    simp [hi, h, Nat.mod_lt _ hs]
  · have hq : ¬ i / sz < n := by
      rw [Nat.div_lt_iff_lt_mul hs]; exact hi
    rw [List.getElem?_replicate, if_neg hq]
    simp; omega
def appendZ (P : Program) (T U : Ty) (σ : Store) (x : AV) (kk : IntKind) (m : Int) (k : KK) : Prop :=
  T.kind = .slice ∧ U.kind = .int kk ∧ (tyOf P T.elem).ok = true ∧ zeroFits (tyOf P T.elem) = true ∧ 0 < (tyOf P T.elem).size ∧ 0 < m ∧ m.toNat * (tyOf P T.elem).bytes ≤ 140737488355328 ∧ m ≤ 140737488355328 ∧ (match x, (tyOf P T.elem).zero with
    | .sl .nil [], some z => z.known = true ∧ ∀ o, σ o = none → k (.ms o (tyOf P T.elem).size 0 m.toNat) (σ.put o (.arr T.elem (List.replicate m.toNat z)))
    | _, _ => False)
theorem run_append_nil_make {P : Program} (w : World) (t u ty e : TypeId) (kk : IntKind) (i : TypeInfo) (z : Value) (ht : P.underlying t = some (.slice e)) (hu : P.underlying u = some (.int kk)) (hi : P.info? e = some i) (hz : i.zero = some z)
    (n : Nat) (h0 : 0 < n) (hs : 0 < i.size) (h63 : n ≤ 140737488355328) (h48 : n * i.bytes ≤ 140737488355328) :
    (Builtin.append_ #[t, u] ty #[.slice none 0 0, .int kk n]).run P w =
      .ok (.slice (some ⟨w.heap.size, 0, none⟩) n (grownCap w n 0 e))
        (w.drew.alloc (.cells (Builtin.zeroCells z.cells n ++ Builtin.zeroCells z.cells (grownCap w n 0 e - n)) e)) := by
  have hw : IntKind.i64.wrap (n : Int) = n := IntWalk.i64_in _ ⟨by omega, by omega⟩
  have hn : n ≠ 0 := by omega
  have hns : ¬ (n * i.size = 0) := by rw [Nat.mul_eq_zero]; omega
  have h63' : ¬ (9223372036854775807 < (n : Int)) := by omega
  have h48' : ¬ (281474976710656 < Builtin.nextslicecap n 0 * i.bytes) := by rw [nextslicecap_zero h0]; omega
  have h48'' : ¬ ((281474976710656 : Int) < (n : Int) * (i.bytes : Int)) := by
    rw [← Int.natCast_mul]; omega
  have hneg : ¬ ((n : Int) < 0) := by omega
  have ha : ∀ w : World, (asIntOf (Value.int kk (n : Int))).run P w = .ok (kk, (n : Int)) w := fun _ => rfl
  have hpos : ¬ ((n : Int) ≤ 0) := by omega
  have hmax : max (n : Int) 0 = n := by omega
  simp [Builtin.append_, ha, hpos, hmax, run_underlying ht, run_underlying hu, sizeOf, typeInfo, zeroValue, hi, hz, asInt, hw, hneg, hn, hns, h63', h48', h48'', Question.forced, newRow, grownCap, run_firstCells_none]
theorem sound_appendZ {P : Program} {g : Gh} {w : World} {σ : Store} (hc : Conc g w σ) {t u ty : TypeId} {x : AV} {kk : IntKind} {m : Int} {v : Value} (hx : R g x v) {k : KK} (hk : appendZ P (tyOf P t) (tyOf P u) σ x kk m k) :
    ∃ r w' g' a σ', (Builtin.append_ #[t, u] ty #[v, .int kk m]).run P w = .ok r w' ∧ g.Le g' ∧ Conc g' w' σ' ∧ R g' a r ∧ k a σ' := by
  obtain ⟨hkind, hint, hoe, hzf, hsz, hm0, hby, hmx, hk⟩ := hk
  have hu := ty_slice hkind
  obtain ⟨i, d, i1, i2, i3, i4, i5, i6⟩ := zero_inv hoe
  unfold zeroFits at hzf
  rw [i3, i4] at hzf
  rw [i4] at hsz hk
  rw [i5] at hby
  rw [i3] at hk
  obtain ⟨z, hz, hzs⟩ : ∃ z, i.zero = some z ∧ z.cells.size = i.size := by
    cases hzz : i.zero with
    | none => simp [hzz] at hzf
    | some z =>
      simp only [hzz, Option.map_some, decide_eq_true_eq] at hzf
      refine ⟨z, rfl, ?_⟩
      rw [← hzf]
      cases z <;> first | rfl | (simp [ofConst, AV.cells, Value.cells]; done) | (simp only [ofConst, leafOf]; split <;> rfl)
  have hzl : (ofConst z).cells.length = i.size := by rw [hz] at hzf; simpa using hzf
  obtain ⟨iu, du, u1, u2, u3⟩ := ty_kind hint (by simp)
  have hU : P.underlying u = some (.int kk) := by
    cases du <;> simp [kindOf] at u3
    rw [u3] at u2; exact u2
  rw [hz] at hk
  simp only [Option.map_some] at hk
  obtain ⟨n, rfl⟩ : ∃ n : Nat, m = n := ⟨m.toNat, by omega⟩
  rw [Int.toNat_natCast] at hby hk
  split at hk
  · rename_i q1
    injection q1 with q1
    subst q1
    cases hx with
    | slnil =>
      obtain ⟨o, ho, hol, hot, hor⟩ := hc.new
      have hr := run_append_nil_make (P := P) w t u ty (tyOf P t).elem kk i z hu hU i1 hz n (by omega) hsz (by omega) (by omega)
      have hge := grownCap_ge w n 0 (tyOf P t).elem
      obtain ⟨gc, hgc⟩ : ∃ gc, gc = grownCap w n 0 (tyOf P t).elem := ⟨_, rfl⟩
      rw [← hgc] at hr hge
      obtain ⟨hkn, hk⟩ := hk
      have hrl : RL g (List.replicate n (ofConst z)) (List.replicate n z) := ⟨by simp, fun j a b ha hb => by
        rw [List.getElem?_replicate] at ha hb
        split at ha
        · rename_i q; rw [if_pos q] at hb; injection ha with ha; injection hb with hb; subst ha; subst hb; exact R_const g z
        · cases ha⟩
      have hcells := hrl.cells hsz (fun x hx => by rw [List.eq_of_mem_replicate hx]; exact ⟨hkn, hzl⟩)
      have hmade : (Builtin.zeroCells z.cells n).toList = (List.replicate n z).flatMap fun v => v.cells.toList := by
        rw [← cells_replicate hzs hsz n, ← hzs]; rfl
      obtain ⟨h1, h2⟩ := arr_new hc (e := (tyOf P t).elem) (rows := List.replicate n (ofConst z)) (cs := (Builtin.zeroCells z.cells n).toList) (gc := gc) (z := z.cells) hzs (fun r hr => by rw [List.eq_of_mem_replicate hr]; exact hzl) (by rw [Array.length_toList, size_zeroCells, hzs, List.length_replicate]) (fun q c u hq hu2 => by
        obtain ⟨u', e1, e2⟩ := hcells.2 q c hq
        rw [← hmade] at e1
        rw [hu2] at e1
        injection e1 with e1
        subst e1
        exact e2) (by rw [List.length_replicate]; exact hge) ho hol hot hor
      rw [List.length_replicate] at h1 h2
      rw [Array.toArray_toList] at h1
      exact ⟨_, _, _, _, _, hr, Gh.Le_addLoc _ hol, h1, h2, hk o ho⟩
    | sl hk' _ _ _ _ => exact hk'.elim
  · exact hk.elim
def LiesIn (P : Program) (e u : TypeId) : Bool := rowAt P (fun t => sameLayout P P.depth t u) P.depth e 1 0 1
theorem rowAt_more {P : Program} {fits : TypeId → Bool} {d : Nat} {e : TypeId} (h : rowAt P fits d e 1 0 1 = true) {c : Nat} (hc : 1 ≤ c) : rowAt P fits d e c 0 1 = true := by
  cases d with
  | zero => simp [rowAt] at h
  | succ d =>
    simp only [rowAt] at h ⊢
    split at h
    · cases h
    · rename_i q
      rw [if_neg q]
      simp only [Nat.zero_div, Nat.zero_mod, Nat.zero_add, Bool.or_eq_true, Bool.and_eq_true, decide_eq_true_eq, beq_self_eq_true, Nat.le_refl, true_and, Nat.zero_lt_one] at h ⊢
      rcases h with h | h
      · exact .inl ⟨hc, h⟩
      · refine .inr ⟨hc, ?_⟩
        split at h
        · exact h
        · exact h
        · cases h
theorem LiesIn_at {P : Program} {e u : TypeId} (h : LiesIn P e u = true) {c : Nat} (hc : 1 ≤ c) : liesAt P P.depth e c 0 u 1 = true := by
  have h := rowAt_more h hc
  have hd : P.depth = (2 * (P.types.size + Made.depth) + 1) + 1 := rfl
  rw [hd]
  simp only [liesAt, Bool.or_eq_true]
  left
  exact h
def convX (P : Program) (s d : TypeId) (σ : Store) (x : AV) (k : KK) : Prop :=
  match (tyOf P d).kind, x with
  | .str, .sl _ xs => (tyOf P s).kind = .slice ∧ (tyOf P (tyOf P s).elem).kind = .int .u8 ∧ (match unB xs with
    | some t => k (.str t) σ
    | none => False)
  | .slice, .str t => (tyOf P s).kind = .str ∧ (tyOf P (tyOf P d).elem).kind = .int .u8 ∧ k (.sl .imm (bytesA t)) σ
  | .uptr, .ptr o i off => (tyOf P s).kind = .ptr ∧ (tyOf P (tyOf P s).elem).ok = true ∧ (tyOf P (tyOf P s).elem).size ≠ 0 ∧ (match σ o with
    | some (.arr _ rows) => (match rows[i]? with
      | some y => off < y.cells.length ∧ k (.ptr o i off) σ
      | none => False)
    | _ => False)
  | .ptr, .ptr o i off => (tyOf P s).kind = .uptr ∧ i = 0 ∧ off = 0 ∧ (match σ o with
    | some (.arr e rows) => (e = (tyOf P d).elem ∨ LiesIn P e (tyOf P d).elem = true) ∧ (tyOf P (tyOf P d).elem).ok = true ∧ (tyOf P e).ok = true ∧ (tyOf P e).size ≠ 0 ∧ (match rows[0]? with
      | some y => y.cells.length = (tyOf P e).size ∧ k (.ptr o 0 0) σ
      | none => False)
    | _ => False)
  | _, _ => convA (tyOf P s) (tyOf P d) x fun c => k c σ
theorem liesAt_self {P : Program} {e : TypeId} (hc : P.cellsOf e ≠ 0) (count n : Nat) (hn : n ≤ count) : liesAt P P.depth e count 0 e n = true := by
  have hd : P.depth = (2 * (P.types.size + Made.depth) + 1) + 1 := rfl
  rw [hd]
  simp only [liesAt, Bool.or_eq_true]
  left
  rw [hd]
  simp [rowAt, hc, hn, sameLayout]
theorem cellsOf_ty {P : Program} {t : TypeId} (h : (tyOf P t).ok = true) : P.cellsOf t = (tyOf P t).size ∧ ∃ i, P.info? t = some i ∧ i.size = (tyOf P t).size := by
  obtain ⟨i, d, h1, h2, h3⟩ := ty_ok h
  rw [h3]
  exact ⟨by simp [Program.cellsOf, h1], i, h1, rfl⟩
theorem foldl_push : ∀ (ns : List Int) (r : ByteArray), ns.foldl (fun r n => r.push (UInt8.ofNat n.toNat)) r = ⟨r.data ++ (ns.map fun n => UInt8.ofNat n.toNat).toArray⟩
  | [], r => by simp
  | n :: l, r => by
    simp only [List.foldl_cons, List.map_cons]
    rw [foldl_push l]
    simp [ByteArray.push]
theorem cellsL_u8 : ∀ ns : List Int, cellsL (ns.map (AV.int .u8)) = ns.map (AV.int .u8)
  | [] => rfl
  | n :: l => by
    have ih := cellsL_u8 l
    simp only [cellsL, List.map_cons, List.flatMap_cons] at ih ⊢
    rw [ih]; rfl
theorem arr_at {g : Gh} {w : World} {σ : Store} (hc : Conc g w σ) {o : Nat} {e : TypeId} {rows : List AV} (ho : σ o = some (.arr e rows)) {b sz n : Nat} (hb : g.loc o = some (b, sz, n)) :
    g.w0.heap.size ≤ b ∧ ∃ cells : Array Value, w.heap[b]? = some (.cells cells e (0, 0)) ∧ (∀ r, r ∈ rows → r.cells.length = sz) ∧ rows.length * sz ≤ cells.size ∧
      (∀ (i : Nat) (c : AV) (v : Value), (cellsL rows)[i]? = some c → cells[i]? = some v → R g c v) ∧ (∀ off, g.imm b off = none) := by
  obtain ⟨blk, h1, h2⟩ := hc.obj
  obtain ⟨hB, sz', cells, ⟨n', hl, _⟩, hh, hu, hcs, hrr, him⟩ := h1 o _ ho
  rw [hb] at hl
  injection hl with hl
  injection hl with hl1 hl2
  injection hl2 with hl2 hl3
  subst hl2; subst hl3
  rw [← hl1] at hh him hB
  exact ⟨hB, cells, hh, hu, hcs, hrr, him⟩
theorem sound_convX {P : Program} {g : Gh} {w : World} {σ : Store} (hc : Conc g w σ) {s d : TypeId} {x : AV} {v : Value} (hx : R g x v) {k : KK} (hk : convX P s d σ x k) :
    ∃ r w' g' a σ', (convert s d v).run P w = .ok r w' ∧ g.Le g' ∧ Conc g' w' σ' ∧ R g' a r ∧ k a σ' := by
  have shp : ∀ {b : Nat} {cells : Array Value} {e : TypeId}, w.heap[b]? = some (.cells cells e (0, 0)) → w.shape? b = some (e, cells.size) := fun h => by simp [World.shape?, h]
  unfold convX at hk
  split at hk
  · rename_i kd xs hd
    obtain ⟨hs, he, hk⟩ := hk
    obtain ⟨id_, dd, d1, d2, d3⟩ := ty_kind hd (by simp)
    obtain ⟨ie, de, e1, e2, e3⟩ := ty_kind he (by simp)
    have hsu := ty_slice hs
    have hdu : P.underlying d = some .string := by cases dd <;> simp [kindOf] at d3; exact d2
    have heu : P.underlying (tyOf P s).elem = some (.int .u8) := by cases de <;> simp [kindOf] at e3; subst e3; exact e2
    split at hk
    · rename_i t ht
      obtain ⟨ns, rfl, rfl⟩ := unB_spec ht
      obtain ⟨A, cap, rfl, hcap, hAn, _, _, cs, hcl, hcr, hcc⟩ := sl_cells hc hx
      have hcell := cellsL_u8 ns
      rw [hcell] at hcl hcr
      have hcs : cs = ns.map (Value.int .u8) := by
        apply List.ext_getElem?
        intro i
        rw [List.getElem?_map]
        cases hni : ns[i]? with
        | none =>
          have : ns.length ≤ i := List.getElem?_eq_none_iff.1 hni
          simp only [Option.map_none]
          exact List.getElem?_eq_none (by rw [hcl]; simpa using this)
        | some n =>
          have hlt := (List.getElem?_eq_some_iff.1 hni).1
          have hci : i < cs.length := by rw [hcl]; simpa using hlt
          have := hcr i (.int .u8 n) cs[i] (by rw [List.getElem?_map, hni]; rfl) (List.getElem?_eq_getElem hci)
          rw [List.getElem?_eq_getElem hci]
          generalize cs[i] = u at this
          cases this
          rfl
      subst hcs
      have e0 : (ByteArray.mk (ns.map fun n => UInt8.ofNat n.toNat).toArray) = ns.foldl (fun r n => r.push (UInt8.ofNat n.toNat)) ByteArray.empty := by
        rw [foldl_push]; simp
      cases A with
      | none =>
        obtain ⟨_, hnil, _⟩ := hAn rfl
        have : ns = [] := by simpa using hnil
        subst this
        refine ⟨.string .empty, w, g, _, σ, ?_, .refl g, hc, .str _, hk⟩
        rw [run_convert_bytes_string w s d _ _ _ _ hsu heu hdu]
        rfl
      | some a =>
        refine ⟨.string _, w, g, _, σ, ?_, .refl g, hc, .str _, hk⟩
        rw [run_convert_bytes_string w s d _ _ _ _ hsu heu hdu, e0]
        refine run_bytesToString w a _ cap ns ?_
        have := run_firstCells_some (P := P) w 1 ns.length a ns.length cap (ns.map (Value.int .u8)) (by simp) (hcc a rfl)
        simpa [Builtin.firstCells] using this
    · exact hk.elim
  · rename_i t hd
    obtain ⟨hs, he, hk⟩ := hk
    obtain ⟨is, ds, s1, s2, s3⟩ := ty_kind hs (by simp)
    obtain ⟨ie, de, e1, e2, e3⟩ := ty_kind he (by simp)
    have hdu := ty_slice hd
    have hsu : P.underlying s = some .string := by cases ds <;> simp [kindOf] at s3; exact s2
    have heu : P.underlying (tyOf P d).elem = some (.int .u8) := by cases de <;> simp [kindOf] at e3; subst e3; exact e2
    cases hx
    have hrun := run_bytes_of_string (P := P) w s d _ t hsu hdu heu
    have hge := grownCap_ge w t.size 0 (tyOf P d).elem
    generalize grownCap w t.size 0 (tyOf P d).elem = gc at hrun hge
    have hbel : Below w.heap.size w (w.drew.alloc (.cells (bytesRow t gc) (tyOf P d).elem ((bytesRow t gc).size, (bytesRow t gc).size + 1))) := (Below.refl _ _).drew.alloc (Nat.le_refl _) _
    have hrow : ∀ i u, i < t.size → (byteCells t)[i]? = some u → (bytesRow t gc)[i]? = some u := fun i u hi hu => by
      have h1 : (t.data.map fun b => Value.int .u8 b.toNat).size = t.size := by simp
      unfold bytesRow
      rw [Array.getElem?_append_left (by rw [h1]; exact hi)]
      simpa [byteCells] using hu
    have himm := hc.addImm hbel (byteCells t).toArray t.size (fun o v ho hv => by
      have hh : (w.drew.alloc (.cells (bytesRow t gc) (tyOf P d).elem ((bytesRow t gc).size, (bytesRow t gc).size + 1))).heap[w.heap.size]? = some (.cells (bytesRow t gc) (tyOf P d).elem ((bytesRow t gc).size, (bytesRow t gc).size + 1)) := heap_alloc_new w.drew _
      simp only [World.cell?, hh]
      have := hrow o v ho (by simpa using hv)
      simpa using this)
    refine ⟨_, _, _, _, σ, hrun, Gh.Le_addImm hc _ _, himm, ?_, hk⟩
    obtain ⟨b1, b2⟩ := bytes_R (g.addImm w.heap.size (byteCells t).toArray t.size) t
    have hl := length_bytesA t
    rw [byteCells_length] at b1
    have := R.sl (g := g.addImm w.heap.size (byteCells t).toArray t.size) (k := .imm) (xs := bytesA t) (a := ⟨w.heap.size, 0, none⟩) (cap := gc) (sz := 1) (vs := fun i => (byteCells t).getD i undef) (by show _ ≤ _; rw [hl]; omega)
      (fun _ => rfl) (fun x hx => (rowsOk_spec (rowsOk_bytesA t) x hx).2.1) (fun i hi => ?_) (fun i c hci => ?_)
    · rw [hl] at this; exact this
    · rw [← b1] at hi
      simp only [Gh.addImm, Nat.zero_add]
      rw [if_pos trivial, if_pos hi, List.getElem?_toArray, List.getD_eq_getElem?_getD]
      have : i < (byteCells t).length := by rw [byteCells_length]; exact hi
      simp [this]
    · have hlt := (List.getElem?_eq_some_iff.1 hci).1
      rw [← b1] at hlt
      have hi2 : i < (byteCells t).length := by rw [byteCells_length]; exact hlt
      refine b2 i c _ hci ?_
      simp [List.getD_eq_getElem?_getD, hi2]
  · rename_i o i off hd
    obtain ⟨hs, hok, hsz, hk⟩ := hk
    split at hk
    · rename_i e rows ho
      split at hk
      · rename_i y hy
        obtain ⟨hoff, hk⟩ := hk
        cases hx with
        | ptr hb =>
          rename_i b sz n
          obtain ⟨hB, cells, hh, hu, hcs, _, _⟩ := arr_at hc ho hb
          obtain ⟨is, ds, s1, s2, s3⟩ := ty_kind hs (by simp)
          obtain ⟨id_, dd, d1, d2, d3⟩ := ty_kind hd (by simp)
          obtain ⟨_, ie, e1, e2⟩ := cellsOf_ty hok
          have hsok : (tyOf P s).ok = true := by
            cases h : (tyOf P s).ok with
            | true => rfl
            | false => simp [tyOf, s1, s2] at h
          obtain ⟨is', ds', q1, q2, q3⟩ := ty_ok hsok
          rw [s2] at q2
          injection q2 with q2
          subst q2
          have hsu : P.underlying s = some (.pointer (tyOf P s).elem) := by
            rw [q3]
            cases ds <;> simp [kindOf] at s3
            exact s2
          have hdu : P.underlying d = some .unsafePointer := by cases dd <;> simp [kindOf] at d3; exact d2
          have hyl := hu y (List.mem_of_getElem? hy)
          have hi := (List.getElem?_eq_some_iff.1 hy).1
          have hmul : (i + 1) * sz ≤ rows.length * sz := Nat.mul_le_mul_right _ hi
          rw [Nat.add_mul, Nat.one_mul] at hmul
          exact ⟨_, w, g, _, σ, Lib.run_to_unsafe w ⟨b, i * sz + off, none⟩ hsu hdu e1 (by rw [e2]; exact hsz) (shp hh) (by show i * sz + off < _; omega), .refl g, hc, .ptr hb, hk⟩
      · exact hk.elim
    · exact hk.elim
  · rename_i o i off hd
    obtain ⟨hs, rfl, rfl, hk⟩ := hk
    split at hk
    · rename_i e rows ho
      obtain ⟨hel, hoku, hok, hsz, hk⟩ := hk
      split at hk
      · rename_i y hy
        obtain ⟨hyl, hk⟩ := hk
        cases hx with
        | ptr hb =>
          rename_i b sz n
          obtain ⟨hB, cells, hh, hu, hcs, _, _⟩ := arr_at hc ho hb
          obtain ⟨is, ds, s1, s2, s3⟩ := ty_kind hs (by simp)
          obtain ⟨id_, dd, d1, d2, d3⟩ := ty_kind hd (by simp)
          obtain ⟨c1, _⟩ := cellsOf_ty hok
          obtain ⟨_, ie, e1, e2⟩ := cellsOf_ty hoku
          have hsu : P.underlying s = some .unsafePointer := by cases ds <;> simp [kindOf] at s3; exact s2
          have hdok : (tyOf P d).ok = true := by
            cases h : (tyOf P d).ok with
            | true => rfl
            | false => simp [tyOf, d1, d2] at h
          obtain ⟨id', dd', q1, q2, q3⟩ := ty_ok hdok
          rw [d2] at q2
          injection q2 with q2
          subst q2
          have hdu : P.underlying d = some (.pointer (tyOf P d).elem) := by
            rw [q3]
            cases dd <;> simp [kindOf] at d3
            exact d2
          have hyz := hu y (List.mem_of_getElem? hy)
          have hlen := (List.getElem?_eq_some_iff.1 hy).1
          have hmul : 1 * sz ≤ rows.length * sz := Nat.mul_le_mul_right _ hlen
          have hone : 1 ≤ cells.size / P.cellsOf e := by
            rw [c1, ← hyl, hyz]
            have hszp : 0 < sz := by omega
            exact (Nat.le_div_iff_mul_le hszp).2 (by omega)
          refine ⟨_, w, g, _, σ, Lib.run_from_unsafe w ⟨b, 0 * sz + 0, none⟩ hsu hdu e1 (shp hh) ?_, .refl g, hc, ?_, hk⟩
          · simp only [Nat.zero_mul, Nat.add_zero]
            rcases hel with hel | hel
            · rw [← hel]; exact liesAt_self (by rw [c1]; exact hsz) _ _ hone
            · exact LiesIn_at hel hone
          · exact .ptr hb
      · exact hk.elim
    · exact hk.elim
  · obtain ⟨u, r, h1, h2, h3⟩ := sound_conv (P := P) (w := w) hx hk
    exact ⟨u, w, g, r, σ, h1, .refl g, hc, h2, h3⟩
def builtinX (P : Program) (b : Builtin) (ts : List TypeId) (xs : List AV) (σ : Store) (k : KK) : Prop :=
  match b, ts, xs with
  | .cap, [t], [.sl .nil []] => (tyOf P t).kind = .slice ∧ k (.int .i64 0) σ
  | .min, _, [.int i a, .int _ b] => k (.int i (if b < a then b else a)) σ
  | .max, _, [.int i a, .int _ b] => k (.int i (if a < b then b else a)) σ
  | .min, _, [.int i a, .int _ b, .int _ c] => k (.int i (if c < (if b < a then b else a) then c else (if b < a then b else a))) σ
  | .unsafeSliceData, _, [.sl .nil []] => k .nilp σ
  | .unsafeSliceData, _, [.ms o sz st n] => 0 < n ∧ k (.ptr o st 0) σ
  | .unsafeString, [_, _], [.nilp, .int .i64 n] => n = 0 ∧ k (.str .empty) σ
  | .unsafeString, [p, _], [.ptr o i off, .int .i64 n] => i = 0 ∧ off = 0 ∧ 0 < n ∧ n ≤ 140737488355328 ∧ (tyOf P p).kind = .ptr ∧ (tyOf P p).ok = true ∧ (match σ o with
    | some (.arr e rows) => e = (tyOf P p).elem ∧ (tyOf P e).ok = true ∧ (tyOf P e).size = 1 ∧ n ≤ rows.length ∧ (match unB (rows.take n.toNat) with
      | some s => rows.take n.toNat = bytesA s ∧ k (.str s) (σ.drop o)
      | none => False)
    | _ => False)
  | _, _, _ => False
theorem run_unsafeString_nil {P : Program} {w : World} (pt it ty : TypeId) : (Builtin.unsafeString_ #[pt, it] ty #[.pointer none, .int .i64 0]).run P w = .ok (.string .empty) w := by
  have hmax : IntKind.i64.max = 9223372036854775807 := rfl
  have hdef : Builtin.unsafeString_ #[pt, it] ty #[.pointer none, .int .i64 0] =
      (do
        let n ← asInt (.int .i64 0)
        if n < 0 then runtimePanic (.error "unsafe.String: len out of range")
        if n > IntKind.i64.max then unsupported (.unsafePointer "String: a length above the largest int")
        if n = 0 then pure (.string .empty)
        else runtimePanic (.error "unsafe.String: ptr is nil and len is not zero")) := rfl
  rw [hdef]
  simp [asInt, asIntOf, hmax]
theorem Conc.frozen {g : Gh} {w : World} {σ : Store} (hc : Conc g w σ) {o : Nat} {e : TypeId} {rows : List AV} (ho : σ o = some (.arr e rows)) {b sz n : Nat} (hb : g.loc o = some (b, sz, n)) (m : Nat) :
    Conc g (w.freeze ⟨b, 0, none⟩ m) (σ.drop o) := by
  obtain ⟨hB, cells, hh, hu, hcs, hrr, him⟩ := arr_at hc ho hb
  have hother : ∀ q, q ≠ b → (w.freeze ⟨b, 0, none⟩ m).heap[q]? = w.heap[q]? := fun q hq => by
    unfold World.freeze
    split
    · rfl
    · simp only [Array.getElem?_modify]
      rw [if_neg (fun e => hq e.symm)]
  have hsize : (w.freeze ⟨b, 0, none⟩ m).heap.size = w.heap.size := by
    unfold World.freeze
    split <;> simp
  obtain ⟨blk, h1, h2⟩ := hc.obj
  have hbo : blk o = b := by
    obtain ⟨_, sz', cells, ⟨n', hl, _⟩, _⟩ := h1 o _ ho
    rw [hb] at hl
    injection hl with hl
    injection hl with hl1 _
    exact hl1.symm
  refine ⟨Lib.below_freeze hc.below hB m, fun q off v hi => ?_, fun p b' sz' n' hl => ⟨(hc.loc p b' sz' n' hl).1, by rw [hsize]; exact (hc.loc p b' sz' n' hl).2⟩, ?_, ?_, blk, fun p x hx => ?_, fun p q x y hx hy => ?_⟩
  · have hq : q ≠ b := fun e => by rw [e, him] at hi; cases hi
    exact (World.cell?_of_block (hother q hq)).trans (hc.imm q off v hi)
  · obtain ⟨N, hN⟩ := hc.fresh
    exact ⟨N, fun p hp => ⟨(hN p hp).1, (hN p hp).2.1, by simp only [Store.drop]; split; · rfl
                                                          · exact (hN p hp).2.2.1, (hN p hp).2.2.2⟩⟩
  · exact fun p hp => ⟨(hc.res p hp).1, (hc.res p hp).2.1, by simp only [Store.drop]; split; · rfl
                                                              · exact (hc.res p hp).2.2⟩
  · simp only [Store.drop] at hx
    split at hx
    · cases hx
    · rename_i hne
      refine ⟨(h1 p x hx).1, (h1 p x hx).2.keep (.refl g) (hother _ (fun e => hne (h2 p o x _ hx ho (e.trans hbo.symm)))) (fun _ => rfl) (fun _ => rfl)⟩
  · simp only [Store.drop] at hx hy
    split at hx
    · cases hx
    · split at hy
      · cases hy
      · exact h2 p q x y hx hy
theorem run_bu {P : Program} {w w' : World} {s : Sem Value} {r : Value} (h : s.run P w = .ok r w') : (do let x ← s; pure (Next.value x) : Sem Next).run P w = .ok (.value r) w' := by
  rw [Sem.run_bind, h]; rfl
theorem sound_builtinX {P : Program} {g : Gh} {w : World} {σ : Store} (hc : Conc g w σ) {b : Builtin} {ts : List TypeId} {xs : List AV} {vs : List Value} {ty : TypeId} {cs : Array Bool} (hl : xs.length = vs.length) (hr : ∀ (i : Nat) (c : AV) (v : Value), xs[i]? = some c → vs[i]? = some v → R g c v) {k : KK} (hk : builtinX P b ts xs σ k) :
    ∃ r w' g' a σ', (builtin b ts.toArray ty cs vs.toArray).run P w = .ok (.value r) w' ∧ g.Le g' ∧ Conc g' w' σ' ∧ R g' a r ∧ k a σ' := by
  have two : ∀ {x y : AV}, xs = [x, y] → ∃ u v, vs = [u, v] ∧ R g x u ∧ R g y v := by
    rintro x y rfl
    match vs, hl with
    | [u, v], _ => exact ⟨u, v, rfl, hr 0 x u rfl rfl, hr 1 y v rfl rfl⟩
  have one : ∀ {x : AV}, xs = [x] → ∃ u, vs = [u] ∧ R g x u := by
    rintro x rfl
    match vs, hl with
    | [u], _ => exact ⟨u, rfl, hr 0 x u rfl rfl⟩
  unfold builtinX at hk
  split at hk
  · obtain ⟨hkind, hk⟩ := hk
    obtain ⟨u, rfl, h1⟩ := one rfl
    have hu := ty_slice hkind
    cases h1 with
    | slnil => exact ⟨_, w, g, _, σ, by simp [builtin, Builtin.cap_, run_underlying hu, goInt], .refl g, hc, .int _ _, hk⟩
    | sl hk' _ _ _ _ => exact hk'.elim
  · obtain ⟨u, v, rfl, h1, h2⟩ := two rfl
    cases h1; cases h2
    exact ⟨_, w, g, _, σ, by simp [builtin, Builtin.min_, Builtin.min2], .refl g, hc, .int _ _, hk⟩
  · obtain ⟨u, v, rfl, h1, h2⟩ := two rfl
    cases h1; cases h2
    exact ⟨_, w, g, _, σ, by simp [builtin, Builtin.max_, Builtin.max2], .refl g, hc, .int _ _, hk⟩
  · rename_i i a j b' l c
    match vs, hl with
    | [u, v, z], _ =>
      have h1 := hr 0 _ u rfl rfl
      have h2 := hr 1 _ v rfl rfl
      have h3 := hr 2 _ z rfl rfl
      cases h1; cases h2; cases h3
      exact ⟨_, w, g, _, σ, by simp [builtin, Builtin.min_, Builtin.min2], .refl g, hc, .int _ _, hk⟩
  · obtain ⟨u, rfl, h1⟩ := one rfl
    cases h1 with
    | slnil => exact ⟨.pointer none, w, g, _, σ, run_bu (Lib.run_unsafeSliceData_nil w _ ty 0 0), .refl g, hc, .nilp, hk⟩
    | sl hk' _ _ _ _ => exact hk'.elim
  · obtain ⟨hn, hk⟩ := hk
    obtain ⟨u, rfl, h1⟩ := one rfl
    cases h1 with
    | ms hb hcc hln ha =>
      rename_i b n cap a
      have hcap : cap ≠ 0 := by omega
      have := ha (by omega)
      subst this
      exact ⟨_, w, g, _, σ, run_bu (Lib.run_unsafeSliceData_row w _ ty _ _ _ hcap), .refl g, hc, .ptr (i := _) (off := 0) hb, hk⟩
  · obtain ⟨rfl, hk⟩ := hk
    obtain ⟨u, v, rfl, h1, h2⟩ := two rfl
    cases h1; cases h2
    refine ⟨_, w, g, _, σ, ?_, .refl g, hc, .str _, hk⟩
    simp [builtin, run_unsafeString_nil]
  · rename_i p t o i off n
    obtain ⟨rfl, rfl, hn, hmax, hkind, hpok, hk⟩ := hk
    split at hk
    · rename_i e rows ho
      obtain ⟨rfl, hok, hsz, hnr, hk⟩ := hk
      split at hk
      · rename_i s hs
        obtain ⟨hrow, hk⟩ := hk
        obtain ⟨u, v, rfl, h1, h2⟩ := two rfl
        cases h2
        cases h1 with
        | ptr hb =>
          rename_i b sz m
          obtain ⟨hB, cells, hh, hu, hcs, hrr, him⟩ := arr_at hc ho hb
          obtain ⟨c1, ie, e1, e2⟩ := cellsOf_ty hok
          obtain ⟨ip, dp, p1, p2, p3⟩ := ty_kind hkind (by simp)
          obtain ⟨ip', dp', q1, q2, q3⟩ := ty_ok hpok
          rw [p2] at q2
          injection q2 with q2
          subst q2
          have hpu : P.underlying p = some (.pointer (tyOf P p).elem) := by
            rw [q3]
            cases dp <;> simp [kindOf] at p3
            exact p2
          obtain ⟨m', rfl⟩ : ∃ m' : Nat, n = m' := ⟨n.toNat, by omega⟩
          simp only [Int.toNat_natCast] at hrow hs
          have hm' : m' ≤ rows.length := by omega
          have hlen : s.size = m' := by
            have := congrArg List.length hrow
            rw [length_bytesA, List.length_take] at this
            omega
          have hll : s.data.toList.length = m' := by rw [← hlen]; simp
          have hrow1 : ∀ (j : Nat) (b : UInt8), s.data.toList[j]? = some b → rows[j]? = some (AV.int .u8 b.toNat) := fun j b hj => by
            have h1 : (bytesA s)[j]? = some (AV.int .u8 b.toNat) := by simp only [bytesA, List.getElem?_map, hj, Option.map_some]
            rw [← hrow, List.getElem?_take] at h1
            split at h1
            · exact h1
            · cases h1
          have hsz1 : sz = 1 := by
            have h0 : 0 < s.data.toList.length := by omega
            have := hrow1 0 _ (List.getElem?_eq_getElem h0)
            have := hu _ (List.mem_of_getElem? this)
            exact this.symm
          subst hsz1
          have hcell : ∀ (j : Nat) (x : UInt8), s.data.toList[j]? = some x → w.cell? ((⟨b, 0, none⟩ : Addr).add j) = some (Value.int .u8 x.toNat) := fun j x hj => by
            have hj1 := hrow1 j x hj
            have hc1 : (cellsL rows)[j]? = some (AV.int .u8 x.toNat) := by
              rw [cellsL_get (by omega) rows hu, Nat.div_one, hj1, Nat.mod_one]; rfl
            have hlt : j < cells.size := by
              have := (List.getElem?_eq_some_iff.1 hj1).1
              omega
            have hcj := hrr j _ _ hc1 (Array.getElem?_eq_getElem hlt)
            rw [add_spot rfl]
            simp only [World.cell?, hh, Nat.zero_add]
            rw [show cells[j]? = some cells[j] from Array.getElem?_eq_getElem hlt]
            generalize cells[j] = q at hcj
            cases hcj
            rfl
          have hrun := Lib.run_unsafeString_row (P := P) w p t ty (tyOf P p).elem hpu (by rw [c1]; exact hsz) b cells.size (by simp [World.shape?, hh]) s.data.toList (by intro e0; rw [e0] at hll; simp at hll; omega) (by omega) (by omega) hcell
          rw [hll] at hrun
          have hz0 : (⟨b, 0 * 1 + 0, none⟩ : Addr) = ⟨b, 0, none⟩ := by simp
          rw [hz0]
          exact ⟨_, _, g, _, _, run_bu hrun, .refl g, hc.frozen ho hb m', .str _, hk⟩
      · exact hk.elim
    · exact hk.elim
  · exact hk.elim
def XId (P : Program) (f : FuncId) : Prop := ∀ v w, (callFunc f #[v]).run P w = .ok (.value v) w
def externA (P : Program) (c : Call) (ρ : Env) (σ : Store) (k : KK) : Prop :=
  match c.callee, c.args.toList with
  | .value f, [x] => (match ev ρ f with
    | .fn f [] => XId P f ∧ k (ev ρ x) σ
    | _ => False)
  | _, _ => False
theorem sound_ptrEq {P : Program} {w : World} {op : BinOp} {t : TypeId} (hkind : (tyOf P t).kind = .ptr) (hok : (tyOf P t).ok = true) (hek : (tyOf P (tyOf P t).elem).ok = true) (a : Addr) {g : Gh} {k : AV → Prop} (hk : match op with
    | .eql => k (.bool true)
    | .neq => k (.bool false)
    | _ => False) :
    ∃ u r, (binOp op t (.pointer (some a)) (.pointer (some a))).run P w = .ok u w ∧ R g r u ∧ k r := by
  obtain ⟨ip, dp, p1, p2, p3⟩ := ty_kind hkind (by simp)
  obtain ⟨ip', dp', q1, q2, q3⟩ := ty_ok hok
  rw [p2] at q2
  injection q2 with q2
  subst q2
  have hpu : P.underlying t = some (.pointer (tyOf P t).elem) := by
    rw [q3]
    cases dp <;> simp [kindOf] at p3
    exact p2
  obtain ⟨_, ie, e1, e2⟩ := cellsOf_ty hek
  have hne := Lib.run_neq_ptr_same (P := P) w (tp := t) a hpu e1
  cases op <;> simp only at hk <;> first | exact hk.elim | skip
  · refine ⟨_, _, ?_, .bool true, hk⟩
    have h : ∀ d : Nat, (Op.equalIn (d + 1) t (.pointer (some a)) (.pointer (some a))).run P w = .ok true w := fun d => by
      simp [Op.equalIn, run_underlying hpu, sizeOf, typeInfo, e1, run_sameAddr_same]
    simp only [binOp]
    simp [Op.equal, Op.maxDepth, h 9999]
  · exact ⟨_, _, hne, .bool false, hk⟩
end Go.Kern

namespace Go.Kern
open Go.RowKit Go.MapKept Go.ChangeMaps
def rangeA (T : Ty) (σ : Store) (m : AV) (k : KK) : Prop :=
  T.kind = .map ∧ (match m with
    | .nilmap => ∀ r, σ r = none → k (.ptr r 0 0) (σ.put r .iterN)
    | .map o => (match σ o with
      | some (.map es) => ∀ en ck r, es.length = en.size → Stamped en ck → σ r = none → k (.ptr r 0 0) ((σ.put o (.mapR es en ck)).put r (.iter o en ck #[]))
      | some (.mapR es en ck) => ∀ r, σ r = none → k (.ptr r 0 0) (σ.put r (.iter o en ck #[]))
      | _ => False)
    | _ => False)
def nextA (σ : Store) (x : AV) (k : KK) : Prop :=
  match x with
  | .ptr r 0 0 => (match σ r with
    | some .iterN => k (.tup [.bool false]) σ
    | some (.iter o en ck sn) => (match σ o with
      | some (.mapR es en' ck') => en' = en ∧ ck' = ck ∧ ((∀ (i : Nat) (e : MapEntry), en[i]? = some e → sn.contains e.born = true) → k (.tup [.bool false]) σ) ∧
          (∀ (i : Nat) (kv : AV × AV) (e : MapEntry), es[i]? = some kv → en[i]? = some e → sn.contains e.born = false → k (.tup [.bool true, kv.1, kv.2]) (σ.put r (.iter o en ck (sn.push e.born))))
      | _ => False)
    | _ => False)
  | _ => False
def entryA (σ : Store) (x : AV) (k : KK) : Prop :=
  match x with
  | .ptr r 0 0 => (match σ r with
    | some (.iter o en ck sn) => (match σ o with
      | some (.mapR es en' ck') => en' = en ∧ ck' = ck ∧ ∃ (i : Nat) (kv : AV × AV) (e : MapEntry) (sn' : Array Nat), es[i]? = some kv ∧ en[i]? = some e ∧ sn = sn'.push e.born ∧ k (.tup [kv.1, kv.2]) σ
      | _ => False)
    | _ => False)
  | _ => False
theorem Conc.at {g : Gh} {w : World} {σ : Store} (hc : Conc g w σ) {o b sz n : Nat} {x : Ob} (ho : σ o = some x) (hb : g.loc o = some (b, sz, n)) (hx : ∀ b', ObAt g w o b' x → ∃ sz n, g.loc o = some (b', sz, n)) : ObAt g w o b x := by
  obtain ⟨blk, h1, _⟩ := hc.obj
  have h := (h1 o x ho).2
  obtain ⟨sz', n', h2⟩ := hx _ h
  rw [hb] at h2
  injection h2 with h2
  injection h2 with h2 _
  rw [h2]; exact h
theorem iter_loc {g : Gh} {w : World} {o b : Nat} {x : Ob} (hx : match x with | .mapR .. => True | .iter .. => True | .iterN => True | .map _ => True | _ => False) (h : ObAt g w o b x) : ∃ sz n, g.loc o = some (b, sz, n) := by
  cases x with
  | arr e rows => exact hx.elim
  | tip n e sz => exact hx.elim
  | map es => obtain ⟨en, ck, hl, _⟩ := h; exact ⟨_, _, hl⟩
  | mapR es en ck => exact ⟨_, _, h.1⟩
  | iter m en ck sn => exact ⟨_, _, h.1⟩
  | iterN => exact ⟨_, _, h.1⟩
theorem no_imm {g : Gh} {w : World} {σ : Store} (hc : Conc g w σ) {b : Nat} (h : ∀ off, w.cell? ⟨b, off, none⟩ = none) (off : Nat) : g.imm b off = none := by
  cases hi : g.imm b off with
  | none => rfl
  | some v => have := hc.imm _ _ _ hi; rw [h] at this; cases this
theorem sound_range {P : Program} {g : Gh} {w : World} {σ : Store} (hc : Conc g w σ) {t : TypeId} {m : AV} {mv : Value} (hm : R g m mv) {k : KK} (hk : rangeA (tyOf P t) σ m k) :
    ∃ u w' g' r σ', (Instr.range t mv).run P w = .ok u w' ∧ g.Le g' ∧ Conc g' w' σ' ∧ R g' r u ∧ k r σ' := by
  obtain ⟨hkind, hk⟩ := hk
  have hu := map_ty hkind
  split at hk
  · cases hm
    obtain ⟨o, ho, hol, hot, hor⟩ := hc.new
    have hcc := hc.addObj (w' := w.alloc (.mapIter none 0 #[] 0)) (Below.alloc (Below.refl _ _) (Nat.le_refl _) _) (by simp) o hol ho hot hor .iterN 0 0 (fun g' hle hl him => ⟨hl, 0, #[], 0, heap_alloc_new w _⟩)
    refine ⟨_, _, _, _, _, run_range_nilMap w t _ _ hu, Gh.Le_addLoc _ hol, hcc, ?_, hk o ho⟩
    have := R.ptr (g := g.addLoc o (w.heap.size, 0, 0)) (o := o) (i := 0) (off := 0) (b := w.heap.size) (sz := 0) (n := 0) (by simp [Gh.addLoc])
    simpa using this
  · rename_i om
    cases hm with
    | map hb =>
      rename_i b
      split at hk
      · rename_i es hes
        have hob := hc.at hes hb (fun b' h => iter_loc trivial h)
        obtain ⟨en, ck, hl, hh, hlen, hr, hst⟩ := hob
        have himm := no_imm hc (b := b) (fun off => by simp [World.cell?, hh])
        have hc1 : Conc g w (σ.put om (.mapR es en ck)) := hc.write (b := b) hes (fun blk hbl => by
          obtain ⟨en2, ck2, hl2, _⟩ := hbl
          rw [hb] at hl2; injection hl2 with hl2; injection hl2 with hl2 _; exact hl2.symm) (fun _ _ => rfl) rfl rfl rfl rfl himm ⟨hl, hh, hlen, hr, hst⟩
        obtain ⟨o, ho, hol, hot, hor⟩ := hc1.new
        have hcc := hc1.addObj (w' := w.alloc (.mapIter (some b) ck #[] ck)) (Below.alloc (Below.refl _ _) (Nat.le_refl _) _) (by simp) o hol ho hot hor (.iter om en ck #[]) 0 0 (fun g' hle hl' him => ⟨hl', b, hle.loc _ _ hb, heap_alloc_new w _⟩)
        have hne : o ≠ om := fun e => by rw [e] at ho; simp [Store.put] at ho
        have ho' : σ o = none := by simpa [Store.put, hne] using ho
        refine ⟨_, _, _, _, _, run_range_map w t _ _ b en ck hu hh, Gh.Le_addLoc _ hol, hcc, ?_, hk en ck o hlen hst ho'⟩
        have := R.ptr (g := g.addLoc o (w.heap.size, 0, 0)) (o := o) (i := 0) (off := 0) (b := w.heap.size) (sz := 0) (n := 0) (by simp [Gh.addLoc])
        simpa using this
      · rename_i es en ck hes
        have hob := hc.at hes hb (fun b' h => iter_loc trivial h)
        obtain ⟨hl, hh, hlen, hr, hst⟩ := hob
        obtain ⟨o, ho, hol, hot, hor⟩ := hc.new
        have hcc := hc.addObj (w' := w.alloc (.mapIter (some b) ck #[] ck)) (Below.alloc (Below.refl _ _) (Nat.le_refl _) _) (by simp) o hol ho hot hor (.iter om en ck #[]) 0 0 (fun g' hle hl' him => ⟨hl', b, hle.loc _ _ hb, heap_alloc_new w _⟩)
        refine ⟨_, _, _, _, _, run_range_map w t _ _ b en ck hu hh, Gh.Le_addLoc _ hol, hcc, ?_, hk o ho⟩
        have := R.ptr (g := g.addLoc o (w.heap.size, 0, 0)) (o := o) (i := 0) (off := 0) (b := w.heap.size) (sz := 0) (n := 0) (by simp [Gh.addLoc])
        simpa using this
      · exact hk.elim
  · exact hk.elim
theorem R_tupB {g : Gh} {l : List AV} {m : List Value} (b : Bool) (h : RL g l m) : R g (.tup (.bool b :: l)) (.tuple ((.bool b :: m).toArray)) := by
  refine .tup (by simp [h.1]) fun i c v hc hv => ?_
  cases i with
  | zero => simp at hc hv; subst hc; subst hv; exact .bool b
  | succ i => exact h.2 i c v (by simpa using hc) (by simpa using hv)
theorem sound_next {P : Program} {g : Gh} {w : World} {σ : Store} (hc : Conc g w σ) {x : AV} {v : Value} (hx : R g x v) (ty : TypeId) {k : KK} (hk : nextA σ x k) :
    ∃ u w' r σ', (Instr.next v false ty).run P w = .ok u w' ∧ Conc g w' σ' ∧ R g r u ∧ k r σ' := by
  unfold nextA at hk
  split at hk
  · rename_i r
    cases hx with
    | ptr hb =>
      rename_i br sz n
      split at hk
      · rename_i hr
        obtain ⟨hl, a, s, c, hh⟩ := hc.at hr hb (fun b' h => iter_loc trivial h)
        refine ⟨.tuple #[.bool false], w, _, σ, ?_, hc, ?_, hk⟩
        · simp [Instr.next, getObj, Sem.run, hh]
        · exact R_tupB false ⟨rfl, fun i c v h => by simp at h⟩
      · rename_i o en ck sn hr
        obtain ⟨hl, bm, hlm, hh⟩ := hc.at hr hb (fun b' h => iter_loc trivial h)
        split at hk
        · rename_i es en' ck' ho
          obtain ⟨rfl, rfl, hk1, hk2⟩ := hk
          obtain ⟨hl2, hh2, hlen, hrel, hst⟩ := hc.at ho hlm (fun b' h => iter_loc trivial h)
          have hz : 0 * sz + 0 = 0 := by omega
          rw [hz]
          rcases run_next_at (P := P) w ty br bm ck' ck' sn en' ck' hh hh2 hst.1 (Nat.le_refl _) with ⟨h0, hrun⟩ | ⟨e, he, w1, hal, hrun⟩
          · refine ⟨_, _, _, σ, hrun, hc, R_tupB false ⟨rfl, fun i c v h => by simp at h⟩, hk1 fun i e hi => ?_⟩
            exact all_seen en' sn h0 e (by rw [Array.mem_toList_iff]; exact Array.mem_of_getElem? hi)
          · obtain ⟨hem, hns⟩ := mem_left he
            obtain ⟨i, hi, hie⟩ := List.getElem_of_mem hem
            have hie2 : en'[i]? = some e := by
              rw [← Array.getElem?_toList, List.getElem?_eq_getElem hi, hie]
            have hil : i < es.length := by rw [hlen]; simpa using hi
            have hes : es[i]? = some es[i] := List.getElem?_eq_getElem hil
            obtain ⟨r1, r2⟩ := hrel i es[i] e hes hie2
            have hc1 : Conc g w1 σ := by rcases hal with rfl | rfl <;> first | exact hc | exact hc.drew
            have hh1 : w1.heap[br]? = some (.mapIter (some bm) ck' sn ck') := by rcases hal with rfl | rfl <;> exact hh
            have hlt : br < w1.heap.size := (Array.getElem?_eq_some_iff.1 hh1).1
            have himm := no_imm hc1 (b := br) (fun off => by simp [World.cell?, hh1])
            refine ⟨_, _, _, _, hrun, hc1.write (b := br) (y := .iter o en' ck' (sn.push e.born)) hr (fun blk hbl => ?_) (fun k hk => by simp [setBlock, Array.getElem?_setIfInBounds, Ne.symm hk]) rfl rfl rfl (by simp [setBlock]) himm ⟨hl, bm, hlm, by simp [setBlock, Array.getElem?_setIfInBounds, hlt]⟩, R_tupB true ⟨by simp, fun i c v h1 h2 => ?_⟩, hk2 i es[i] e hes hie2 hns⟩
            · have := hbl.1
              rw [hl] at this; injection this with this; injection this with this _; exact this.symm
            · match i with
              | 0 => simp at h1 h2; subst h1; subst h2; exact r1
              | 1 => simp at h1 h2; subst h1; subst h2; exact r2
              | i + 2 => simp at h1
        · exact hk.elim
      · exact hk.elim
  · exact hk.elim
theorem sound_entry {P : Program} {g : Gh} {w : World} {σ : Store} (hc : Conc g w σ) {x : AV} {v : Value} (hx : R g x v) {k : KK} (hk : entryA σ x k) :
    ∃ u r, (Instr.entry v).run P w = .ok u w ∧ R g r u ∧ k r σ := by
  unfold entryA at hk
  split at hk
  · rename_i r
    cases hx with
    | ptr hb =>
      rename_i br sz n
      split at hk
      · rename_i o en ck sn hr
        obtain ⟨hl, bm, hlm, hh⟩ := hc.at hr hb (fun b' h => iter_loc trivial h)
        split at hk
        · rename_i es en' ck' ho
          obtain ⟨rfl, rfl, i, kv, e, sn', h1, h2, rfl, hk⟩ := hk
          obtain ⟨hl2, hh2, hlen, hrel, hst⟩ := hc.at ho hlm (fun b' h => iter_loc trivial h)
          obtain ⟨r1, r2⟩ := hrel i kv e h1 h2
          have hz : 0 * sz + 0 = 0 := by omega
          rw [hz]
          have hem : e ∈ en'.toList := by rw [Array.mem_toList_iff]; exact Array.mem_of_getElem? h2
          refine ⟨_, _, ?_, R_tup2 r1 r2, hk⟩
          have hf : en'.find? (·.born == e.born) = some e := by rw [← Array.find?_toList]; exact find_born e en'.toList hst.2.1 hem
          simp only [Instr.entry, getObj, Sem.run_bind, Sem.run, hh, hh2, Result.andThen, Array.back?_push, bne_self_eq_false, Bool.false_eq_true, if_false, hf]
          rfl
        · exact hk.elim
      · exact hk.elim
  · exact hk.elim
theorem Conc.unrange {g : Gh} {w : World} {σ : Store} (hc : Conc g w σ) {o : Nat} {es : List (AV × AV)} {en : Array MapEntry} {ck : Nat} (ho : σ o = some (.mapR es en ck)) : Conc g w (σ.put o (.map es)) := by
  obtain ⟨blk, h1, h2⟩ := hc.obj
  obtain ⟨hl, hh, hlen, hr, hst⟩ := (h1 o _ ho).2
  exact hc.write (b := blk o) ho (fun blk' hbl => by
    have := hbl.1
    rw [hl] at this; injection this with this; injection this with this _; exact this.symm) (fun _ _ => rfl) rfl rfl rfl rfl (no_imm hc (b := blk o) (fun off => by simp [World.cell?, hh])) ⟨en, ck, hl, hh, hlen, hr, hst⟩
theorem W_unrange {P : Program} {n : Nat} {c : Code} {Q : Post} {ρ : Env} {σ : Store} {o : Nat} {es : List (AV × AV)} {en : Array MapEntry} {ck : Nat} (ho : σ o = some (.mapR es en ck)) (h : W P n c Q ρ (σ.put o (.map es))) : W P n c Q ρ σ :=
  fun g a w hd he hc => h g a w hd he (hc.unrange ho)
end Go.Kern

