/- The abstract layer, first part: abstract values, the ghost state, what a value and a store stand for. Conditions: none. -/
import Derived.WalkKit
import Derived.Below
import Derived.Orders
import Derived.Deep.LoopGhost
import Derived.Maps.AppendAt
import Derived.Deep.AppendSrc
import Derived.KernelRfl
set_option linter.unusedVariables false
set_option linter.unusedSimpArgs false
namespace Go.Kern
open Go.RowKit
universe u

/-- A mark: what bears it isn't looked into by simp. -/
inductive Tag {α : Sort u} (a : α) : Type where
  | mk
def Hold {α : Sort u} (a : α) (_ : Tag a) : α := a

/-- What is known of a slice beside its elements: nil; any; its capacity is its length; it is the tip of a growing one. -/
inductive SK where
  | nil | imm | full
  | tip (o : Nat)

/-- Abstract values: structs are flat, as the model has them. -/
inductive AV where
  | any
  | int (k : IntKind) (n : Int)
  | bool (b : Bool)
  | str (s : ByteArray)
  | agg (cs : List AV)
  | tup (vs : List AV)
  | sl (k : SK) (xs : List AV)
  | nilp
  | ip (x : AV) (off : Nat)
  | ptr (o i off : Nat)
  | ms (o sz st len : Nat)
  | map (o : Nat)
  | nilmap
  | fn (f : FuncId) (caps : List AV)
  | nilfn
  | ifc (t : TypeId) (x : AV)
  | nilifc

instance : Inhabited AV := ⟨.any⟩

def AV.cells : AV → List AV
  | .agg cs => cs
  | v => [v]

def cellsL (xs : List AV) : List AV := xs.flatMap AV.cells

/-- A value that one cell holds. -/
def AV.one : AV → Bool
  | .any | .agg _ | .tup _ => false
  | _ => true

/-- A value whose shape is known. -/
def AV.known : AV → Bool
  | .any => false
  | _ => true

structure Gh where
  w0 : World
  imm : Nat → Nat → Option Value
  /-- a mutable object: its block, its rows' size, how many rows -/
  loc : Nat → Option (Nat × Nat × Nat)
  tipv : Nat → Nat → Option Value
  /-- numbers that are kept for objects to come -/
  res : Nat → Prop

structure Gh.Le (g g' : Gh) : Prop where
  w0 : g'.w0 = g.w0
  imm : ∀ b o v, g.imm b o = some v → g'.imm b o = some v
  loc : ∀ o x, g.loc o = some x → g'.loc o = some x
  tipv : ∀ o n v, g.tipv o n = some v → g'.tipv o n = some v
  res : g'.res = g.res

theorem Gh.Le.refl (g : Gh) : g.Le g := ⟨rfl, fun _ _ _ h => h, fun _ _ h => h, fun _ _ _ h => h, rfl⟩
theorem Gh.Le.trans {a b c : Gh} (h : a.Le b) (k : b.Le c) : a.Le c :=
  ⟨k.w0.trans h.w0, fun _ _ _ x => k.imm _ _ _ (h.imm _ _ _ x), fun _ _ x => k.loc _ _ (h.loc _ _ x), fun _ _ _ x => k.tipv _ _ _ (h.tipv _ _ _ x), k.res.trans h.res⟩

/-- The slice's kind against its value's shape. -/
def SKOk (g : Gh) (k : SK) (a : Addr) (n cap : Nat) : Prop :=
  match k with
  | .nil => False
  | .imm => n ≤ cap
  | .full => cap = n
  | .tip o => n ≤ cap ∧ g.tipv o n = some (.slice (some a) n cap)

inductive R (g : Gh) : AV → Value → Prop
  | any (v : Value) : R g .any v
  | int (k : IntKind) (n : Int) : R g (.int k n) (.int k n)
  | bool (b : Bool) : R g (.bool b) (.bool b)
  | str (s : ByteArray) : R g (.str s) (.string s)
  | agg {cs : List AV} {vs : Array Value} (hl : cs.length = vs.size) (h : ∀ (i : Nat) (c : AV) (v : Value), cs[i]? = some c → vs[i]? = some v → R g c v) : R g (.agg cs) (.agg vs)
  | tup {cs : List AV} {vs : Array Value} (hl : cs.length = vs.size) (h : ∀ (i : Nat) (c : AV) (v : Value), cs[i]? = some c → vs[i]? = some v → R g c v) : R g (.tup cs) (.tuple vs)
  | slnil : R g (.sl .nil []) (.slice none 0 0)
  | sl {k : SK} {xs : List AV} {a : Addr} {cap sz : Nat} {vs : Nat → Value} (hk : SKOk g k a xs.length cap) (hs : xs ≠ [] → a.spot = none)
      (hu : ∀ x, x ∈ xs → x.cells.length = sz)
      (hi : ∀ i, i < (cellsL xs).length → g.imm a.block (a.off + i) = some (vs i))
      (h : ∀ (i : Nat) (c : AV), (cellsL xs)[i]? = some c → R g c (vs i)) : R g (.sl k xs) (.slice (some a) xs.length cap)
  | nilp : R g .nilp (.pointer none)
  | ip {x : AV} {off base : Nat} {a : Addr} {vs : Nat → Value} (hs : a.spot = none) (ho : a.off = base + off)
      (hi : ∀ i, i < x.cells.length → g.imm a.block (base + i) = some (vs i))
      (h : ∀ (i : Nat) (c : AV), x.cells[i]? = some c → R g c (vs i)) : R g (.ip x off) (.pointer (some a))
  | ptr {o i off b sz n : Nat} (hb : g.loc o = some (b, sz, n)) : R g (.ptr o i off) (.pointer (some ⟨b, i * sz + off, none⟩))
  | ms {o st len b sz n cap : Nat} {a : Addr} (hb : g.loc o = some (b, sz, n)) (hc : st + cap ≤ n) (hl : len ≤ cap) (ha : 0 < cap → a = ⟨b, st * sz, none⟩) : R g (.ms o sz st len) (.slice (some a) len cap)
  | map {o b : Nat} (hb : g.loc o = some (b, 0, 0)) : R g (.map o) (.map (some b))
  | nilmap : R g .nilmap (.map none)
  | fn {f : FuncId} {cs : List AV} {vs : Array Value} (hl : cs.length = vs.size) (h : ∀ (i : Nat) (c : AV) (v : Value), cs[i]? = some c → vs[i]? = some v → R g c v) : R g (.fn f cs) (.func (.func f) #[] vs)
  | nilfn : R g .nilfn .nilFunc
  | ifc {t : TypeId} {x : AV} {v : Value} (h : R g x v) : R g (.ifc t x) (.iface t v)
  | nilifc : R g .nilifc .nilIface

theorem SKOk.le {g g' : Gh} (hle : g.Le g') {k : SK} {a : Addr} {n cap : Nat} (h : SKOk g k a n cap) : SKOk g' k a n cap := by
  cases k with
  | nil => exact h
  | imm => exact h
  | full => exact h
  | tip o => exact ⟨h.1, hle.tipv _ _ _ h.2⟩

theorem R.le {g g' : Gh} (hle : g.Le g') {x : AV} {v : Value} (h : R g x v) : R g' x v := by
  induction h with
  | any v => exact .any v
  | int k n => exact .int k n
  | bool b => exact .bool b
  | str s => exact .str s
  | agg hl h ih => exact .agg hl ih
  | tup hl h ih => exact .tup hl ih
  | slnil => exact .slnil
  | sl hk hs hu hi h ih => exact .sl (hk.le hle) hs hu (fun i hh => hle.imm _ _ _ (hi i hh)) ih
  | nilp => exact .nilp
  | ip hs ho hi h ih => exact .ip hs ho (fun i hh => hle.imm _ _ _ (hi i hh)) ih
  | ptr hb => exact .ptr (hle.loc _ _ hb)
  | ms hb hc hl ha => exact .ms (hle.loc _ _ hb) hc hl ha
  | map hb => exact .map (hle.loc _ _ hb)
  | nilmap => exact .nilmap
  | fn hl h ih => exact .fn hl ih
  | nilfn => exact .nilfn
  | ifc h ih => exact .ifc ih
  | nilifc => exact .nilifc

theorem R.one {g : Gh} {x : AV} {v : Value} (h : R g x v) (h1 : x.one = true) : v.oneCell' = true := by
  cases h <;> first | rfl | (simp [AV.one] at h1; done)

theorem R.cells {g : Gh} {x : AV} {v : Value} (h : R g x v) (hkn : x.known = true) : x.cells.length = v.cells.size ∧ ∀ (i : Nat) (c : AV) (u : Value), x.cells[i]? = some c → v.cells[i]? = some u → R g c u := by
  have one : ∀ (x : AV) (v : Value), R g x v → x.cells = [x] → v.cells = #[v] → x.cells.length = v.cells.size ∧ ∀ (i : Nat) (c : AV) (u : Value), x.cells[i]? = some c → v.cells[i]? = some u → R g c u := by
    intro x v h e1 e2
    rw [e1, e2]
    refine ⟨rfl, fun i c u hc hu => ?_⟩
    cases i with
    | zero => simp at hc hu; subst hc; subst hu; exact h
    | succ i => simp at hc
  cases h with
  | any v => simp [AV.known] at hkn
  | agg hl h => exact ⟨hl, h⟩
  | int k n => exact one _ _ (.int k n) rfl rfl
  | bool b => exact one _ _ (.bool b) rfl rfl
  | str s => exact one _ _ (.str s) rfl rfl
  | tup hl h => exact one _ _ (.tup hl h) rfl rfl
  | slnil => exact one _ _ .slnil rfl rfl
  | sl hk hs hu hi h => exact one _ _ (.sl hk hs hu hi h) rfl rfl
  | nilp => exact one _ _ .nilp rfl rfl
  | ip hs ho hi h => exact one _ _ (.ip hs ho hi h) rfl rfl
  | ptr hb => exact one _ _ (.ptr hb) rfl rfl
  | ms hb hc hl ha => exact one _ _ (.ms hb hc hl ha) rfl rfl
  | map hb => exact one _ _ (.map hb) rfl rfl
  | nilmap => exact one _ _ .nilmap rfl rfl
  | fn hl h => exact one _ _ (.fn hl h) rfl rfl
  | nilfn => exact one _ _ .nilfn rfl rfl
  | ifc h => exact one _ _ (.ifc h) rfl rfl
  | nilifc => exact one _ _ .nilifc rfl rfl

/-! ### The store of mutable objects -/
inductive Ob where
  | arr (e : TypeId) (rows : List AV)
  | tip (n : Nat) (e : TypeId) (sz : Nat)
  | map (es : List (AV × AV))

abbrev Store := Nat → Option Ob

def Store.put (s : Store) (o : Nat) (x : Ob) : Store := fun p => if p = o then some x else s p
def Store.drop (s : Store) (o : Nat) : Store := fun p => if p = o then none else s p
/-- What the first knows the second knows. -/
def Store.Sub (s t : Store) : Prop := ∀ o x, s o = some x → t o = some x

def ObAt (g : Gh) (w : World) (o b : Nat) : Ob → Prop
  | .arr e rows => ∃ (sz : Nat) (cells : Array Value), (∃ n, g.loc o = some (b, sz, n) ∧ cells.size = n * sz) ∧ w.heap[b]? = some (.cells cells e (0, 0)) ∧ (∀ r, r ∈ rows → r.cells.length = sz) ∧ rows.length * sz ≤ cells.size ∧
      (∀ (i : Nat) (c : AV) (v : Value), (cellsL rows)[i]? = some c → cells[i]? = some v → R g c v) ∧ (∀ off, g.imm b off = none)
  | .tip n e sz => ∃ (cap : Nat) (cur : Array Value), g.tipv o n = some (.slice (some ⟨b, 0, none⟩) n cap) ∧ (∀ m, n < m → g.tipv o m = none) ∧ w.heap[b]? = some (.cells cur e (0, 0)) ∧ n ≤ cap ∧ cap ≤ maxLen ∧ cur.size = cap * sz ∧
      (∀ off, n * sz ≤ off → g.imm b off = none)
  | .map es => ∃ (entries : Array MapEntry) (clock : Nat), g.loc o = some (b, 0, 0) ∧ w.heap[b]? = some (.map entries clock) ∧ es.length = entries.size ∧
      (∀ (i : Nat) (kv : AV × AV) (en : MapEntry), es[i]? = some kv → entries[i]? = some en → R g kv.1 en.key ∧ R g kv.2 en.val)

structure Conc (g : Gh) (w : World) (s : Store) : Prop where
  below : Below g.w0.heap.size g.w0 w
  imm : ∀ b o v, g.imm b o = some v → w.cell? ⟨b, o, none⟩ = some v
  loc : ∀ o b sz n, g.loc o = some (b, sz, n) → g.w0.heap.size ≤ b ∧ b < w.heap.size
  fresh : ∃ N, ∀ o, N ≤ o → g.loc o = none ∧ (∀ m, g.tipv o m = none) ∧ s o = none ∧ ¬ g.res o
  res : ∀ o, g.res o → g.loc o = none ∧ (∀ m, g.tipv o m = none) ∧ s o = none
  obj : ∃ blk : Nat → Nat, (∀ o x, s o = some x → g.w0.heap.size ≤ blk o ∧ ObAt g w o (blk o) x) ∧ (∀ o o' x x', s o = some x → s o' = some x' → blk o = blk o' → o = o')

theorem Conc.sub {g : Gh} {w : World} {s t : Store} (h : Conc g w t) (hs : s.Sub t) : Conc g w s := by
  obtain ⟨N, hN⟩ := h.fresh
  obtain ⟨blk, h1, h2⟩ := h.obj
  have hnone : ∀ o, t o = none → s o = none := fun o ho => by
    cases hso : s o with
    | none => rfl
    | some x => have := hs o x hso; rw [ho] at this; cases this
  exact ⟨h.below, h.imm, h.loc, ⟨N, fun o ho => ⟨(hN o ho).1, (hN o ho).2.1, hnone o (hN o ho).2.2.1, (hN o ho).2.2.2⟩⟩, fun o ho => ⟨(h.res o ho).1, (h.res o ho).2.1, hnone o (h.res o ho).2.2⟩,
    blk, fun o x hx => h1 o x (hs o x hx), fun o o' x x' hx hx' => h2 o o' x x' (hs _ _ hx) (hs _ _ hx')⟩

end Go.Kern
