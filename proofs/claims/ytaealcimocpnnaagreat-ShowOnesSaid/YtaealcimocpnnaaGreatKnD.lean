/- The abstract layer, fourth part: tables of types; what each operation does to abstract values. Conditions: none. -/
import Derived.Test.YtaealcimocpnnaaGreatKnC
set_option linter.unusedVariables false
set_option linter.unusedSimpArgs false
namespace Go.Kern
open Go.RowKit

/-- Plain kinds of cells. -/
inductive PK where
  | bool | int (k : IntKind) | str
  deriving DecidableEq

inductive TK where
  | bool | int (k : IntKind) | str | slice | array (n : Nat) | struct | map | ptr | func | iface | other | uptr
  /-- the cells of what is compared cell by cell -/
  | wide (ks : List PK)
  deriving DecidableEq

def kindOf : TypeDesc → TK
  | .bool => .bool
  | .int k => .int k
  | .string => .str
  | .slice _ => .slice
  | .array n _ => .array n
  | .struct _ => .struct
  | .map .. => .map
  | .pointer _ => .ptr
  | .func .. => .func
  | .interface _ => .iface
  | .unsafePointer => .uptr
  | _ => .other

def TK.agg : TK → Bool
  | .struct | .array _ => true
  | _ => false

def flatFs (P : Program) (g : TypeId → Option (List PK)) : Nat → List Field → Option (List PK)
  | _, [] => some []
  | off, f :: fs => if f.name = "_" ∨ f.offset ≠ off then none else match g f.type with
    | some ks => if P.cellsOf f.type = ks.length then (flatFs P g (off + ks.length) fs).map (ks ++ ·) else none
    | none => none
/-- The cells of a type that is compared cell by cell. -/
def flatOf (P : Program) : Nat → TypeId → Option (List PK)
  | 0, _ => none
  | m + 1, t => match P.underlying t with
    | some .bool => some [.bool]
    | some (.int k) => some [.int k]
    | some .string => some [.str]
    | some (.array n e) => match flatOf P m e with
      | some ks => if P.cellsOf e = ks.length then some (List.replicate n ks).flatten else none
      | none => none
    | some (.struct fs) => if P.stoodInHeld t = true then none else flatFs P (flatOf P m) 0 fs.toList
    | _ => none
/-- What a key of the type is, or one side of ==. -/
def keyTK (P : Program) (t : TypeId) : TK :=
  match P.underlying t with
  | some (.array n e) => if P.eqGuardType P.depth t = true then .array n else match flatOf P 6 t with
    | some ks => .wide ks
    | none => .array n
  | some (.struct fs) => if P.eqGuardType P.depth t = true then .struct else match flatOf P 6 t with
    | some ks => .wide ks
    | none => .struct
  | some d => kindOf d
  | none => .other

structure Ty where
  ok : Bool
  kind : TK
  size : Nat
  bytes : Nat
  elem : TypeId
  key : TypeId
  /-- offset, size, may it be taken as a whole, its type -/
  fields : List (Nat × Nat × Bool × TypeId)
  zero : Option AV
  kk : TK

def fieldOf (P : Program) (f : Field) : Nat × Nat × Bool × TypeId :=
  match P.info? f.type, P.underlying f.type with
  | some i, some d => (f.offset, i.size, (kindOf d).agg, f.type)
  | _, _ => (f.offset, 0, false, f.type)

def tyOf (P : Program) (t : TypeId) : Ty :=
  match P.info? t, P.underlying t with
  | some i, some d =>
    { ok := true, kind := kindOf d, size := i.size, bytes := i.bytes,
      elem := (match d with | .slice e => e | .array _ e => e | .map _ e => e | .pointer e => e | _ => 0),
      key := (match d with | .map k _ => k | _ => 0),
      fields := (match d with | .struct fs => fs.toList.map (fieldOf P) | _ => []),
      zero := i.zero.map ofConst, kk := keyTK P t }
  | _, _ => { ok := false, kind := .other, size := 0, bytes := 0, elem := 0, key := 0, fields := [], zero := none, kk := .other }

section
variable {P : Program} {t : TypeId}
theorem ty_ok (h : (tyOf P t).ok = true) : ∃ i d, P.info? t = some i ∧ P.underlying t = some d ∧ tyOf P t =
    { ok := true, kind := kindOf d, size := i.size, bytes := i.bytes,
      elem := (match d with | .slice e => e | .array _ e => e | .map _ e => e | .pointer e => e | _ => 0),
      key := (match d with | .map k _ => k | _ => 0),
      fields := (match d with | .struct fs => fs.toList.map (fieldOf P) | _ => []),
      zero := i.zero.map ofConst, kk := keyTK P t } := by
  unfold tyOf at h ⊢
  cases h1 : P.info? t with
  | none => simp [h1] at h
  | some i =>
    cases h2 : P.underlying t with
    | none => simp [h1, h2] at h
    | some d => exact ⟨i, d, rfl, rfl, rfl⟩

theorem run_isAgg' (h : (tyOf P t).ok = true) (w : World) : (isAgg t).run P w = .ok (tyOf P t).kind.agg w := by
  obtain ⟨i, d, h1, h2, h3⟩ := ty_ok h
  rw [h3]
  cases d <;> simp [isAgg, run_underlying h2, kindOf, TK.agg]
theorem run_sizeOf' (h : (tyOf P t).ok = true) (w : World) : (sizeOf t).run P w = .ok (tyOf P t).size w := by
  obtain ⟨i, d, h1, h2, h3⟩ := ty_ok h
  rw [h3]
  simp [sizeOf, typeInfo, h1]
theorem run_zero' {z : AV} (h : (tyOf P t).ok = true) (hz : (tyOf P t).zero = some z) (w : World) : ∃ v, (zeroValue t).run P w = .ok v w ∧ (∀ g, R g z v) ∧ z = ofConst v := by
  obtain ⟨i, d, h1, h2, h3⟩ := ty_ok h
  rw [h3] at hz
  obtain ⟨v, hv, rfl⟩ := Option.map_eq_some_iff.1 hz
  exact ⟨v, by simp [zeroValue, typeInfo, h1, hv], fun g => R_const g v, rfl⟩
theorem ty_slice (h : (tyOf P t).kind = .slice) : P.underlying t = some (.slice (tyOf P t).elem) := by
  by_cases hok : (tyOf P t).ok = true
  · obtain ⟨i, d, h1, h2, h3⟩ := ty_ok hok
    rw [h3] at h ⊢
    cases d <;> simp [kindOf] at h
    exact h2
  · unfold tyOf at h hok
    cases h1 : P.info? t <;> cases h2 : P.underlying t <;> simp [h1, h2] at h hok
theorem ty_kind {d : TK} (h : (tyOf P t).kind = d) (hd : d ≠ .other) : ∃ i u, P.info? t = some i ∧ P.underlying t = some u ∧ kindOf u = d := by
  by_cases hok : (tyOf P t).ok = true
  · obtain ⟨i, u, h1, h2, h3⟩ := ty_ok hok
    rw [h3] at h
    exact ⟨i, u, h1, h2, h⟩
  · exfalso
    unfold tyOf at h hok
    cases h1 : P.info? t <;> cases h2 : P.underlying t <;> simp [h1, h2] at h hok <;> exact hd h.symm
end

/-! ### The operations -/
abbrev KK := AV → Store → Prop

/-- A part of cells, as a type takes it. -/
def loadA (T : Ty) (cs : List AV) (off : Nat) (k : AV → Prop) : Prop :=
  T.ok = true ∧ (if T.kind.agg = true then off + T.size ≤ cs.length ∧ k (.agg ((cs.drop off).take T.size))
    else match cs[off]? with | some c => k c | none => False)

/-- What lies behind a pointer: the row's cells, and where in them. -/
def behind (σ : Store) (p : AV) (k : List AV → Nat → Prop) : Prop :=
  match p with
  | .ip x off => k x.cells off
  | .ptr o i off => match σ o with
    | some (.arr _ rows) => match rows[i]? with
      | some x => k x.cells off
      | none => False
    | _ => False
  | _ => False

def oneOf (vs : List AV) (x : AV) : AV :=
  match vs with
  | [v] => v
  | _ => x
def splice (x : AV) (off : Nat) (vs : List AV) : AV :=
  match x with
  | .agg cs => .agg (cs.take off ++ vs ++ cs.drop (off + vs.length))
  | _ => oneOf vs x

def storeA (T : Ty) (σ : Store) (p v : AV) (k : Store → Prop) : Prop :=
  match p with
  | .ptr o i off => match σ o with
    | some (.arr e rows) => match rows[i]? with
      | some x => T.ok = true ∧ v.known = true ∧ v.cells.length = T.size ∧ v.cells.all AV.one = true ∧ off + v.cells.length ≤ x.cells.length ∧
          k (σ.put o (.arr e (rows.set i (splice x off v.cells))))
      | none => False
    | _ => False
  | _ => False

def boxA (mu : Bool) (t : TypeId) (x : AV) (σ : Store) (k : KK) : Prop :=
  x.known = true ∧ (if mu = true then ∀ o, σ o = none → k (.ptr o 0 0) (σ.put o (.arr t [x])) else k (.ip x 0) σ)

def allocA (t : TypeId) (T : Ty) (σ : Store) (k : KK) : Prop :=
  T.ok = true ∧ match T.zero with
    | some z => z.known = true ∧ ∀ o, σ o = none → k (.ptr o 0 0) (σ.put o (.arr t [z]))
    | none => False

def fillA (place : Nat → Option (Nat × Nat)) : List AV → List (Nat × AV) → Option (List AV)
  | cs, [] => some cs
  | cs, (i, v) :: r => match place i with
    | none => none
    | some (off, size) => if v.known = true ∧ v.cells.length = size ∧ off + v.cells.length ≤ cs.length then fillA place (cs.take off ++ v.cells ++ cs.drop (off + v.cells.length)) r else none

def buildA (P : Program) (T : Ty) (parts : List (Nat × AV)) (k : AV → Prop) : Prop :=
  T.ok = true ∧ (match T.kind with
    | .struct => T.fields.all (fun f => decide (f.2.1 ≠ 0)) = true ∧ (match T.zero with
      | some (.agg zs) => (match fillA (fun i => (T.fields[i]?).map fun f => (f.1, f.2.1)) zs parts with
        | some cs => k (.agg cs)
        | none => False)
      | _ => False)
    | .array _ => (tyOf P T.elem).ok = true ∧ (match T.zero with
      | some (.agg zs) => (match fillA (fun i => some (i * (tyOf P T.elem).size, (tyOf P T.elem).size)) zs parts with
        | some cs => k (.agg cs)
        | none => False)
      | _ => False)
    | _ => False)

def partsFit (sz : Nat) : Nat → List (Nat × AV) → Bool
  | _, [] => true
  | i, (j, v) :: r => decide (j = i) && v.known && decide (v.cells.length = sz) && partsFit sz (i + 1) r

def buildSliceA (P : Program) (T : Ty) (n : Nat) (parts : List (Nat × AV)) (k : AV → Prop) : Prop :=
  T.kind = .slice ∧ (tyOf P T.elem).ok = true ∧ parts.length = n ∧ n * (tyOf P T.elem).size ≤ 16777216 ∧ 0 < (tyOf P T.elem).size ∧ (tyOf P T.elem).zero.isSome = true ∧ partsFit (tyOf P T.elem).size 0 parts = true ∧ k (.sl .full (parts.map (·.2)))

/-- The same, as an object that may be written: with a name. -/
def buildSliceN (P : Program) (T : Ty) (n : Nat) (parts : List (Nat × AV)) (σ : Store) (nu : Nat) (k : KK) : Prop :=
  T.kind = .slice ∧ (tyOf P T.elem).ok = true ∧ parts.length = n ∧ n * (tyOf P T.elem).size ≤ 16777216 ∧ 0 < (tyOf P T.elem).size ∧ (tyOf P T.elem).zero.isSome = true ∧ partsFit (tyOf P T.elem).size 0 parts = true ∧
    k (.ms nu (tyOf P T.elem).size 0 n) (σ.put nu (.arr T.elem (parts.map (·.2))))
def buildSliceM (P : Program) (T : Ty) (n : Nat) (parts : List (Nat × AV)) (mu : Bool) (σ : Store) (k : KK) : Prop :=
  if mu = true then ∀ o, σ o = none → buildSliceN P T n parts σ o k else buildSliceA P T n parts fun c => k c σ

def cmpI (op : BinOp) (a b : Int) : Option Bool :=
  match op with
  | .eql => some (decide (a = b))
  | .neq => some (!decide (a = b))
  | .lss => some (decide (a < b))
  | .leq => some (decide (a ≤ b))
  | .gtr => some (decide (b < a))
  | .geq => some (decide (b ≤ a))
  | _ => none

def SK.isNil : SK → Bool
  | .nil => true
  | _ => false

def nilSide (kind : TK) (x : AV) : Option Bool :=
  match kind, x with
  | .slice, .sl k _ => some k.isNil
  | .slice, .ms .. => some false
  | .ptr, .nilp => some true
  | .ptr, .ip .. => some false
  | .ptr, .ptr .. => some false
  | .map, .map _ => some false
  | .map, .nilmap => some true
  | .func, .fn .. => some false
  | .func, .nilfn => some true
  | _, _ => none

def intOpA (op : BinOp) (i : IntKind) (a b : Int) (k : AV → Prop) : Prop :=
  match op with
  | .add => k (.int i (i.wrap (a + b)))
  | .sub => k (.int i (i.wrap (a - b)))
  | .mul => k (.int i (i.wrap (a * b)))
  | .quo => b ≠ 0 ∧ k (.int i (i.wrap (a.tdiv b)))
  | .rem => b ≠ 0 ∧ k (.int i (a.tmod b))
  | .eql => k (.bool (decide (a = b)))
  | .neq => k (.bool (!decide (a = b)))
  | .lss => k (.bool (decide (a < b)))
  | .leq => k (.bool (decide (a ≤ b)))
  | .gtr => k (.bool (decide (b < a)))
  | .geq => k (.bool (decide (b ≤ a)))
  | .and => k (.int i (bits .and i a b))
  | .or => k (.int i (bits .or i a b))
  | .xor => k (.int i (bits .xor i a b))
  | .andNot => k (.int i (bits .andNot i a b))
  | _ => False

def strOpA (op : BinOp) (a b : ByteArray) (k : AV → Prop) : Prop :=
  match op with
  | .add => a.size + b.size ≤ 9223372036854775807 ∧ k (.str (a ++ b))
  | .eql => k (.bool (decide (a = b)))
  | .neq => k (.bool (!decide (a = b)))
  | .lss => k (.bool (Op.bytesLess a.toList b.toList))
  | .gtr => k (.bool (!(Op.bytesLess a.toList b.toList || decide (a = b))))
  | .leq => k (.bool (Op.bytesLess a.toList b.toList || decide (a = b)))
  | .geq => k (.bool (!Op.bytesLess a.toList b.toList))
  | _ => False

/-- One side of the two is nil. -/
def nilOpA (kind : TK) (op : BinOp) (x y : AV) (k : AV → Prop) : Prop :=
  match nilSide kind x, nilSide kind y with
  | some a, some b => (a = true ∨ b = true) ∧ (match op with
    | .eql => k (.bool (a && b))
    | .neq => k (.bool (!(a && b)))
    | _ => False)
  | _, _ => False

def cellKind : PK → AV → Bool
  | .int i, .int j _ => decide (i = j)
  | .str, .str _ => true
  | .bool, .bool _ => true
  | _, _ => false
def cellsKind : List PK → List AV → Bool
  | [], [] => true
  | k :: ks, a :: as => cellKind k a && cellsKind ks as
  | _, _ => false
def cellB (a b : AV) : Bool :=
  match a, b with
  | .int _ x, .int _ y => decide (x = y)
  | .str x, .str y => decide (x = y)
  | .bool x, .bool y => x == y
  | _, _ => false
def cellsB : List AV → List AV → Bool
  | [], [] => true
  | a :: as, b :: bs => cellB a b && cellsB as bs
  | _, _ => false
def keyKind (K : TK) (a : AV) : Bool :=
  match K, a with
  | .wide ks, .agg cs => cellsKind ks cs
  | .int i, .int j _ => decide (i = j)
  | .str, .str _ => true
  | .bool, .bool _ => true
  | _, _ => false
def keyB (a b : AV) : Bool :=
  match a, b with
  | .int _ x, .int _ y => decide (x = y)
  | .str x, .str y => decide (x = y)
  | .bool x, .bool y => x == y
  | .agg xs, .agg ys => cellsB xs ys
  | _, _ => false
def binA (P : Program) (op : BinOp) (t : TypeId) (x y : AV) (k : AV → Prop) : Prop :=
  match x, y with
  | .int i a, .int j b => (match op with
    | .shl => 0 ≤ b ∧ k (.int i (i.wrap (a * 2 ^ (min b.toNat i.bits))))
    | .shr => 0 ≤ b ∧ k (.int i (a.fdiv (2 ^ (min b.toNat i.bits))))
    | _ => i = j ∧ intOpA op i a b k)
  | .str a, .str b => strOpA op a b k
  | .bool a, .bool b => (tyOf P t).kind = .bool ∧ (match op with
    | .eql => k (.bool (a == b))
    | .neq => k (.bool (!(a == b)))
    | _ => False)
  | .agg xs, .agg ys => keyKind (tyOf P t).kk (.agg xs) = true ∧ keyKind (tyOf P t).kk (.agg ys) = true ∧ (match op with
    | .eql => k (.bool (cellsB xs ys))
    | .neq => k (.bool (!cellsB xs ys))
    | _ => False)
  | .ptr o i a, .ptr o' i' a' => (tyOf P t).kind = .ptr ∧ (tyOf P t).ok = true ∧ (tyOf P (tyOf P t).elem).ok = true ∧ o = o' ∧ i = i' ∧ a = a' ∧ (match op with
    | .eql => k (.bool true)
    | .neq => k (.bool false)
    | _ => False)
  | x, y => nilOpA (tyOf P t).kind op x y k

def unA (op : UnOp) (x : AV) (k : AV → Prop) : Prop :=
  match op, x with
  | .not, .bool b => k (.bool (!b))
  | .neg, .int i a => k (.int i (i.wrap (0 - a)))
  | _, _ => False

def convA (S D : Ty) (x : AV) (k : AV → Prop) : Prop :=
  S.ok = true ∧ D.ok = true ∧ match D.kind, x with
  | .int i, .int _ a => k (.int i (i.wrap a))
  | .str, .str s => k (.str s)
  | _, _ => False

def fieldAddrA (S : Ty) (p : AV) (i : Nat) (k : AV → Prop) : Prop :=
  S.kind = .struct ∧ match S.fields[i]? with
    | some (off, sz, _, _) => sz ≠ 0 ∧ (match p with
      | .ip x o => k (.ip x (o + off))
      | .ptr o r c => k (.ptr o r (c + off))
      | _ => False)
    | none => False

def fieldA (P : Program) (S : Ty) (x : AV) (i : Nat) (k : AV → Prop) : Prop :=
  S.kind = .struct ∧ match S.fields[i]?, x with
    | some (off, _, _, t), .agg cs => loadA (tyOf P t) cs off k
    | _, _ => False

def indexAddrA (P : Program) (S : Ty) (x ix : AV) (k : AV → Prop) : Prop :=
  match x, ix with
  | .sl _ xs, .int _ i => S.kind = .slice ∧ (tyOf P S.elem).ok = true ∧ 0 ≤ i ∧ i < xs.length ∧ (xs.getD i.toNat .any).cells.length = (tyOf P S.elem).size ∧ k (.ip (xs.getD i.toNat .any) 0)
  | .ms o sz st n, .int _ i => S.kind = .slice ∧ (tyOf P S.elem).ok = true ∧ 0 ≤ i ∧ i < n ∧ sz = (tyOf P S.elem).size ∧ k (.ptr o (st + i.toNat) 0)
  | _, _ => False

def indexA (S : Ty) (x ix : AV) (k : AV → Prop) : Prop :=
  match x, ix with
  | .str s, .int _ i => S.kind = .str ∧ 0 ≤ i ∧ i < s.size ∧ k (.int .u8 ((s.data.getD i.toNat 0).toNat : Int))
  | _, _ => False

def lenA (T : Ty) (σ : Store) (x : AV) (k : AV → Prop) : Prop :=
  match x with
  | .str s => T.kind = .str ∧ k (.int .i64 s.size)
  | .sl _ xs => T.kind = .slice ∧ k (.int .i64 xs.length)
  | .ms _ _ _ n => T.kind = .slice ∧ k (.int .i64 n)
  | .nilmap => T.kind = .map ∧ k (.int .i64 0)
  | .map o => T.kind = .map ∧ (match σ o with
    | some (.map es) => k (.int .i64 es.length)
    | _ => False)
  | _ => False

/-- Rows that lie in memory as they are: each of sz cells. -/
def rowOk (sz : Nat) (z : AV) : Bool := z.known && decide (z.cells.length = sz) && z.cells.all AV.one
def rowsOk (sz : Nat) (l : List AV) : Bool := l.all (rowOk sz)
theorem rowsOk_nil (sz : Nat) : rowsOk sz [] = true := by unfold rowsOk; exact List.all_nil
theorem rowsOk_cons (sz : Nat) (z : AV) (l : List AV) : rowsOk sz (z :: l) = (rowOk sz z && rowsOk sz l) := by unfold rowsOk; exact List.all_cons
theorem rowsOk_append (sz : Nat) (a b : List AV) : rowsOk sz (a ++ b) = (rowsOk sz a && rowsOk sz b) := by unfold rowsOk; exact List.all_append
theorem rowsOk_spec {sz : Nat} {l : List AV} (h : rowsOk sz l = true) : ∀ z ∈ l, z.known = true ∧ z.cells.length = sz ∧ z.cells.all AV.one = true := by
  intro z hz
  have := List.all_eq_true.1 h z hz
  simp only [rowOk, Bool.and_eq_true, decide_eq_true_eq] at this
  exact ⟨this.1.1, this.1.2, this.2⟩
theorem rowsOk_map {α : Type} (sz : Nat) (f : α → AV) (h : ∀ a, rowOk sz (f a) = true) (l : List α) : rowsOk sz (l.map f) = true := by
  unfold rowsOk
  rw [List.all_map]
  exact List.all_eq_true.2 fun a _ => h a

def SK.cut : SK → SK
  | .nil => .nil
  | _ => .imm
def SK.cutFull : SK → SK
  | .nil => .nil
  | _ => .full

/-- An append to it makes a new block. -/
def SK.fresh : SK → Bool
  | .nil => true
  | .full => true
  | _ => false

def boundA (d : Int) : Option AV → Option Int
  | none => some d
  | some (.int _ i) => some i
  | _ => none

def sliceA (P : Program) (S : Ty) (x : AV) (lo hi mx : Option AV) (k : AV → Prop) : Prop :=
  match x with
  | .str s => S.kind = .str ∧ mx = none ∧ (match boundA 0 lo, boundA s.size hi with
    | some l, some h => 0 ≤ l ∧ l ≤ h ∧ h ≤ s.size ∧ k (.str (s.extract l.toNat h.toNat))
    | _, _ => False)
  | .sl kd xs => S.kind = .slice ∧ (tyOf P S.elem).ok = true ∧ rowsOk (tyOf P S.elem).size xs = true ∧ (match boundA 0 lo, boundA xs.length hi, mx with
    | some l, some h, none => 0 ≤ l ∧ l ≤ h ∧ h ≤ xs.length ∧ k (.sl kd.cut ((xs.take h.toNat).drop l.toNat))
    | some l, some h, some (.int _ m) => hi.isSome = true ∧ 0 ≤ l ∧ l ≤ h ∧ h ≤ xs.length ∧ m = h ∧ k (.sl kd.cutFull ((xs.take h.toNat).drop l.toNat))
    | _, _, _ => False)
  | .ms o sz st n => S.kind = .slice ∧ (tyOf P S.elem).ok = true ∧ sz = (tyOf P S.elem).size ∧ mx = none ∧ (match boundA 0 lo, boundA n hi with
    | some l, some h => 0 ≤ l ∧ l ≤ h ∧ h ≤ n ∧ k (.ms o sz (st + l.toNat) (h.toNat - l.toNat))
    | _, _ => False)
  | _ => False

def extractA (x : AV) (i : Nat) (k : AV → Prop) : Prop :=
  match x with
  | .tup vs => match vs[i]? with
    | some v => k v
    | none => False
  | _ => False

/-! Maps: entries in their order. -/
def keysOk (K : TK) (es : List (AV × AV)) : Bool := es.all fun e => keyKind K e.1
def asetA (k v : AV) : List (AV × AV) → List (AV × AV)
  | [] => [(k, v)]
  | e :: r => if keyB k e.1 = true then (k, v) :: r else e :: asetA k v r
def adelA (k : AV) : List (AV × AV) → List (AV × AV)
  | [] => []
  | e :: r => if keyB k e.1 = true then r else e :: adelA k r

def lookupA (P : Program) (T : Ty) (σ : Store) (m key : AV) (ok : Bool) (k : AV → Prop) : Prop :=
  T.kind = .map ∧ keyKind (tyOf P T.key).kk key = true ∧ (tyOf P T.elem).ok = true ∧ (match m with
    | .nilmap => (match (tyOf P T.elem).zero with
      | some z => k (if ok = true then .tup [z, .bool false] else z)
      | none => False)
    | .map o => (match σ o with
      | some (.map es) => keysOk (tyOf P T.key).kk es = true ∧ (match es.find? (fun e => keyB key e.1) with
        | some e => k (if ok = true then .tup [e.2, .bool true] else e.2)
        | none => (match (tyOf P T.elem).zero with
          | some z => k (if ok = true then .tup [z, .bool false] else z)
          | none => False))
      | _ => False)
    | _ => False)

def mapSetA (P : Program) (T : Ty) (σ : Store) (m key v : AV) (k : Store → Prop) : Prop :=
  T.kind = .map ∧ keyKind (tyOf P T.key).kk key = true ∧ (match m with
    | .map o => (match σ o with
      | some (.map es) => keysOk (tyOf P T.key).kk es = true ∧ k (σ.put o (.map (asetA key v es)))
      | _ => False)
    | _ => False)

def mapDelA (P : Program) (T : Ty) (σ : Store) (m key : AV) (k : Store → Prop) : Prop :=
  T.kind = .map ∧ keyKind (tyOf P T.key).kk key = true ∧ (match m with
    | .map o => (match σ o with
      | some (.map es) => keysOk (tyOf P T.key).kk es = true ∧ k (σ.put o (.map (adelA key es)))
      | _ => False)
    | _ => False)

def makeSliceA (P : Program) (T : Ty) (l c : AV) (σ : Store) (k : KK) : Prop :=
  T.kind = .slice ∧ (tyOf P T.elem).ok = true ∧ (match l, c with
    | .int _ n, .int _ m => 0 ≤ n ∧ n ≤ m ∧ (tyOf P T.elem).bytes * m ≤ 140737488355328 ∧ m ≤ 140737488355328 ∧ 0 < (tyOf P T.elem).size ∧ (match (tyOf P T.elem).zero with
      | some z => z.known = true ∧ z.cells.length = (tyOf P T.elem).size ∧
        (if n = 0 then ∀ o, σ o = none → k (.sl (.tip o) []) (σ.put o (.tip 0 T.elem (tyOf P T.elem).size))
        else n = m ∧ ∀ o, σ o = none → k (.ms o (tyOf P T.elem).size 0 n.toNat) (σ.put o (.arr T.elem (List.replicate n.toNat z))))
      | none => False)
    | _, _ => False)

def zeroFits (T : Ty) : Bool :=
  match T.zero with
  | some z => decide (z.cells.length = T.size)
  | none => false

/-- append(x, y...); mu: what it makes may be written. -/
def appendA (P : Program) (T : Ty) (mu : Bool) (σ : Store) (x y : AV) (k : KK) : Prop :=
  T.kind = .slice ∧ (tyOf P T.elem).ok = true ∧ zeroFits (tyOf P T.elem) = true ∧ 0 < (tyOf P T.elem).size ∧ (match y with
    | .sl _ ys => rowsOk (tyOf P T.elem).size ys = true ∧ (match x with
      | .ms o sz st n => sz = (tyOf P T.elem).size ∧ st = 0 ∧ (n + ys.length) * (tyOf P T.elem).bytes ≤ 140737488355328 ∧ n + ys.length ≤ 140737488355328 ∧ (match σ o with
        | some (.arr e rows) => e = T.elem ∧ n ≤ rows.length ∧ (if ys = [] then k x σ else ∀ o', σ o' = none → k (.ms o' (tyOf P T.elem).size 0 (n + ys.length)) ((σ.drop o).put o' (.arr T.elem (rows.take n ++ ys))))
        | _ => False)
      | .sl kd xs => rowsOk (tyOf P T.elem).size xs = true ∧ (xs.length + ys.length) * (tyOf P T.elem).bytes ≤ 140737488355328 ∧ xs.length + ys.length ≤ 140737488355328 ∧
        (if ys = [] then k x σ else if mu = true then (kd.fresh = true ∧ ∀ o, σ o = none → k (.ms o (tyOf P T.elem).size 0 (xs.length + ys.length)) (σ.put o (.arr T.elem (xs ++ ys)))) else
          match kd with
          | .nil => ∀ o, σ o = none → k (.sl (.tip o) ys) (σ.put o (.tip ys.length T.elem (tyOf P T.elem).size))
          | .full => ∀ o, σ o = none → k (.sl (.tip o) (xs ++ ys)) (σ.put o (.tip (xs ++ ys).length T.elem (tyOf P T.elem).size))
          | .tip o => σ o = some (.tip xs.length T.elem (tyOf P T.elem).size) ∧ k (.sl (.tip o) (xs ++ ys)) (σ.put o (.tip (xs ++ ys).length T.elem (tyOf P T.elem).size))
          | .imm => False)
      | _ => False)
    | _ => False)

/-- The same, with a name for what is new. -/
def appendN (P : Program) (T : Ty) (mu : Bool) (σ : Store) (x y : AV) (nu : Nat) (k : KK) : Prop :=
  T.kind = .slice ∧ (tyOf P T.elem).ok = true ∧ zeroFits (tyOf P T.elem) = true ∧ 0 < (tyOf P T.elem).size ∧ (match y with
    | .sl _ ys => rowsOk (tyOf P T.elem).size ys = true ∧ (match x with
      | .ms o sz st n => sz = (tyOf P T.elem).size ∧ st = 0 ∧ (n + ys.length) * (tyOf P T.elem).bytes ≤ 140737488355328 ∧ n + ys.length ≤ 140737488355328 ∧ (match σ o with
        | some (.arr e rows) => e = T.elem ∧ n ≤ rows.length ∧ (if ys = [] then k x σ else k (.ms nu (tyOf P T.elem).size 0 (n + ys.length)) ((σ.drop o).put nu (.arr T.elem (rows.take n ++ ys))))
        | _ => False)
      | .sl kd xs => rowsOk (tyOf P T.elem).size xs = true ∧ (xs.length + ys.length) * (tyOf P T.elem).bytes ≤ 140737488355328 ∧ xs.length + ys.length ≤ 140737488355328 ∧
        (if ys = [] then k x σ else if mu = true then (kd.fresh = true ∧ k (.ms nu (tyOf P T.elem).size 0 (xs.length + ys.length)) (σ.put nu (.arr T.elem (xs ++ ys)))) else
          match kd with
          | .nil => k (.sl (.tip nu) ys) (σ.put nu (.tip ys.length T.elem (tyOf P T.elem).size))
          | .full => k (.sl (.tip nu) (xs ++ ys)) (σ.put nu (.tip (xs ++ ys).length T.elem (tyOf P T.elem).size))
          | .tip o => σ o = some (.tip xs.length T.elem (tyOf P T.elem).size) ∧ k (.sl (.tip o) (xs ++ ys)) (σ.put o (.tip (xs ++ ys).length T.elem (tyOf P T.elem).size))
          | .imm => False)
      | _ => False)
    | _ => False)

theorem appendA_N {P : Program} {T : Ty} {mu : Bool} {σ : Store} {x y : AV} {k : KK} (h : appendA P T mu σ x y k) {nu : Nat} (hn : σ nu = none) : appendN P T mu σ x y nu k := by
  unfold appendA at h
  unfold appendN
  obtain ⟨h1, h2, h3, h4, h⟩ := h
  refine ⟨h1, h2, h3, h4, ?_⟩
  split at h
  · obtain ⟨h5, h⟩ := h
    refine ⟨h5, ?_⟩
    split at h
    · obtain ⟨h6, h7, h8, h9, h⟩ := h
      refine ⟨h6, h7, h8, h9, ?_⟩
      split at h
      · rename_i rows hr
        refine ⟨h.1, h.2.1, ?_⟩
        have h := h.2.2
        split at h
        · rename_i q; rw [if_pos q]; exact h
        · rename_i q; rw [if_neg q]; exact h nu hn
      · exact h.elim
    · obtain ⟨h6, h7, h8, h⟩ := h
      refine ⟨h6, h7, h8, ?_⟩
      split at h
      · rename_i q; rw [if_pos q]; exact h
      · rename_i q
        rw [if_neg q]
        split at h
        · rename_i q2; rw [if_pos q2]; exact ⟨h.1, h.2 nu hn⟩
        · rename_i q2
          rw [if_neg q2]
          split at h
          · exact h nu hn
          · exact h nu hn
          · exact h
          · exact h
    · exact h.elim
  · exact h.elim

def nilCheckA (x : AV) (k : AV → Prop) : Prop :=
  match x with
  | .ip .. => k x
  | .ptr .. => k x
  | .fn .. => k x
  | _ => False
end Go.Kern
