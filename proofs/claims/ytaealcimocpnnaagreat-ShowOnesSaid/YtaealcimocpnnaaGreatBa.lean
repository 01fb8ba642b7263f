/- Configurations as they lie in memory; plain functions over lists. Conditions: none. -/
import Derived.Test.YtaealcimocpnnaaGreatTy
set_option linter.unusedVariables false
set_option linter.unusedSimpArgs false
namespace Go.Proofs.YtaealcimocpnnaaGreat
open Go.Kern

def encL {α : Type} (E : α → AV) (l : List α) : List AV := l.map E
theorem length_encL {α : Type} (E : α → AV) (l : List α) : (encL E l).length = l.length := by simp [encL]
theorem getD_encL {α : Type} [Inhabited α] (E : α → AV) {l : List α} {i : Nat} (h : i < l.length) : (encL E l).getD i .any = E (l.getD i default) := getD_map E default h
theorem take_encL {α : Type} (E : α → AV) (l : List α) (i : Nat) : (encL E l).take i = encL E (l.take i) := by simp [encL, List.map_take]
theorem drop_encL {α : Type} (E : α → AV) (l : List α) (i : Nat) : (encL E l).drop i = encL E (l.drop i) := by simp [encL, List.map_drop]
theorem app_encL {α : Type} (E : α → AV) (a b : List α) : encL E a ++ encL E b = encL E (a ++ b) := by simp [encL]
theorem nil_encL {α : Type} (E : α → AV) (l : List α) : (encL E l = []) = (l = []) := by simp [encL]
theorem ok_encL {α : Type} (n : Nat) (E : α → AV) (h : ∀ x, rowOk n (E x) = true) (l : List α) : rowsOk n (encL E l) = true := rowsOk_map n E h l
theorem getD_intsD {l : List Int} {i : Nat} (h : i < l.length) : (ints l).getD i .any = .int .i64 (l.getD i default) := getD_ints h

structure Pfx where
  a : Int
  b : Int
instance : Inhabited Pfx := ⟨⟨0, 0⟩⟩
structure Rng where
  p : Pfx
  ge : Int
  le : Int
  permit : Bool
instance : Inhabited Rng := ⟨⟨default, 0, 0, false⟩⟩
structure Com where
  asn : Int
  n : Int
instance : Inhabited Com := ⟨⟨0, 0⟩⟩
structure Mat where
  list : ByteArray
  path : ByteArray
  c : Com
instance : Inhabited Mat := ⟨⟨.empty, .empty, default⟩⟩
structure Chg where
  pref : Int
  med : Int
  origin : Int
  kA : SK
  add : List Com
  kD : SK
  del : List Com
  clear : Bool
  kP : SK
  pre : List Int
instance : Inhabited Chg := ⟨⟨0, 0, 0, .nil, [], .nil, [], false, .nil, []⟩⟩
structure Cls where
  n : Int
  permit : Bool
  m : Mat
  s : Chg
instance : Inhabited Cls := ⟨⟨0, false, default, default⟩⟩
structure MapD where
  name : ByteArray
  k : SK
  l : List Cls
instance : Inhabited MapD := ⟨⟨.empty, .nil, []⟩⟩
structure LstD where
  name : ByteArray
  k : SK
  l : List Rng
instance : Inhabited LstD := ⟨⟨.empty, .nil, []⟩⟩
structure Nbr where
  name : ByteArray
  imp : ByteArray
  exp : ByteArray
  client : Bool
instance : Inhabited Nbr := ⟨⟨.empty, .empty, .empty, false⟩⟩
structure Lnk where
  name : ByteArray
  cost : Int
instance : Inhabited Lnk := ⟨⟨.empty, 0⟩⟩
structure Rtr where
  name : ByteArray
  asn : Int
  id : Int
  kN : SK
  nets : List Pfx
  kB : SK
  nbrs : List Nbr
  kL : SK
  links : List Lnk
instance : Inhabited Rtr := ⟨⟨.empty, 0, 0, .nil, [], .nil, [], .nil, []⟩⟩
structure Cfg where
  kL : SK
  lists : List LstD
  kM : SK
  maps : List MapD
  kR : SK
  routers : List Rtr

def ePfx (x : Pfx) : AV := .agg [.int .u32 x.a, .int .i64 x.b]
def eRng (x : Rng) : AV := .agg [.int .u32 x.p.a, .int .i64 x.p.b, .int .i64 x.ge, .int .i64 x.le, .bool x.permit]
def eCom (x : Com) : AV := .agg [.int .i64 x.asn, .int .i64 x.n]
def eMat (x : Mat) : AV := .agg [.str x.list, .str x.path, .int .i64 x.c.asn, .int .i64 x.c.n]
def eChg (x : Chg) : AV := .agg [.int .i64 x.pref, .int .i64 x.med, .int .i64 x.origin, .sl x.kA (encL eCom x.add), .sl x.kD (encL eCom x.del), .bool x.clear, .sl x.kP (ints x.pre)]
def eCls (x : Cls) : AV := .agg [.int .i64 x.n, .bool x.permit, .str x.m.list, .str x.m.path, .int .i64 x.m.c.asn, .int .i64 x.m.c.n,
  .int .i64 x.s.pref, .int .i64 x.s.med, .int .i64 x.s.origin, .sl x.s.kA (encL eCom x.s.add), .sl x.s.kD (encL eCom x.s.del), .bool x.s.clear, .sl x.s.kP (ints x.s.pre)]
def eMap (x : MapD) : AV := .agg [.str x.name, .sl x.k (encL eCls x.l)]
def eLst (x : LstD) : AV := .agg [.str x.name, .sl x.k (encL eRng x.l)]
def eNbr (x : Nbr) : AV := .agg [.str x.name, .str x.imp, .str x.exp, .bool x.client]
def eLnk (x : Lnk) : AV := .agg [.str x.name, .int .i64 x.cost]
def eRtr (x : Rtr) : AV := .agg [.str x.name, .int .i64 x.asn, .int .i64 x.id, .sl x.kN (encL ePfx x.nets), .sl x.kB (encL eNbr x.nbrs), .sl x.kL (encL eLnk x.links)]
def eCfg (x : Cfg) : AV := .agg [.sl x.kL (encL eLst x.lists), .sl x.kM (encL eMap x.maps), .sl x.kR (encL eRtr x.routers)]
def eI (n : Int) : AV := .int .i64 n
def eB (b : UInt8) : AV := .int .u8 b.toNat

theorem unB_enc (l : List UInt8) : unB (encL eB l) = some ⟨l.toArray⟩ := unB_list l
/-- The first place of which a test with a memory says yes; what the memory is then. -/
def idxS {α τ : Type} (step : τ → α → Bool × τ) : τ → Int → List α → Int × τ
  | st, _, [] => (-1, st)
  | st, i, x :: l => if (step st x).1 = true then (i, (step st x).2) else idxS step (step st x).2 (i + 1) l
theorem idxS_drop {α τ : Type} [Inhabited α] (step : τ → α → Bool × τ) (st : τ) (l : List α) (i : Nat) (h : i < l.length) (k : Int) : idxS step st k (l.drop i) = if (step st (l.getD i default)).1 = true then (k, (step st (l.getD i default)).2) else idxS step (step st (l.getD i default)).2 (k + 1) (l.drop (i + 1)) := by
  rw [List.drop_eq_getElem_cons h, idxS]
  simp [List.getD_eq_getElem?_getD, h]
/-- Does the test say yes of one? -/
def anyS {α τ : Type} (step : τ → α → Bool × τ) : τ → List α → Bool × τ
  | st, [] => (false, st)
  | st, x :: l => if (step st x).1 = true then (true, (step st x).2) else anyS step (step st x).2 l
theorem idxS_any {α τ : Type} (step : τ → α → Bool × τ) : ∀ (l : List α) (st : τ) (k : Int), 0 ≤ k → (decide (0 ≤ (idxS step st k l).1), (idxS step st k l).2) = anyS step st l
  | [], st, k, _ => rfl
  | x :: l, st, k, h => by
    have ih := idxS_any step l (step st x).2 (k + 1) (by omega)
    by_cases hx : (step st x).1 = true
    · simp only [idxS, anyS, hx, if_true, h, decide_true]
    · simp only [idxS, anyS, hx, if_false]; exact ih
theorem anyS_pure {α : Type} (q : α → Bool) : ∀ l : List α, (anyS (fun (_ : Unit) x => (q x, ())) () l).1 = l.any q
  | [] => rfl
  | x :: l => by
    simp only [anyS, List.any_cons]
    by_cases hx : q x = true
    · rw [if_pos hx, hx]; rfl
    · rw [if_neg hx, anyS_pure q l]; simp [hx]
/-- All of at most so many are such. -/
def eachS {α τ : Type} (most : Int) (step : τ → α → Bool × τ) (st : τ) (l : List α) : Bool × τ :=
  if (l.length : Int) ≤ most then (!(anyS (fun st x => (!(step st x).1, (step st x).2)) st l).1, (anyS (fun st x => (!(step st x).1, (step st x).2)) st l).2) else (false, st)
def eachP {α : Type} (most : Int) (q : α → Bool) (l : List α) : Bool := decide ((l.length : Int) ≤ most) && l.all q
theorem eachS_pure {α : Type} (most : Int) (q : α → Bool) (l : List α) : (eachS most (fun (_ : Unit) x => (q x, ())) () l).1 = eachP most q l := by
  unfold eachS eachP
  split
  · rename_i h
    simp only [anyS_pure (fun x => !q x) l, decide_eq_true h, Bool.true_and]
    rw [List.all_eq_not_any_not]
  · rename_i h
    simp [h]

/-- A string's bytes. -/
def B (s : ByteArray) : List UInt8 := s.data.toList
theorem bytesA_enc (s : ByteArray) : bytesA s = encL eB (B s) := rfl
theorem length_B (s : ByteArray) : (B s).length = s.size := by simp [B]
theorem at_B (s : ByteArray) (i : Nat) : s.data.getD i 0 = (B s).getD i default := by
  simp [B, List.getD_eq_getElem?_getD, Array.getD_eq_getD_getElem?]; rfl
theorem B_inj {s t : ByteArray} : B s = B t ↔ s = t := by
  constructor
  · intro h
    cases s; cases t
    simp only [B] at h
    congr 1
    exact Array.toList_inj.1 h
  · rintro rfl; rfl
theorem all_drop {α : Type} [Inhabited α] (q : α → Bool) {l : List α} {i : Nat} (h : i < l.length) : (l.drop i).all q = (q (l.getD i default) && (l.drop (i + 1)).all q) := by
  rw [List.drop_eq_getElem_cons h, List.all_cons]
  simp [List.getD_eq_getElem?_getD, h]
theorem any_drop {α : Type} [Inhabited α] (q : α → Bool) {l : List α} {i : Nat} (h : i < l.length) : (l.drop i).any q = (q (l.getD i default) || (l.drop (i + 1)).any q) := by
  rw [List.drop_eq_getElem_cons h, List.any_cons]
  simp [List.getD_eq_getElem?_getD, h]

attribute [go_sem] at_B bytesA_enc unB_enc ePfx eRng eCom eMat eChg eCls eMap eLst eNbr eLnk eRtr eCfg eI eB length_encL getD_encL getD_intsD dltT dltF dleT dleF deqT deqF pltT pleT nltT nleT wrI Int.toNat_natCast
end Go.Proofs.YtaealcimocpnnaaGreat
