/- From a contract of the abstract layer to a row's statement: what is handed in is read as immutable memory. Conditions: none. -/
import Derived.Test.YtaealcimocpnnaaGreatKnO
import Derived.ChangeArms
import Derived.ChangeSame
import Derived.Carry
import Derived.OpenShut
set_option linter.unusedVariables false
namespace Go.Kern
open Go.RowKit Go.ChangeShapes

/-- The shape of a type: what its cells may be. A struct is a row of fields. -/
inductive Sh where
  | int (k : IntKind)
  | bool
  | str
  | sl (e : Sh) (ag : Bool)
  | nil
  | cons (f r : Sh)

def Sh.size : Sh → Nat
  | .int _ | .bool | .str | .sl _ _ => 1
  | .nil => 0
  | .cons f r => f.size + r.size
def Sh.isAgg : Sh → Bool
  | .nil | .cons _ _ => true
  | _ => false

def wrapV (ag : Bool) (l : List AV) : AV :=
  match ag with
  | true => .agg l
  | false => l.headD .any

def Sh.ok : Sh → List AV → Prop
  | .int k, l => ∃ n, l = [.int k n] ∧ (Lit.int k n).wf = true
  | .bool, l => ∃ b, l = [.bool b]
  | .str, l => ∃ s : ByteArray, l = [.str s] ∧ s.size ≤ maxLen
  | .sl e ag, l => ∃ (kd : SK) (ys : List (List AV)), l = [.sl kd (ys.map (wrapV ag))] ∧ ys.length ≤ maxLen ∧ ∀ y, y ∈ ys → e.ok y
  | .nil, l => l = []
  | .cons f r, l => ∃ a b, l = a ++ b ∧ f.ok a ∧ r.ok b

def Sh.chk (P : Program) : Sh → (TypeId → Bool) × (List Field → Nat → Bool)
  | .int k => (fun t => match P.underlying t with | some (.int q) => decide (q = k) | _ => false, fun _ _ => false)
  | .bool => (fun t => match P.underlying t with | some .bool => true | _ => false, fun _ _ => false)
  | .str => (fun t => match P.underlying t with | some .string => true | _ => false, fun _ _ => false)
  | .sl e ag => (fun t => match P.underlying t with
      | some (.slice et) => decide (P.cellsOf et = e.size) && decide (0 < e.size) && decide (e.isAgg = ag) && (e.chk P).1 et
      | _ => false, fun _ _ => false)
  | .nil => (fun t => match P.underlying t with | some (.struct fs) => fs.toList.isEmpty && decide (P.cellsOf t = 0) | _ => false, fun l _ => l.isEmpty)
  | .cons f r =>
    let F : List Field → Nat → Bool := fun l off => match l with
      | [] => false
      | fd :: l => decide (fd.offset = off) && decide (P.cellsOf fd.type = f.size) && (f.chk P).1 fd.type && (r.chk P).2 l (off + f.size)
    (fun t => match P.underlying t with | some (.struct fs) => decide (P.cellsOf t = f.size + r.size) && F fs.toList 0 | _ => false, F)

theorem Sh.ok_size : ∀ (s : Sh) {l : List AV}, s.ok l → l.length = s.size
  | .int k, l, ⟨n, h, _⟩ => by rw [h]; rfl
  | .bool, l, ⟨n, h⟩ => by rw [h]; rfl
  | .str, l, ⟨n, h, _⟩ => by rw [h]; rfl
  | .sl e ag, l, ⟨kd, ys, h, _⟩ => by rw [h]; rfl
  | .nil, l, h => by rw [show l = [] from h]; rfl
  | .cons f r, l, ⟨a, b, h, ha, hb⟩ => by rw [h, List.length_append, f.ok_size ha, r.ok_size hb]; rfl

theorem wrap_cells {e : Sh} {ag : Bool} (h : e.isAgg = ag) {y : List AV} (hy : e.ok y) : (wrapV ag y).cells = y := by
  subst h
  cases e with
  | int k => obtain ⟨n, rfl, _⟩ := hy; rfl
  | bool => obtain ⟨n, rfl⟩ := hy; rfl
  | str => obtain ⟨n, rfl, _⟩ := hy; rfl
  | sl e ag => obtain ⟨kd, ys, rfl, _⟩ := hy; rfl
  | nil => rfl
  | cons f r => rfl

/-- All that is there is kept as it is. -/
def gh0 (W : World) : Gh := { w0 := W, imm := fun b o => W.cell? ⟨b, o, none⟩, loc := fun _ => none, tipv := fun _ _ => none, res := fun _ => False }
def st0 : Store := fun _ => none
theorem conc0 (W : World) : Conc (gh0 W) W st0 where
  below := Below.refl _ _
  imm b o v h := h
  loc o b sz n h := by cases h
  fresh := ⟨0, fun o _ => ⟨rfl, fun _ => rfl, rfl, id⟩⟩
  res o h := h.elim
  obj := ⟨fun _ => 0, ⟨nofun, nofun⟩⟩

def RC (W : World) (l : List AV) (cs : List Value) : Prop := l.length = cs.length ∧ ∀ (i : Nat) (c : AV) (v : Value), l[i]? = some c → cs[i]? = some v → R (gh0 W) c v
theorem RC.one {W : World} {c : AV} {v : Value} (h : R (gh0 W) c v) : RC W [c] [v] := ⟨rfl, fun i x u hx hu => by
  cases i with
  | zero => simp at hx hu; subst hx; subst hu; exact h
  | succ i => simp at hx⟩
theorem RC.append {W : World} {l m : List AV} {cs ds : List Value} (h : RC W l cs) (k : RC W m ds) : RC W (l ++ m) (cs ++ ds) := by
  refine ⟨by rw [List.length_append, List.length_append, h.1, k.1], fun i c v hc hv => ?_⟩
  rw [List.getElem?_append] at hc hv
  rw [h.1] at hc
  split at hc
  · rename_i hi
    rw [if_pos hi] at hv
    exact h.2 i c v hc hv
  · rename_i hi
    rw [if_neg hi] at hv
    exact k.2 _ c v hc hv

section
variable {H : Type} {enc : TypeId × Value → H} {P : Program} {W : World} {held : Bool} {sp : Nat → Bool}

theorem sl_read {e : Sh} {ag : Bool} (hag : e.isAgg = ag) (h0 : 0 < e.size) {a : Addr} {len cap : Nat} (hl : len ≤ cap)
    (f : Nat → List AV) (c : Nat → List Value) (hf : ∀ i, i < len → e.ok (f i) ∧ RC W (f i) (c i) ∧ W.cells? 0 (a.add (i * e.size)) e.size = some (c i)) :
    R (gh0 W) (.sl .imm (((List.range len).map f).map (wrapV ag))) (.slice (some a) len cap) := by
  have hcell : ∀ i, i < len → ∀ j, j < e.size → a.spot = none ∧ W.cell? ⟨a.block, a.off + (i * e.size + j), none⟩ = (c i)[j]? := fun i hi j hj => by
    obtain ⟨_, h2, h3⟩ := World.cells?_some (hf i hi).2.2
    have h4 := h3 j hj
    have hsp : a.spot = none := by
      obtain ⟨_, k2, k3⟩ := World.cells?_some (hf 0 (by omega)).2.2
      have k4 := k3 0 h0
      rw [List.getElem?_eq_getElem (by omega)] at k4
      have := World.cell?_spot k4
      simpa [Addr.add] using this
    refine ⟨hsp, ?_⟩
    rw [add_spot hsp, add_spot rfl] at h4
    rw [← h4]
    simp only [Nat.add_assoc]
  have hxs : ((List.range len).map f).map (wrapV ag) = (List.range len).map fun i => wrapV ag (f i) := by simp
  have hlen : (((List.range len).map f).map (wrapV ag)).length = len := by simp
  have hu : ∀ x, x ∈ ((List.range len).map f).map (wrapV ag) → x.cells.length = e.size := by
    intro x hx
    rw [hxs] at hx
    obtain ⟨i, hi, rfl⟩ := List.mem_map.1 hx
    rw [wrap_cells hag (hf i (List.mem_range.1 hi)).1]
    exact e.ok_size (hf i (List.mem_range.1 hi)).1
  have hcl := cellsL_length (((List.range len).map f).map (wrapV ag)) hu
  rw [hlen] at hcl
  have key : ∀ k, k < len * e.size → ∃ i j, i < len ∧ j < e.size ∧ k = i * e.size + j ∧ (cellsL (((List.range len).map f).map (wrapV ag)))[k]? = (f i)[j]? := fun k hk => by
    have hi : k / e.size < len := (Nat.div_lt_iff_lt_mul h0).2 hk
    refine ⟨k / e.size, k % e.size, hi, Nat.mod_lt _ h0, by rw [Nat.mul_comm]; exact (Nat.div_add_mod _ _).symm, ?_⟩
    rw [cellsL_get h0 _ hu, hxs, List.getElem?_map, List.getElem?_range hi]
    simp only [Option.map_some, Option.bind_some]
    rw [wrap_cells hag (hf _ hi).1]
  have hr := R.sl (g := gh0 W) (k := .imm) (xs := ((List.range len).map f).map (wrapV ag)) (a := a) (cap := cap) (sz := e.size) (vs := fun k => (W.cell? ⟨a.block, a.off + k, none⟩).getD undef)
    (by rw [hlen]; exact hl)
    (fun hne => by
      cases len with
      | zero => exact absurd rfl hne
      | succ n => exact (hcell 0 (by omega) 0 h0).1)
    hu
    (fun k hk => by
      rw [hcl] at hk
      obtain ⟨i, j, hi, hj, rfl, _⟩ := key k hk
      have h2 := (hcell i hi j hj).2
      have hlt : j < (c i).length := by have := (World.cells?_some (hf i hi).2.2).2.1; omega
      show W.cell? _ = some _
      rw [h2, List.getElem?_eq_getElem hlt]; rfl)
    (fun k x hx => by
      have hk : k < len * e.size := by
        have := (List.getElem?_eq_some_iff.1 hx).1
        omega
      obtain ⟨i, j, hi, hj, rfl, he⟩ := key k hk
      rw [he] at hx
      have hlt : j < (c i).length := by have := (World.cells?_some (hf i hi).2.2).2.1; omega
      have h2 := (hcell i hi j hj).2
      simp only [h2, List.getElem?_eq_getElem hlt, Option.getD_some]
      exact (hf i hi).2.1.2 j x _ hx (List.getElem?_eq_getElem hlt))
  rw [hlen] at hr
  exact hr

theorem Sh.read : ∀ (s : Sh),
    (∀ (t : TypeId) (fuel : Nat) (cs : List Value) (x : DataW H × List MemPlace), (s.chk P).1 t = true → DataW.trod enc P W 0 sp held fuel t cs = some x → ∃ l, s.ok l ∧ RC W l cs) ∧
    (∀ (fl : List Field) (off n : Nat) (cs : List Value), (s.chk P).2 fl off = true → off + s.size = cs.length →
      (∀ f, f ∈ fl → ∃ x, DataW.trod enc P W 0 sp held n f.type ((cs.drop f.offset).take (P.cellsOf f.type)) = some x) → ∃ l, s.ok l ∧ RC W l (cs.drop off))
  | .int k => by
    refine ⟨?_, ?_⟩
    · intro t fuel cs x hc h
      simp only [Sh.chk] at hc
      split at hc
      · rename_i q hq
        obtain rfl := of_decide_eq_true hc
        obtain ⟨n, rfl, _, hw⟩ := DataW.trod_int hq h
        exact ⟨_, ⟨n, rfl, hw⟩, .one (.int _ _)⟩
      · cases hc
    · intro fl off n cs hc
      simp [Sh.chk] at hc
  | .bool => by
    refine ⟨?_, ?_⟩
    · intro t fuel cs x hc h
      simp only [Sh.chk] at hc
      split at hc
      · rename_i hq
        obtain ⟨n, rfl, _⟩ := DataW.trod_bool hq h
        exact ⟨_, ⟨n, rfl⟩, .one (.bool _)⟩
      · cases hc
    · intro fl off n cs hc
      simp [Sh.chk] at hc
  | .str => by
    refine ⟨?_, ?_⟩
    · intro t fuel cs x hc h
      simp only [Sh.chk] at hc
      split at hc
      · rename_i hq
        obtain ⟨n, rfl, _, hw⟩ := DataW.trod_string hq h
        exact ⟨_, ⟨n, rfl, hw⟩, .one (.str _)⟩
      · cases hc
    · intro fl off n cs hc
      simp [Sh.chk] at hc
  | .sl e ag => by
    refine ⟨?_, ?_⟩
    · intro t fuel cs x hc h
      simp only [Sh.chk] at hc
      split at hc
      · rename_i et hq
        simp only [Bool.and_eq_true, decide_eq_true_eq] at hc
        obtain ⟨⟨⟨hsz, h0⟩, hag⟩, hce⟩ := hc
        rcases DataW.trod_slice hq h with ⟨rfl, _⟩ | ⟨a, len, cap, elems, rest, n, _, rfl, _, _, hlc, hcm, hel, hi, _⟩
        · exact ⟨[.sl .nil []], ⟨.nil, [], rfl, by simp, fun y hy => by cases hy⟩, .one .slnil⟩
        · have hex : ∀ i, ∃ (l : List AV) (c : List Value), i < len → e.ok l ∧ RC W l c ∧ W.cells? 0 (a.add (i * e.size)) e.size = some c := fun i => by
            by_cases hlt : i < len
            · have h1 := hi i hlt
              rw [List.getElem?_eq_getElem (by omega)] at h1
              rw [hsz] at h1
              cases hcs : W.cells? 0 (a.add (i * e.size)) e.size with
              | none => rw [hcs] at h1; cases h1
              | some c =>
                rw [hcs] at h1
                obtain ⟨l, h2, h3⟩ := (Sh.read e).1 et n c _ hce h1
                exact ⟨l, c, fun _ => ⟨h2, h3, rfl⟩⟩
            · exact ⟨[], [], fun h => absurd h hlt⟩
          have f := fun i => (hex i).choose
          refine ⟨[.sl .imm (((List.range len).map fun i => (hex i).choose).map (wrapV ag))], ⟨.imm, (List.range len).map fun i => (hex i).choose, rfl, by simp; omega, fun y hy => ?_⟩, .one ?_⟩
          · obtain ⟨i, hi', rfl⟩ := List.mem_map.1 hy
            exact ((hex i).choose_spec.choose_spec (List.mem_range.1 hi')).1
          · exact sl_read hag h0 hlc (fun i => (hex i).choose) (fun i => (hex i).choose_spec.choose) fun i hi' => (hex i).choose_spec.choose_spec hi'
      · cases hc
    · intro fl off n cs hc
      simp [Sh.chk] at hc
  | .nil => by
    refine ⟨?_, ?_⟩
    · intro t fuel cs x hc h
      simp only [Sh.chk] at hc
      split at hc
      · rename_i fs hq
        simp only [Bool.and_eq_true, decide_eq_true_eq] at hc
        obtain ⟨xs, n, _, _, hl, _⟩ := DataW.trod_struct hq h
        have : cs = [] := List.eq_nil_of_length_eq_zero (by omega)
        subst this
        exact ⟨[], rfl, rfl, fun i c v hc => by simp at hc⟩
      · cases hc
    · intro fl off n cs hc hl _
      have : cs.drop off = [] := List.drop_eq_nil_of_le (by simp only [Sh.size] at hl; omega)
      exact ⟨[], rfl, by rw [this]; exact ⟨rfl, fun i c v hc => by simp at hc⟩⟩
  | .cons f r => by
    have hF : ∀ (fl : List Field) (off n : Nat) (cs : List Value), ((Sh.cons f r).chk P).2 fl off = true → off + (f.size + r.size) = cs.length →
        (∀ f, f ∈ fl → ∃ x, DataW.trod enc P W 0 sp held n f.type ((cs.drop f.offset).take (P.cellsOf f.type)) = some x) → ∃ l, (Sh.cons f r).ok l ∧ RC W l (cs.drop off) := by
      intro fl off n cs hc hl hx
      simp only [Sh.chk] at hc
      cases fl with
      | nil => cases hc
      | cons fd fl =>
        simp only [Bool.and_eq_true, decide_eq_true_eq] at hc
        obtain ⟨⟨⟨ho, hs⟩, hcf⟩, hcr⟩ := hc
        obtain ⟨x, hx0⟩ := hx fd List.mem_cons_self
        obtain ⟨a, ha, hra⟩ := (Sh.read f).1 _ _ _ _ hcf hx0
        obtain ⟨b, hb, hrb⟩ := (Sh.read r).2 fl (off + f.size) n cs hcr (by omega) fun fd' hf' => hx fd' (List.mem_cons_of_mem _ hf')
        refine ⟨a ++ b, ⟨a, b, rfl, ha, hb⟩, ?_⟩
        have e : cs.drop off = (cs.drop off).take f.size ++ cs.drop (off + f.size) := by
          rw [← List.drop_drop, List.take_append_drop]
        rw [e]
        rw [ho, hs] at hra
        exact hra.append hrb
    refine ⟨fun t fuel cs x hc h => ?_, hF⟩
    simp only [Sh.chk] at hc
    split at hc
    · rename_i fs hq
      rw [Bool.and_eq_true, decide_eq_true_eq] at hc
      obtain ⟨xs, n, _, _, hl, hlen, hi⟩ := DataW.trod_struct hq h
      have := hF fs.toList 0 n cs hc.2 (by omega) fun fd hfd => by
        obtain ⟨i, hi', rfl⟩ := List.getElem_of_mem hfd
        have hi2 : i < fs.size := by simpa using hi'
        have := hi i fs[i] (by simp [hi2])
        exact ⟨xs[i]'(by omega), by simpa [List.getElem?_eq_getElem (show i < xs.length by omega)] using this⟩
      simpa using this
    · cases hc
end
end Go.Kern
