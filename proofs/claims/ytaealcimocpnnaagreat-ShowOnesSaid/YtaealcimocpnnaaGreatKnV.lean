/- The abstract layer: operations on bytes and strings, on memory by address, min and max. Conditions: none. -/
import Derived.Test.YtaealcimocpnnaaGreatKnK
import Derived.Lib.Builder
import Derived.Lib.UnsafeStr
import Derived.Laws.IdiomStrings
set_option linter.unusedVariables false
set_option linter.unusedSimpArgs false
namespace Go.Kern
open Go.RowKit

/-- A string's bytes. -/
def bytesA (s : ByteArray) : List AV := s.data.toList.map fun b => .int .u8 b.toNat
theorem length_bytesA (s : ByteArray) : (bytesA s).length = s.size := by simp [bytesA]
/-- The string of bytes. -/
def unB : List AV → Option ByteArray
  | [] => some .empty
  | .int .u8 n :: l => (unB l).map fun s => ⟨#[UInt8.ofNat n.toNat] ++ s.data⟩
  | _ :: _ => none
theorem unB_spec : ∀ {l : List AV} {s : ByteArray}, unB l = some s → ∃ ns : List Int, l = ns.map (AV.int .u8) ∧ s = ⟨(ns.map fun n => UInt8.ofNat n.toNat).toArray⟩
  | [], s, h => by simp [unB] at h; subst h; exact ⟨[], rfl, rfl⟩
  | .int .u8 n :: l, s, h => by
    simp only [unB, Option.map_eq_some_iff] at h
    obtain ⟨t, h1, rfl⟩ := h
    obtain ⟨ns, rfl, rfl⟩ := unB_spec h1
    exact ⟨n :: ns, rfl, by simp⟩
  | .int .i8 _ :: _, _, h => by simp [unB] at h
  | .int .i16 _ :: _, _, h => by simp [unB] at h
  | .int .i32 _ :: _, _, h => by simp [unB] at h
  | .int .i64 _ :: _, _, h => by simp [unB] at h
  | .int .u16 _ :: _, _, h => by simp [unB] at h
  | .int .u32 _ :: _, _, h => by simp [unB] at h
  | .int .u64 _ :: _, _, h => by simp [unB] at h
  | .any :: _, _, h => by simp [unB] at h
  | .bool _ :: _, _, h => by simp [unB] at h
  | .str _ :: _, _, h => by simp [unB] at h
  | .agg _ :: _, _, h => by simp [unB] at h
  | .tup _ :: _, _, h => by simp [unB] at h
  | .sl _ _ :: _, _, h => by simp [unB] at h
  | .nilp :: _, _, h => by simp [unB] at h
  | .ip _ _ :: _, _, h => by simp [unB] at h
  | .ptr _ _ _ :: _, _, h => by simp [unB] at h
  | .ms _ _ _ _ :: _, _, h => by simp [unB] at h
  | .map _ :: _, _, h => by simp [unB] at h
  | .nilmap :: _, _, h => by simp [unB] at h
  | .fn _ _ :: _, _, h => by simp [unB] at h
  | .nilfn :: _, _, h => by simp [unB] at h
  | .ifc _ _ :: _, _, h => by simp [unB] at h
  | .nilifc :: _, _, h => by simp [unB] at h
theorem unB_list : ∀ l : List UInt8, unB (l.map fun b => AV.int .u8 b.toNat) = some ⟨l.toArray⟩
  | [] => rfl
  | b :: l => by
    simp only [List.map_cons, unB, unB_list l, Option.map_some]
    congr 1
    simp
theorem unB_bytesA (s : ByteArray) : unB (bytesA s) = some s := by
  have := unB_list s.data.toList
  simpa [bytesA] using this
theorem rowsOk_bytesA (s : ByteArray) : rowsOk 1 (bytesA s) = true := by
  unfold bytesA
  induction s.data.toList with
  | nil => rfl
  | cons b l ih => simp only [List.map_cons, rowsOk, List.all_cons] at ih ⊢; rw [ih]; rfl

/-- append(x, s...) -/
def appendS (P : Program) (T U : Ty) (σ : Store) (x : AV) (s : ByteArray) (k : KK) : Prop :=
  T.kind = .slice ∧ U.kind = .str ∧ (tyOf P T.elem).ok = true ∧ zeroFits (tyOf P T.elem) = true ∧ (tyOf P T.elem).size = 1 ∧ (tyOf P T.elem).bytes = 1 ∧ (match x with
    | .ms o sz st n => sz = 1 ∧ st = 0 ∧ n + s.size ≤ 140737488355328 ∧ (match σ o with
      | some (.arr e rows) => e = T.elem ∧ n ≤ rows.length ∧ (if s.size = 0 then k x σ else ∀ o', σ o' = none → k (.ms o' 1 0 (n + s.size)) ((σ.drop o).put o' (.arr T.elem (rows.take n ++ bytesA s))))
      | _ => False)
    | .sl .nil [] => s.size ≤ 140737488355328 ∧ (if s.size = 0 then k x σ else ∀ o', σ o' = none → k (.ms o' 1 0 s.size) (σ.put o' (.arr T.elem (bytesA s))))
    | _ => False)

theorem bytes_R (g : Gh) (s : ByteArray) : (byteCells s).length = (cellsL (bytesA s)).length ∧ ∀ (i : Nat) (c : AV) (u : Value), (cellsL (bytesA s))[i]? = some c → (byteCells s)[i]? = some u → R g c u := by
  have e : cellsL (bytesA s) = bytesA s := by
    unfold bytesA
    induction s.data.toList with
    | nil => rfl
    | cons b l ih => simp only [cellsL, List.map_cons, List.flatMap_cons] at ih ⊢; rw [ih]; rfl
  rw [e]
  refine ⟨by simp [byteCells, bytesA], fun i c u h1 h2 => ?_⟩
  simp only [bytesA, byteCells, List.getElem?_map] at h1 h2
  cases hb : s.data.toList[i]? with
  | none => rw [hb] at h1; cases h1
  | some b =>
    rw [hb] at h1 h2
    simp only [Option.map_some, Option.some.injEq] at h1 h2
    subst h1; subst h2
    exact .int _ _

theorem sound_appendS {P : Program} {g : Gh} {w : World} {σ : Store} (hc : Conc g w σ) {t u ty : TypeId} {x : AV} {s : ByteArray} {v : Value} (hx : R g x v) {k : KK} (hk : appendS P (tyOf P t) (tyOf P u) σ x s k) :
    ∃ r w' g' a σ', (Builtin.append_ #[t, u] ty #[v, .string s]).run P w = .ok r w' ∧ g.Le g' ∧ Conc g' w' σ' ∧ R g' a r ∧ k a σ' := by
  obtain ⟨hkind, hstr, hoe, hz, hsz1, hby1, hk⟩ := hk
  have hu := ty_slice hkind
  obtain ⟨i, d, i1, i2, i3, i4, i5, i6⟩ := zero_inv hoe
  unfold zeroFits at hz
  rw [i3, i4] at hz
  rw [i4] at hsz1
  rw [i5] at hby1
  obtain ⟨z, hz, hzs⟩ : ∃ z, i.zero = some z ∧ z.cells.size = i.size := by
    cases hzz : i.zero with
    | none => simp [hzz] at hz
    | some z =>
      simp only [hzz, Option.map_some, decide_eq_true_eq] at hz
      refine ⟨z, rfl, ?_⟩
      rw [← hz]
      cases z <;> first | rfl | (simp [ofConst, AV.cells, Value.cells]; done) | (simp only [ofConst, leafOf]; split <;> rfl)
  obtain ⟨iu, du, u1, u2, u3⟩ := ty_kind hstr (by simp)
  have hU : P.underlying u = some .string := by
    cases du <;> simp [kindOf] at u3
    exact u2
  have hsrc : Src P i.size u (.string s) (bytesA s).length (byteCells s) w := by
    rw [length_bytesA, hsz1]; exact Src.ofString w hU s
  obtain ⟨b1, b2⟩ := bytes_R g s
  have hys := rowsOk_spec (rowsOk_bytesA s)
  rw [← hsz1] at hys
  have hl := length_bytesA s
  have hnil : ∀ {A B : Prop} {c : Prop} [Decidable c], A = B → True := fun _ => trivial
  split at hk
  · rename_i o sz st n
    obtain ⟨rfl, rfl, hlen, hk⟩ := hk
    obtain ⟨o', ho', hol, hot, hor⟩ := hc.new
    split at hk
    · rename_i e rows hro
      obtain ⟨rfl, hnr, hk⟩ := hk
      rw [← hsz1] at hx hk
      refine append_ms (k := k) hc hu i1 hz hzs (by omega) hx hsrc b1 b2 hys (by rw [hl, hby1]; omega) (by rw [hl]; exact hlen) hro ho' hol hot hor ⟨hnr, ?_⟩
      by_cases h0 : s.size = 0
      · rw [if_pos h0] at hk
        rw [if_pos (List.eq_nil_of_length_eq_zero (hl.trans h0))]
        exact hk
      · rw [if_neg h0] at hk
        rw [if_neg (fun e => h0 (by rw [← hl, e]; rfl)), hl]
        exact hk o' ho'
    · exact hk.elim
  · obtain ⟨hlen, hk⟩ := hk
    cases hx with
    | slnil =>
      by_cases h0 : s.size = 0
      · rw [if_pos h0] at hk
        have hb0 : byteCells s = [] := List.eq_nil_of_length_eq_zero (by rw [byteCells_length]; exact h0)
        have hs0 : Src P i.size u (.string s) 0 [] w := by
          have := hsrc
          rw [hl, h0, hb0] at this
          exact this
        exact ⟨_, w, g, _, σ, run_append_zero3 hu i1 none 0 0 _ hs0 (Nat.le_refl _), .refl g, hc, .slnil, hk⟩
      · rw [if_neg h0] at hk
        obtain ⟨o', ho', hol, hot, hor⟩ := hc.new
        have hr := run_append_grow_src (P := P) w t u ty (tyOf P t).elem i z hu i1 hz none 0 0 [] (run_firstCells_none w.drew i.size 0 0 0) (.string s) s.size (byteCells s) (by have := hsrc; rw [hl] at this; exact this) (by omega) (by omega) (growslice_fits (by omega) (by rw [hby1]; omega))
        have hge := grownCap_ge w (0 + s.size) 0 (tyOf P t).elem
        obtain ⟨gc, hgc⟩ : ∃ gc, gc = grownCap w (0 + s.size) 0 (tyOf P t).elem := ⟨_, rfl⟩
        rw [← hgc] at hr hge
        rw [Nat.zero_add, List.nil_append] at hr
        obtain ⟨h1, h2⟩ := arr_new hc (e := (tyOf P t).elem) (rows := bytesA s) (cs := byteCells s) (gc := gc) (z := z.cells) hzs (fun r hr => (hys r hr).2.1) (by rw [byteCells_length, hl, hsz1]; omega) b2 (by rw [hl]; omega) ho' hol hot hor
        rw [hl] at h1 h2
        rw [hsz1] at h2
        refine ⟨_, _, _, _, _, hr, Gh.Le_addLoc _ hol, h1, ?_, hk o' ho'⟩
        rw [hsz1]
        exact h2
    | sl hk' _ _ _ _ => exact hk'.elim
  · exact hk.elim

/-- A variable of one type begins one of another. -/
def LiesIn (P : Program) (e u : TypeId) : Bool := rowAt P (fun t => sameLayout P P.depth t u) P.depth e 1 0 1
theorem rowAt_more {P : Program} {fits : TypeId → Bool} {d : Nat} {e : TypeId} (h : rowAt P fits d e 1 0 1 = true) {c : Nat} (hc : 1 ≤ c) : rowAt P fits d e c 0 1 = true := by
  cases d with
  | zero => simp [rowAt] at h
  | succ d =>
    simp only [rowAt] at h ⊢
    split at h
    · cases h
    · rename_i q
      rw [if_neg q]
      simp only [Nat.zero_div, Nat.zero_mod, Nat.zero_add, Bool.or_eq_true, Bool.and_eq_true, decide_eq_true_eq, beq_self_eq_true, Nat.le_refl, true_and, Nat.zero_lt_one] at h ⊢
      rcases h with h | h
      · exact .inl ⟨hc, h⟩
      · refine .inr ⟨hc, ?_⟩
        split at h
        · exact h
        · exact h
        · cases h
theorem LiesIn_at {P : Program} {e u : TypeId} (h : LiesIn P e u = true) {c : Nat} (hc : 1 ≤ c) : liesAt P P.depth e c 0 u 1 = true := by
  have h := rowAt_more h hc
  have hd : P.depth = (2 * (P.types.size + Made.depth) + 1) + 1 := rfl
  rw [hd]
  simp only [liesAt, Bool.or_eq_true]
  left
  exact h
/-- Conversions. -/
def convX (P : Program) (s d : TypeId) (σ : Store) (x : AV) (k : KK) : Prop :=
  match (tyOf P d).kind, x with
  | .str, .sl _ xs => (tyOf P s).kind = .slice ∧ (tyOf P (tyOf P s).elem).kind = .int .u8 ∧ (match unB xs with
    | some t => k (.str t) σ
    | none => False)
  | .slice, .str t => (tyOf P s).kind = .str ∧ (tyOf P (tyOf P d).elem).kind = .int .u8 ∧ k (.sl .imm (bytesA t)) σ
  | .uptr, .ptr o i off => (tyOf P s).kind = .ptr ∧ (tyOf P (tyOf P s).elem).ok = true ∧ (tyOf P (tyOf P s).elem).size ≠ 0 ∧ (match σ o with
    | some (.arr _ rows) => (match rows[i]? with
      | some y => off < y.cells.length ∧ k (.ptr o i off) σ
      | none => False)
    | _ => False)
  | .ptr, .ptr o i off => (tyOf P s).kind = .uptr ∧ i = 0 ∧ off = 0 ∧ (match σ o with
    | some (.arr e rows) => (e = (tyOf P d).elem ∨ LiesIn P e (tyOf P d).elem = true) ∧ (tyOf P (tyOf P d).elem).ok = true ∧ (tyOf P e).ok = true ∧ (tyOf P e).size ≠ 0 ∧ (match rows[0]? with
      | some y => y.cells.length = (tyOf P e).size ∧ k (.ptr o 0 0) σ
      | none => False)
    | _ => False)
  | _, _ => convA (tyOf P s) (tyOf P d) x fun c => k c σ

theorem liesAt_self {P : Program} {e : TypeId} (hc : P.cellsOf e ≠ 0) (count n : Nat) (hn : n ≤ count) : liesAt P P.depth e count 0 e n = true := by
  have hd : P.depth = (2 * (P.types.size + Made.depth) + 1) + 1 := rfl
  rw [hd]
  simp only [liesAt, Bool.or_eq_true]
  left
  rw [hd]
  simp [rowAt, hc, hn, sameLayout]

theorem cellsOf_ty {P : Program} {t : TypeId} (h : (tyOf P t).ok = true) : P.cellsOf t = (tyOf P t).size ∧ ∃ i, P.info? t = some i ∧ i.size = (tyOf P t).size := by
  obtain ⟨i, d, h1, h2, h3⟩ := ty_ok h
  rw [h3]
  exact ⟨by simp [Program.cellsOf, h1], i, h1, rfl⟩

theorem foldl_push : ∀ (ns : List Int) (r : ByteArray), ns.foldl (fun r n => r.push (UInt8.ofNat n.toNat)) r = ⟨r.data ++ (ns.map fun n => UInt8.ofNat n.toNat).toArray⟩
  | [], r => by simp
  | n :: l, r => by
    simp only [List.foldl_cons, List.map_cons]
    rw [foldl_push l]
    simp [ByteArray.push]

theorem cellsL_u8 : ∀ ns : List Int, cellsL (ns.map (AV.int .u8)) = ns.map (AV.int .u8)
  | [] => rfl
  | n :: l => by
    have ih := cellsL_u8 l
    simp only [cellsL, List.map_cons, List.flatMap_cons] at ih ⊢
    rw [ih]; rfl

/-- An object's block. -/
theorem arr_at {g : Gh} {w : World} {σ : Store} (hc : Conc g w σ) {o : Nat} {e : TypeId} {rows : List AV} (ho : σ o = some (.arr e rows)) {b sz n : Nat} (hb : g.loc o = some (b, sz, n)) :
    g.w0.heap.size ≤ b ∧ ∃ cells : Array Value, w.heap[b]? = some (.cells cells e (0, 0)) ∧ (∀ r, r ∈ rows → r.cells.length = sz) ∧ rows.length * sz ≤ cells.size ∧
      (∀ (i : Nat) (c : AV) (v : Value), (cellsL rows)[i]? = some c → cells[i]? = some v → R g c v) ∧ (∀ off, g.imm b off = none) := by
  obtain ⟨blk, h1, h2⟩ := hc.obj
  obtain ⟨hB, sz', cells, ⟨n', hl, _⟩, hh, hu, hcs, hrr, him⟩ := h1 o _ ho
  rw [hb] at hl
  injection hl with hl
  injection hl with hl1 hl2
  injection hl2 with hl2 hl3
  subst hl2; subst hl3
  rw [← hl1] at hh him hB
  exact ⟨hB, cells, hh, hu, hcs, hrr, him⟩

theorem sound_convX {P : Program} {g : Gh} {w : World} {σ : Store} (hc : Conc g w σ) {s d : TypeId} {x : AV} {v : Value} (hx : R g x v) {k : KK} (hk : convX P s d σ x k) :
    ∃ r w' g' a σ', (convert s d v).run P w = .ok r w' ∧ g.Le g' ∧ Conc g' w' σ' ∧ R g' a r ∧ k a σ' := by
  have shp : ∀ {b : Nat} {cells : Array Value} {e : TypeId}, w.heap[b]? = some (.cells cells e (0, 0)) → w.shape? b = some (e, cells.size) := fun h => by simp [World.shape?, h]
  unfold convX at hk
  split at hk
  · rename_i kd xs hd
    obtain ⟨hs, he, hk⟩ := hk
    obtain ⟨id_, dd, d1, d2, d3⟩ := ty_kind hd (by simp)
    obtain ⟨ie, de, e1, e2, e3⟩ := ty_kind he (by simp)
    have hsu := ty_slice hs
    have hdu : P.underlying d = some .string := by cases dd <;> simp [kindOf] at d3; exact d2
    have heu : P.underlying (tyOf P s).elem = some (.int .u8) := by cases de <;> simp [kindOf] at e3; subst e3; exact e2
    split at hk
    · rename_i t ht
      obtain ⟨ns, rfl, rfl⟩ := unB_spec ht
      obtain ⟨A, cap, rfl, hcap, hAn, _, _, cs, hcl, hcr, hcc⟩ := sl_cells hc hx
      have hcell := cellsL_u8 ns
      rw [hcell] at hcl hcr
      have hcs : cs = ns.map (Value.int .u8) := by
        apply List.ext_getElem?
        intro i
        rw [List.getElem?_map]
        cases hni : ns[i]? with
        | none =>
          have : ns.length ≤ i := List.getElem?_eq_none_iff.1 hni
          simp only [Option.map_none]
          exact List.getElem?_eq_none (by rw [hcl]; simpa using this)
        | some n =>
          have hlt := (List.getElem?_eq_some_iff.1 hni).1
          have hci : i < cs.length := by rw [hcl]; simpa using hlt
          have := hcr i (.int .u8 n) cs[i] (by rw [List.getElem?_map, hni]; rfl) (List.getElem?_eq_getElem hci)
          rw [List.getElem?_eq_getElem hci]
          generalize cs[i] = u at this
          cases this
          rfl
      subst hcs
      have e0 : (ByteArray.mk (ns.map fun n => UInt8.ofNat n.toNat).toArray) = ns.foldl (fun r n => r.push (UInt8.ofNat n.toNat)) ByteArray.empty := by
        rw [foldl_push]; simp
      cases A with
      | none =>
        obtain ⟨_, hnil, _⟩ := hAn rfl
        have : ns = [] := by simpa using hnil
        subst this
        refine ⟨.string .empty, w, g, _, σ, ?_, .refl g, hc, .str _, hk⟩
        rw [run_convert_bytes_string w s d _ _ _ _ hsu heu hdu]
        rfl
      | some a =>
        refine ⟨.string _, w, g, _, σ, ?_, .refl g, hc, .str _, hk⟩
        rw [run_convert_bytes_string w s d _ _ _ _ hsu heu hdu, e0]
        refine run_bytesToString w a _ cap ns ?_
        have := run_firstCells_some (P := P) w 1 ns.length a ns.length cap (ns.map (Value.int .u8)) (by simp) (hcc a rfl)
        simpa [Builtin.firstCells] using this
    · exact hk.elim
  · rename_i t hd
    obtain ⟨hs, he, hk⟩ := hk
    obtain ⟨is, ds, s1, s2, s3⟩ := ty_kind hs (by simp)
    obtain ⟨ie, de, e1, e2, e3⟩ := ty_kind he (by simp)
    have hdu := ty_slice hd
    have hsu : P.underlying s = some .string := by cases ds <;> simp [kindOf] at s3; exact s2
    have heu : P.underlying (tyOf P d).elem = some (.int .u8) := by cases de <;> simp [kindOf] at e3; subst e3; exact e2
    cases hx
    have hrun := run_bytes_of_string (P := P) w s d _ t hsu hdu heu
    have hge := grownCap_ge w t.size 0 (tyOf P d).elem
    generalize grownCap w t.size 0 (tyOf P d).elem = gc at hrun hge
    have hbel : Below w.heap.size w (w.drew.alloc (.cells (bytesRow t gc) (tyOf P d).elem ((bytesRow t gc).size, (bytesRow t gc).size + 1))) := (Below.refl _ _).drew.alloc (Nat.le_refl _) _
    have hrow : ∀ i u, i < t.size → (byteCells t)[i]? = some u → (bytesRow t gc)[i]? = some u := fun i u hi hu => by
      have h1 : (t.data.map fun b => Value.int .u8 b.toNat).size = t.size := by simp
      unfold bytesRow
      rw [Array.getElem?_append_left (by rw [h1]; exact hi)]
      simpa [byteCells] using hu
    have himm := hc.addImm hbel (byteCells t).toArray t.size (fun o v ho hv => by
      have hh : (w.drew.alloc (.cells (bytesRow t gc) (tyOf P d).elem ((bytesRow t gc).size, (bytesRow t gc).size + 1))).heap[w.heap.size]? = some (.cells (bytesRow t gc) (tyOf P d).elem ((bytesRow t gc).size, (bytesRow t gc).size + 1)) := heap_alloc_new w.drew _
      simp only [World.cell?, hh]
      have := hrow o v ho (by simpa using hv)
      simpa using this)
    refine ⟨_, _, _, _, σ, hrun, Gh.Le_addImm hc _ _, himm, ?_, hk⟩
    obtain ⟨b1, b2⟩ := bytes_R (g.addImm w.heap.size (byteCells t).toArray t.size) t
    have hl := length_bytesA t
    rw [byteCells_length] at b1
    have := R.sl (g := g.addImm w.heap.size (byteCells t).toArray t.size) (k := .imm) (xs := bytesA t) (a := ⟨w.heap.size, 0, none⟩) (cap := gc) (sz := 1) (vs := fun i => (byteCells t).getD i undef) (by show _ ≤ _; rw [hl]; omega)
      (fun _ => rfl) (fun x hx => (rowsOk_spec (rowsOk_bytesA t) x hx).2.1) (fun i hi => ?_) (fun i c hci => ?_)
    · rw [hl] at this; exact this
    · rw [← b1] at hi
      simp only [Gh.addImm, Nat.zero_add]
      rw [if_pos trivial, if_pos hi, List.getElem?_toArray, List.getD_eq_getElem?_getD]
      have : i < (byteCells t).length := by rw [byteCells_length]; exact hi
      simp [this]
    · have hlt := (List.getElem?_eq_some_iff.1 hci).1
      rw [← b1] at hlt
      have hi2 : i < (byteCells t).length := by rw [byteCells_length]; exact hlt
      refine b2 i c _ hci ?_
      simp [List.getD_eq_getElem?_getD, hi2]
  · rename_i o i off hd
    obtain ⟨hs, hok, hsz, hk⟩ := hk
    split at hk
    · rename_i e rows ho
      split at hk
      · rename_i y hy
        obtain ⟨hoff, hk⟩ := hk
        cases hx with
        | ptr hb =>
          rename_i b sz n
          obtain ⟨hB, cells, hh, hu, hcs, _, _⟩ := arr_at hc ho hb
          obtain ⟨is, ds, s1, s2, s3⟩ := ty_kind hs (by simp)
          obtain ⟨id_, dd, d1, d2, d3⟩ := ty_kind hd (by simp)
          obtain ⟨_, ie, e1, e2⟩ := cellsOf_ty hok
          have hsok : (tyOf P s).ok = true := by
            cases h : (tyOf P s).ok with
            | true => rfl
            | false => simp [tyOf, s1, s2] at h
          obtain ⟨is', ds', q1, q2, q3⟩ := ty_ok hsok
          rw [s2] at q2
          injection q2 with q2
          subst q2
          have hsu : P.underlying s = some (.pointer (tyOf P s).elem) := by
            rw [q3]
            cases ds <;> simp [kindOf] at s3
            exact s2
          have hdu : P.underlying d = some .unsafePointer := by cases dd <;> simp [kindOf] at d3; exact d2
          have hyl := hu y (List.mem_of_getElem? hy)
          have hi := (List.getElem?_eq_some_iff.1 hy).1
          have hmul : (i + 1) * sz ≤ rows.length * sz := Nat.mul_le_mul_right _ hi
          rw [Nat.add_mul, Nat.one_mul] at hmul
          exact ⟨_, w, g, _, σ, Lib.run_to_unsafe w ⟨b, i * sz + off, none⟩ hsu hdu e1 (by rw [e2]; exact hsz) (shp hh) (by show i * sz + off < _; omega), .refl g, hc, .ptr hb, hk⟩
      · exact hk.elim
    · exact hk.elim
  · rename_i o i off hd
    obtain ⟨hs, rfl, rfl, hk⟩ := hk
    split at hk
    · rename_i e rows ho
      obtain ⟨hel, hoku, hok, hsz, hk⟩ := hk
      split at hk
      · rename_i y hy
        obtain ⟨hyl, hk⟩ := hk
        cases hx with
        | ptr hb =>
          rename_i b sz n
          obtain ⟨hB, cells, hh, hu, hcs, _, _⟩ := arr_at hc ho hb
          obtain ⟨is, ds, s1, s2, s3⟩ := ty_kind hs (by simp)
          obtain ⟨id_, dd, d1, d2, d3⟩ := ty_kind hd (by simp)
          obtain ⟨c1, _⟩ := cellsOf_ty hok
          obtain ⟨_, ie, e1, e2⟩ := cellsOf_ty hoku
          have hsu : P.underlying s = some .unsafePointer := by cases ds <;> simp [kindOf] at s3; exact s2
          have hdok : (tyOf P d).ok = true := by
            cases h : (tyOf P d).ok with
            | true => rfl
            | false => simp [tyOf, d1, d2] at h
          obtain ⟨id', dd', q1, q2, q3⟩ := ty_ok hdok
          rw [d2] at q2
          injection q2 with q2
          subst q2
          have hdu : P.underlying d = some (.pointer (tyOf P d).elem) := by
            rw [q3]
            cases dd <;> simp [kindOf] at d3
            exact d2
          have hyz := hu y (List.mem_of_getElem? hy)
          have hlen := (List.getElem?_eq_some_iff.1 hy).1
          have hmul : 1 * sz ≤ rows.length * sz := Nat.mul_le_mul_right _ hlen
          have hone : 1 ≤ cells.size / P.cellsOf e := by
            rw [c1, ← hyl, hyz]
            have hszp : 0 < sz := by omega
            exact (Nat.le_div_iff_mul_le hszp).2 (by omega)
          refine ⟨_, w, g, _, σ, Lib.run_from_unsafe w ⟨b, 0 * sz + 0, none⟩ hsu hdu e1 (shp hh) ?_, .refl g, hc, ?_, hk⟩
          · simp only [Nat.zero_mul, Nat.add_zero]
            rcases hel with hel | hel
            · rw [← hel]; exact liesAt_self (by rw [c1]; exact hsz) _ _ hone
            · exact LiesIn_at hel hone
          · exact .ptr hb
      · exact hk.elim
    · exact hk.elim
  · obtain ⟨u, r, h1, h2, h3⟩ := sound_conv (P := P) (w := w) hx hk
    exact ⟨u, w, g, r, σ, h1, .refl g, hc, h2, h3⟩

/-- Builtins beside len, append and delete. -/
def builtinX (P : Program) (b : Builtin) (ts : List TypeId) (xs : List AV) (σ : Store) (k : KK) : Prop :=
  match b, ts, xs with
  | .cap, [t], [.sl .nil []] => (tyOf P t).kind = .slice ∧ k (.int .i64 0) σ
  | .min, _, [.int i a, .int _ b] => k (.int i (if b < a then b else a)) σ
  | .max, _, [.int i a, .int _ b] => k (.int i (if a < b then b else a)) σ
  | .min, _, [.int i a, .int _ b, .int _ c] => k (.int i (if c < (if b < a then b else a) then c else (if b < a then b else a))) σ
  | .unsafeSliceData, _, [.sl .nil []] => k .nilp σ
  | .unsafeSliceData, _, [.ms o sz st n] => 0 < n ∧ k (.ptr o st 0) σ
  | .unsafeString, [_, _], [.nilp, .int .i64 n] => n = 0 ∧ k (.str .empty) σ
  | .unsafeString, [p, _], [.ptr o i off, .int .i64 n] => i = 0 ∧ off = 0 ∧ 0 < n ∧ n ≤ 140737488355328 ∧ (tyOf P p).kind = .ptr ∧ (tyOf P p).ok = true ∧ (match σ o with
    | some (.arr e rows) => e = (tyOf P p).elem ∧ (tyOf P e).ok = true ∧ (tyOf P e).size = 1 ∧ n ≤ rows.length ∧ (match unB (rows.take n.toNat) with
      | some s => rows.take n.toNat = bytesA s ∧ k (.str s) (σ.drop o)
      | none => False)
    | _ => False)
  | _, _, _ => False

theorem run_unsafeString_nil {P : Program} {w : World} (pt it ty : TypeId) : (Builtin.unsafeString_ #[pt, it] ty #[.pointer none, .int .i64 0]).run P w = .ok (.string .empty) w := by
  have hmax : IntKind.i64.max = 9223372036854775807 := rfl
  have hdef : Builtin.unsafeString_ #[pt, it] ty #[.pointer none, .int .i64 0] =
      (do
        let n ← asInt (.int .i64 0)
        if n < 0 then runtimePanic (.error "unsafe.String: len out of range")
        if n > IntKind.i64.max then unsupported (.unsafePointer "String: a length above the largest int")
        if n = 0 then pure (.string .empty)
        else runtimePanic (.error "unsafe.String: ptr is nil and len is not zero")) := rfl
  rw [hdef]
  simp [asInt, asIntOf, hmax]

/-- Bytes that a string shares are written no more. -/
theorem Conc.frozen {g : Gh} {w : World} {σ : Store} (hc : Conc g w σ) {o : Nat} {e : TypeId} {rows : List AV} (ho : σ o = some (.arr e rows)) {b sz n : Nat} (hb : g.loc o = some (b, sz, n)) (m : Nat) :
    Conc g (w.freeze ⟨b, 0, none⟩ m) (σ.drop o) := by
  obtain ⟨hB, cells, hh, hu, hcs, hrr, him⟩ := arr_at hc ho hb
  have hother : ∀ q, q ≠ b → (w.freeze ⟨b, 0, none⟩ m).heap[q]? = w.heap[q]? := fun q hq => by
    unfold World.freeze
    split
    · rfl
    · simp only [Array.getElem?_modify]
      rw [if_neg (fun e => hq e.symm)]
  have hsize : (w.freeze ⟨b, 0, none⟩ m).heap.size = w.heap.size := by
    unfold World.freeze
    split <;> simp
  obtain ⟨blk, h1, h2⟩ := hc.obj
  have hbo : blk o = b := by
    obtain ⟨_, sz', cells, ⟨n', hl, _⟩, _⟩ := h1 o _ ho
    rw [hb] at hl
    injection hl with hl
    injection hl with hl1 _
    exact hl1.symm
  refine ⟨Lib.below_freeze hc.below hB m, fun q off v hi => ?_, fun p b' sz' n' hl => ⟨(hc.loc p b' sz' n' hl).1, by rw [hsize]; exact (hc.loc p b' sz' n' hl).2⟩, ?_, ?_, blk, fun p x hx => ?_, fun p q x y hx hy => ?_⟩
  · have hq : q ≠ b := fun e => by rw [e, him] at hi; cases hi
    exact (World.cell?_of_block (hother q hq)).trans (hc.imm q off v hi)
  · obtain ⟨N, hN⟩ := hc.fresh
    exact ⟨N, fun p hp => ⟨(hN p hp).1, (hN p hp).2.1, by simp only [Store.drop]; split; · rfl
                                                          · exact (hN p hp).2.2.1, (hN p hp).2.2.2⟩⟩
  · exact fun p hp => ⟨(hc.res p hp).1, (hc.res p hp).2.1, by simp only [Store.drop]; split; · rfl
                                                              · exact (hc.res p hp).2.2⟩
  · simp only [Store.drop] at hx
    split at hx
    · cases hx
    · rename_i hne
      refine ⟨(h1 p x hx).1, (h1 p x hx).2.keep (.refl g) (hother _ (fun e => hne (h2 p o x _ hx ho (e.trans hbo.symm)))) (fun _ => rfl) (fun _ => rfl)⟩
  · simp only [Store.drop] at hx hy
    split at hx
    · cases hx
    · split at hy
      · cases hy
      · exact h2 p q x y hx hy

theorem run_bu {P : Program} {w w' : World} {s : Sem Value} {r : Value} (h : s.run P w = .ok r w') : (do let x ← s; pure (Next.value x) : Sem Next).run P w = .ok (.value r) w' := by
  rw [Sem.run_bind, h]; rfl

theorem sound_builtinX {P : Program} {g : Gh} {w : World} {σ : Store} (hc : Conc g w σ) {b : Builtin} {ts : List TypeId} {xs : List AV} {vs : List Value} {ty : TypeId} {cs : Array Bool} (hl : xs.length = vs.length) (hr : ∀ (i : Nat) (c : AV) (v : Value), xs[i]? = some c → vs[i]? = some v → R g c v) {k : KK} (hk : builtinX P b ts xs σ k) :
    ∃ r w' g' a σ', (builtin b ts.toArray ty cs vs.toArray).run P w = .ok (.value r) w' ∧ g.Le g' ∧ Conc g' w' σ' ∧ R g' a r ∧ k a σ' := by
  have two : ∀ {x y : AV}, xs = [x, y] → ∃ u v, vs = [u, v] ∧ R g x u ∧ R g y v := by
    rintro x y rfl
    match vs, hl with
    | [u, v], _ => exact ⟨u, v, rfl, hr 0 x u rfl rfl, hr 1 y v rfl rfl⟩
  have one : ∀ {x : AV}, xs = [x] → ∃ u, vs = [u] ∧ R g x u := by
    rintro x rfl
    match vs, hl with
    | [u], _ => exact ⟨u, rfl, hr 0 x u rfl rfl⟩
  unfold builtinX at hk
  split at hk
  · obtain ⟨hkind, hk⟩ := hk
    obtain ⟨u, rfl, h1⟩ := one rfl
    have hu := ty_slice hkind
    cases h1 with
    | slnil => exact ⟨_, w, g, _, σ, by simp [builtin, Builtin.cap_, run_underlying hu, goInt], .refl g, hc, .int _ _, hk⟩
    | sl hk' _ _ _ _ => exact hk'.elim
  · obtain ⟨u, v, rfl, h1, h2⟩ := two rfl
    cases h1; cases h2
    exact ⟨_, w, g, _, σ, by simp [builtin, Builtin.min_, Builtin.min2], .refl g, hc, .int _ _, hk⟩
  · obtain ⟨u, v, rfl, h1, h2⟩ := two rfl
    cases h1; cases h2
    exact ⟨_, w, g, _, σ, by simp [builtin, Builtin.max_, Builtin.max2], .refl g, hc, .int _ _, hk⟩
  · rename_i i a j b' l c
    match vs, hl with
    | [u, v, z], _ =>
      have h1 := hr 0 _ u rfl rfl
      have h2 := hr 1 _ v rfl rfl
      have h3 := hr 2 _ z rfl rfl
      cases h1; cases h2; cases h3
      exact ⟨_, w, g, _, σ, by simp [builtin, Builtin.min_, Builtin.min2], .refl g, hc, .int _ _, hk⟩
  · obtain ⟨u, rfl, h1⟩ := one rfl
    cases h1 with
    | slnil => exact ⟨.pointer none, w, g, _, σ, run_bu (Lib.run_unsafeSliceData_nil w _ ty 0 0), .refl g, hc, .nilp, hk⟩
    | sl hk' _ _ _ _ => exact hk'.elim
  · obtain ⟨hn, hk⟩ := hk
    obtain ⟨u, rfl, h1⟩ := one rfl
    cases h1 with
    | ms hb hcc hln ha =>
      rename_i b n cap a
      have hcap : cap ≠ 0 := by omega
      have := ha (by omega)
      subst this
      exact ⟨_, w, g, _, σ, run_bu (Lib.run_unsafeSliceData_row w _ ty _ _ _ hcap), .refl g, hc, .ptr (i := _) (off := 0) hb, hk⟩
  · obtain ⟨rfl, hk⟩ := hk
    obtain ⟨u, v, rfl, h1, h2⟩ := two rfl
    cases h1; cases h2
    refine ⟨_, w, g, _, σ, ?_, .refl g, hc, .str _, hk⟩
    simp [builtin, run_unsafeString_nil]
  · rename_i p t o i off n
    obtain ⟨rfl, rfl, hn, hmax, hkind, hpok, hk⟩ := hk
    split at hk
    · rename_i e rows ho
      obtain ⟨rfl, hok, hsz, hnr, hk⟩ := hk
      split at hk
      · rename_i s hs
        obtain ⟨hrow, hk⟩ := hk
        obtain ⟨u, v, rfl, h1, h2⟩ := two rfl
        cases h2
        cases h1 with
        | ptr hb =>
          rename_i b sz m
          obtain ⟨hB, cells, hh, hu, hcs, hrr, him⟩ := arr_at hc ho hb
          obtain ⟨c1, ie, e1, e2⟩ := cellsOf_ty hok
          obtain ⟨ip, dp, p1, p2, p3⟩ := ty_kind hkind (by simp)
          obtain ⟨ip', dp', q1, q2, q3⟩ := ty_ok hpok
          rw [p2] at q2
          injection q2 with q2
          subst q2
          have hpu : P.underlying p = some (.pointer (tyOf P p).elem) := by
            rw [q3]
            cases dp <;> simp [kindOf] at p3
            exact p2
          obtain ⟨m', rfl⟩ : ∃ m' : Nat, n = m' := ⟨n.toNat, by omega⟩
          simp only [Int.toNat_natCast] at hrow hs
          have hm' : m' ≤ rows.length := by omega
          have hlen : s.size = m' := by
            have := congrArg List.length hrow
            rw [length_bytesA, List.length_take] at this
            omega
          have hll : s.data.toList.length = m' := by rw [← hlen]; simp
          have hrow1 : ∀ (j : Nat) (b : UInt8), s.data.toList[j]? = some b → rows[j]? = some (AV.int .u8 b.toNat) := fun j b hj => by
            have h1 : (bytesA s)[j]? = some (AV.int .u8 b.toNat) := by simp only [bytesA, List.getElem?_map, hj, Option.map_some]
            rw [← hrow, List.getElem?_take] at h1
            split at h1
            · exact h1
            · cases h1
          have hsz1 : sz = 1 := by
            have h0 : 0 < s.data.toList.length := by omega
            have := hrow1 0 _ (List.getElem?_eq_getElem h0)
            have := hu _ (List.mem_of_getElem? this)
            exact this.symm
          subst hsz1
          have hcell : ∀ (j : Nat) (x : UInt8), s.data.toList[j]? = some x → w.cell? ((⟨b, 0, none⟩ : Addr).add j) = some (Value.int .u8 x.toNat) := fun j x hj => by
            have hj1 := hrow1 j x hj
            have hc1 : (cellsL rows)[j]? = some (AV.int .u8 x.toNat) := by
              rw [cellsL_get (by omega) rows hu, Nat.div_one, hj1, Nat.mod_one]; rfl
            have hlt : j < cells.size := by
              have := (List.getElem?_eq_some_iff.1 hj1).1
              omega
            have hcj := hrr j _ _ hc1 (Array.getElem?_eq_getElem hlt)
            rw [add_spot rfl]
            simp only [World.cell?, hh, Nat.zero_add]
            rw [show cells[j]? = some cells[j] from Array.getElem?_eq_getElem hlt]
            generalize cells[j] = q at hcj
            cases hcj
            rfl
          have hrun := Lib.run_unsafeString_row (P := P) w p t ty (tyOf P p).elem hpu (by rw [c1]; exact hsz) b cells.size (by simp [World.shape?, hh]) s.data.toList (by intro e0; rw [e0] at hll; simp at hll; omega) (by omega) (by omega) hcell
          rw [hll] at hrun
          have hz0 : (⟨b, 0 * 1 + 0, none⟩ : Addr) = ⟨b, 0, none⟩ := by simp
          rw [hz0]
          exact ⟨_, _, g, _, _, run_bu hrun, .refl g, hc.frozen ho hb m', .str _, hk⟩
      · exact hk.elim
    · exact hk.elim
  · exact hk.elim

/-- A function without a body that hands back what it is handed. -/
def XId (P : Program) (f : FuncId) : Prop := ∀ v w, (callFunc f #[v]).run P w = .ok (.value v) w
def externA (P : Program) (c : Call) (ρ : Env) (σ : Store) (k : KK) : Prop :=
  match c.callee, c.args.toList with
  | .value f, [x] => (match ev ρ f with
    | .fn f [] => XId P f ∧ k (ev ρ x) σ
    | _ => False)
  | _, _ => False

theorem sound_ptrEq {P : Program} {w : World} {op : BinOp} {t : TypeId} (hkind : (tyOf P t).kind = .ptr) (hok : (tyOf P t).ok = true) (hek : (tyOf P (tyOf P t).elem).ok = true) (a : Addr) {g : Gh} {k : AV → Prop} (hk : match op with
    | .eql => k (.bool true)
    | .neq => k (.bool false)
    | _ => False) :
    ∃ u r, (binOp op t (.pointer (some a)) (.pointer (some a))).run P w = .ok u w ∧ R g r u ∧ k r := by
  obtain ⟨ip, dp, p1, p2, p3⟩ := ty_kind hkind (by simp)
  obtain ⟨ip', dp', q1, q2, q3⟩ := ty_ok hok
  rw [p2] at q2
  injection q2 with q2
  subst q2
  have hpu : P.underlying t = some (.pointer (tyOf P t).elem) := by
    rw [q3]
    cases dp <;> simp [kindOf] at p3
    exact p2
  obtain ⟨_, ie, e1, e2⟩ := cellsOf_ty hek
  have hne := Lib.run_neq_ptr_same (P := P) w (tp := t) a hpu e1
  cases op <;> simp only at hk <;> first | exact hk.elim | skip
  · refine ⟨_, _, ?_, .bool true, hk⟩
    have h : ∀ d : Nat, (Op.equalIn (d + 1) t (.pointer (some a)) (.pointer (some a))).run P w = .ok true w := fun d => by
      simp [Op.equalIn, run_underlying hpu, sizeOf, typeInfo, e1, run_sameAddr_same]
    simp only [binOp]
    simp [Op.equal, Op.maxDepth, h 9999]
  · exact ⟨_, _, hne, .bool false, hk⟩
end Go.Kern
