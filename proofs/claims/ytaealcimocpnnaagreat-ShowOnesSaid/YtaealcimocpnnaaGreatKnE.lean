/- The abstract layer, fifth part: the operations that only read or make immutable memory do what the fourth part says. Conditions: none. -/
import Derived.Test.YtaealcimocpnnaaGreatKnD
import Derived.Laws.CopyRow
import Derived.Laws.Cells
import Derived.Laws.Cover1
import Derived.Laws.DeepStrings4
import Derived.Great.BuildSlice
set_option linter.unusedVariables false
set_option linter.unusedSimpArgs false
namespace Go.Kern
open Go.RowKit

theorem cellsL_get {sz : Nat} (hs : 0 < sz) : ∀ (xs : List AV), (∀ x ∈ xs, x.cells.length = sz) → ∀ k, (cellsL xs)[k]? = (xs[k / sz]?).bind (fun x => x.cells[k % sz]?)
  | [], _, k => by simp [cellsL]
  | x :: xs, hx, k => by
    have hl : x.cells.length = sz := hx x List.mem_cons_self
    have ih := cellsL_get hs xs (fun y hy => hx y (List.mem_cons_of_mem _ hy))
    unfold cellsL at ih ⊢
    rw [List.flatMap_cons]
    by_cases hk : k < sz
    · rw [List.getElem?_append_left (by omega), Nat.div_eq_of_lt hk, Nat.mod_eq_of_lt hk]
      simp
    · have h1 : k / sz = (k - sz) / sz + 1 := by
        have := Nat.sub_add_cancel (Nat.le_of_not_lt hk)
        conv => lhs; rw [← this]
        rw [Nat.add_div_right _ hs]
      have h2 : k % sz = (k - sz) % sz := by
        have := Nat.sub_add_cancel (Nat.le_of_not_lt hk)
        conv => lhs; rw [← this]
        rw [Nat.add_mod_right]
      rw [List.getElem?_append_right (by omega), hl, ih (k - sz), h1, h2, List.getElem?_cons_succ]

theorem cellsL_length {sz : Nat} : ∀ (xs : List AV), (∀ x ∈ xs, x.cells.length = sz) → (cellsL xs).length = xs.length * sz
  | [], _ => by simp [cellsL]
  | x :: xs, hx => by
    have ih := cellsL_length xs (fun y hy => hx y (List.mem_cons_of_mem _ hy))
    unfold cellsL at ih ⊢
    rw [List.flatMap_cons, List.length_append, ih, hx x List.mem_cons_self, List.length_cons, Nat.add_mul]
    omega

theorem cellsL_row {sz : Nat} (xs : List AV) (hx : ∀ x ∈ xs, x.cells.length = sz) (i j : Nat) (x : AV) (hi : xs[i]? = some x) (hj : j < sz) : (cellsL xs)[i * sz + j]? = x.cells[j]? := by
  rw [cellsL_get (by omega) xs hx, Nat.mul_comm, Nat.mul_add_div (by omega), Nat.div_eq_of_lt hj, Nat.add_zero, hi, Nat.mul_add_mod, Nat.mod_eq_of_lt hj]
  rfl

/-- Cells that lie side by side in memory, and what they are. -/
def Lies (g : Gh) (w : World) (a : Addr) (cs : List AV) : Prop :=
  a.spot = none ∧ ∀ i c, cs[i]? = some c → ∃ v, w.cell? ⟨a.block, a.off + i, none⟩ = some v ∧ R g c v

theorem add_spot {a : Addr} (h : a.spot = none) (n : Nat) : a.add n = ⟨a.block, a.off + n, none⟩ := by
  obtain ⟨b, o, s⟩ := a
  simp only at h
  subst h
  unfold Addr.add
  split <;> simp_all

theorem Lies.load {P : Program} {g : Gh} {w : World} {a : Addr} {cs : List AV} (h : Lies g w a cs) {t : TypeId} {k : AV → Prop} {off : Nat}
    (hk : loadA (tyOf P t) cs off k) : ∃ v r, (loadVar t (a.add off)).run P w = .ok v w ∧ R g r v ∧ k r := by
  obtain ⟨hok, hk⟩ := hk
  have hag := run_isAgg' hok w
  have hsz := run_sizeOf' hok w
  have hadd := add_spot h.1
  split at hk
  · rename_i hagg
    obtain ⟨hle, hk⟩ := hk
    obtain ⟨f, hf⟩ : ∃ f : Nat → Value, ∀ j, j < (tyOf P t).size → w.cell? ⟨a.block, a.off + (off + j), none⟩ = some (f j) ∧ ∀ c, cs[off + j]? = some c → R g c (f j) := by
      refine ⟨fun j => ((w.cell? ⟨a.block, a.off + (off + j), none⟩).getD undef), fun j hj => ?_⟩
      obtain ⟨v, hv, hr⟩ := h.2 (off + j) cs[off + j] (by simp)
      refine ⟨by simp [hv], fun c hc => ?_⟩
      simp only [hv, Option.getD_some]
      rw [List.getElem?_eq_getElem (by omega)] at hc
      injection hc with hc
      subst hc
      exact hr
    have hl := run_loadCells (P := P) w (a.add off) (tyOf P t).size f (fun j hj => by
      rw [add_spot (a := a.add off) (by rw [hadd])]
      rw [hadd]
      simp only
      rw [Nat.add_assoc]
      exact (hf j hj).1)
    refine ⟨.agg ((List.range (tyOf P t).size).map f).toArray, .agg ((cs.drop off).take (tyOf P t).size), ?_, ?_, hk⟩
    · simp [loadVar, hag, hagg, hsz, hl]
    · refine .agg (by simp; omega) fun i c v hc hv => ?_
      simp only [List.getElem?_take, List.getElem?_drop] at hc
      split at hc
      · rename_i hi
        simp [hi] at hv
        subst hv
        exact (hf i hi).2 c hc
      · cases hc
  · rename_i hagg
    split at hk
    · rename_i c hc
      obtain ⟨v, hv, hr⟩ := h.2 off c hc
      refine ⟨v, c, ?_, hr, hk⟩
      have : (tyOf P t).kind.agg = false := by simpa using hagg
      rw [hadd]
      simp [loadVar, hag, this, load, Sem.run, hv]
    · exact hk.elim

/-- What a pointer leads to. -/
theorem R.behind {g : Gh} {w : World} {σ : Store} (hc : Conc g w σ) {p : AV} {v : Value} (hr : R g p v) {k : List AV → Nat → Prop} (hk : behind σ p k) :
    ∃ a cs off, v = .pointer (some (Addr.add a off)) ∧ Lies g w a cs ∧ k cs off := by
  unfold Kern.behind at hk
  split at hk
  · rename_i x off
    cases hr with
    | ip hs ho hi h =>
      rename_i base a vs
      refine ⟨⟨a.block, base, none⟩, x.cells, off, ?_, ⟨rfl, fun i c hcx => ?_⟩, hk⟩
      · rw [add_spot rfl]
        simp only
        rw [← ho]
        cases a; simp only at hs; subst hs; rfl
      · have hlt : i < x.cells.length := (List.getElem?_eq_some_iff.1 hcx).1
        exact ⟨vs i, hc.imm _ _ _ (hi i hlt), h i c hcx⟩
  · rename_i o i off
    split at hk
    · rename_i rows hrows
      split at hk
      · rename_i x hx
        cases hr with
        | ptr hb =>
          rename_i b sz n
          obtain ⟨blk, h1, h2⟩ := hc.obj
          obtain ⟨hB, sz', cells, ⟨n', hl, _⟩, hh, hu, hcs, hrr, him⟩ := h1 o _ hrows
          rw [hb] at hl
          injection hl with hl
          injection hl with hl1 hl2
          injection hl2 with hl2 hl3
          subst hl2; subst hl3
          rw [← hl1] at hh
          refine ⟨⟨b, i * sz, none⟩, x.cells, off, by rw [add_spot rfl], ⟨rfl, fun j c hcx => ?_⟩, hk⟩
          have hj : j < x.cells.length := (List.getElem?_eq_some_iff.1 hcx).1
          have hxs : x.cells.length = sz := hu x (List.mem_of_getElem? hx)
          have hrow := cellsL_row rows hu i j x hx (by omega)
          rw [hcx] at hrow
          have hlt : i * sz + j < cells.size := by
            refine Nat.lt_of_lt_of_le ?_ hcs
            rw [← cellsL_length rows hu]
            exact (List.getElem?_eq_some_iff.1 hrow).1
          exact ⟨cells[i * sz + j], by simp [World.cell?, hh, hlt], hrr _ _ _ hrow (by simp [hlt])⟩
      · exact hk.elim
    · exact hk.elim
  · exact hk.elim

theorem sound_load {P : Program} {g : Gh} {w : World} {σ : Store} (hc : Conc g w σ) {t : TypeId} {p : AV} {v : Value} (hr : R g p v) {k : AV → Prop} (hk : behind σ p fun cs off => loadA (tyOf P t) cs off k) :
    ∃ u r, (Instr.loadAt t v).run P w = .ok u w ∧ R g r u ∧ k r := by
  obtain ⟨a, cs, off, rfl, hl, hk⟩ := hr.behind hc hk
  obtain ⟨u, r, hrun, h1, h2⟩ := hl.load hk
  exact ⟨u, r, by simp [Instr.loadAt, Instr.sureAddr, hrun], h1, h2⟩

/-- A struct or array of values: as cells of a new block. -/
theorem alloc_imm {P : Program} {g : Gh} {w : World} {σ : Store} (hc : Conc g w σ) {x : AV} {v : Value} (hx : R g x v) (hk : x.known = true) (e : TypeId) :
    ∃ g', g.Le g' ∧ Conc g' (w.alloc (.cells v.cells e)) σ ∧ R g' (.ip x 0) (.pointer (some ⟨w.heap.size, 0, none⟩)) := by
  have hle := Gh.Le_addImm hc v.cells v.cells.size
  refine ⟨g.addImm w.heap.size v.cells v.cells.size, hle, hc.addImm (Below.alloc (Below.refl _ _) (Nat.le_refl _) _) _ _ (fun o u ho hu => ?_), ?_⟩
  · rw [World.cell?_alloc_new]; exact hu
  · obtain ⟨hl, hcs⟩ := hx.cells hk
    refine .ip (base := 0) (vs := fun i => v.cells.getD i undef) rfl rfl (fun i hi => ?_) (fun i c hic => ?_)
    · simp [Gh.addImm, show i < v.cells.size by omega]
    · have hi : i < x.cells.length := (List.getElem?_eq_some_iff.1 hic).1
      exact (hcs i c _ hic (by simp [show i < v.cells.size by omega])).le hle

theorem cells_one_agg {v : Value} : (∃ cs, v = .agg cs) ∨ v.cells = #[v] := by
  cases v <;> first | exact .inr rfl | exact .inl ⟨_, rfl⟩

theorem R.agg_inv {g : Gh} {cs : List AV} {v : Value} (h : R g (.agg cs) v) : ∃ vs, v = .agg vs ∧ cs.length = vs.size ∧ ∀ (i : Nat) (c : AV) (u : Value), cs[i]? = some c → vs[i]? = some u → R g c u := by
  cases h with
  | agg hl h => exact ⟨_, rfl, hl, h⟩

theorem sound_fieldAddr {P : Program} {g : Gh} {w : World} {s : TypeId} {p : AV} {i : Nat} {v : Value} (hr : R g p v) {k : AV → Prop} (hk : fieldAddrA (tyOf P s) p i k) :
    ∃ u r, (Instr.fieldAt s v i).run P w = .ok u w ∧ R g r u ∧ k r := by
  obtain ⟨hs, hk⟩ := hk
  obtain ⟨ti, td, h1, h2, h3⟩ := ty_kind hs (by simp)
  cases td <;> simp [kindOf] at h3
  rename_i fs
  have hf : (tyOf P s).fields = fs.toList.map (fieldOf P) := by simp [tyOf, h1, h2]
  rw [hf] at hk
  cases hfi : fs[i]? with
  | none => simp [hfi] at hk
  | some f =>
    simp only [List.getElem?_map, Array.getElem?_toList, hfi, Option.map_some] at hk
    have hfo : ∃ ii, P.info? f.type = some ii ∧ ii.size ≠ 0 ∧ (fieldOf P f).1 = f.offset := by
      unfold fieldOf at hk ⊢
      cases hi1 : P.info? f.type with
      | none => simp [hi1] at hk
      | some ii =>
        cases hi2 : P.underlying f.type with
        | none => simp [hi1, hi2] at hk
        | some dd => simp only [hi1, hi2] at hk ⊢; exact ⟨ii, rfl, hk.1, trivial⟩
    obtain ⟨ii, hii, hne, hoff⟩ := hfo
    have hrun : ∀ a : Addr, (Instr.fieldAt s (.pointer (some a)) i).run P w = .ok (.pointer (some (a.add f.offset))) w := by
      intro a
      simp [Instr.fieldAt, run_underlying h2, hfi, Instr.sureAddr, fieldPlace, sizeOf, typeInfo, hii, hne]
    revert hk
    rcases hfd : fieldOf P f with ⟨off, sz, ag, ft⟩
    rw [hfd] at hoff
    simp only at hoff
    subst hoff
    intro hk
    obtain ⟨_, hk⟩ := hk
    cases p <;> simp only at hk <;> try exact hk.elim
    · rename_i x o
      cases hr with
      | ip hs ho hi h =>
        rename_i base a vs
        refine ⟨_, _, hrun a, ?_, hk⟩
        refine .ip (base := base) (vs := vs) (by rw [add_spot hs]) ?_ ?_ h
        · rw [add_spot hs]; simp only; omega
        · rw [add_spot hs]; exact hi
    · rename_i o r c
      cases hr with
      | ptr hb =>
        refine ⟨_, _, hrun _, ?_, hk⟩
        rw [add_spot rfl]
        simp only
        rw [Nat.add_assoc]
        exact .ptr hb

theorem sound_part {P : Program} {g : Gh} {w : World} {t : TypeId} {cs : List AV} {vs : Array Value} (hl : cs.length = vs.size) (h : ∀ (i : Nat) (c : AV) (u : Value), cs[i]? = some c → vs[i]? = some u → R g c u)
    {off : Nat} {k : AV → Prop} (hk : loadA (tyOf P t) cs off k) : ∃ u r, (part t vs off).run P w = .ok u w ∧ R g r u ∧ k r := by
  obtain ⟨hok, hk⟩ := hk
  have hag := run_isAgg' hok w
  have hsz := run_sizeOf' hok w
  split at hk
  · rename_i hagg
    obtain ⟨hle, hk⟩ := hk
    refine ⟨.agg (vs.extract off (off + (tyOf P t).size)), _, by simp [part, hag, hagg, hsz], ?_, hk⟩
    refine .agg (by simp; omega) fun i c v hc hv => ?_
    simp only [List.getElem?_take, List.getElem?_drop] at hc
    split at hc
    · rename_i hi
      have hlt : off + i < cs.length := (List.getElem?_eq_some_iff.1 hc).1
      refine h _ c v hc ?_
      rw [Array.getElem?_extract] at hv
      split at hv
      · exact hv
      · cases hv
    · cases hc
  · rename_i hagg
    have hf : (tyOf P t).kind.agg = false := by simpa using hagg
    split at hk
    · rename_i c hcx
      have hlt : off < cs.length := (List.getElem?_eq_some_iff.1 hcx).1
      have hv : vs[off]? = some (vs[off]'(by omega)) := by simp [show off < vs.size by omega]
      exact ⟨vs[off]'(by omega), c, by simp [part, hag, hf, hv], h _ c _ hcx hv, hk⟩
    · exact hk.elim

theorem sound_field {P : Program} {g : Gh} {w : World} {s : TypeId} {x : AV} {i : Nat} {v : Value} (hr : R g x v) {k : AV → Prop} (hk : fieldA P (tyOf P s) x i k) :
    ∃ u r, (Instr.field s v i).run P w = .ok u w ∧ R g r u ∧ k r := by
  obtain ⟨hs, hk⟩ := hk
  obtain ⟨ti, td, h1, h2, h3⟩ := ty_kind hs (by simp)
  cases td <;> simp [kindOf] at h3
  rename_i fs
  have hf : (tyOf P s).fields = fs.toList.map (fieldOf P) := by simp [tyOf, h1, h2]
  rw [hf] at hk
  cases hfi : fs[i]? with
  | none => simp [hfi] at hk
  | some f =>
    simp only [List.getElem?_map, Array.getElem?_toList, hfi, Option.map_some] at hk
    have e1 : (fieldOf P f).1 = f.offset ∧ (fieldOf P f).2.2.2 = f.type := by unfold fieldOf; split <;> exact ⟨rfl, rfl⟩
    revert hk
    rcases hfd : fieldOf P f with ⟨off, sz, ag, ft⟩
    rw [hfd] at e1
    simp only at e1
    obtain ⟨rfl, rfl⟩ := e1
    intro hk
    cases x <;> simp only at hk <;> try exact hk.elim
    rename_i cs
    obtain ⟨vs, rfl, hl, h⟩ := hr.agg_inv
    obtain ⟨u, r, hrun, h4, h5⟩ := sound_part (w := w) hl h hk
    exact ⟨u, r, by simp [Instr.field, run_underlying h2, hfi, asAgg, hrun], h4, h5⟩

theorem sound_indexAddr {P : Program} {g : Gh} {w : World} {s : TypeId} {x ix : AV} {v iv : Value} (hr : R g x v) (hri : R g ix iv) {k : AV → Prop} (hk : indexAddrA P (tyOf P s) x ix k) :
    ∃ u r, (Instr.indexAt s v iv).run P w = .ok u w ∧ R g r u ∧ k r := by
  unfold indexAddrA at hk
  split at hk
  · rename_i kd xs ki i
    obtain ⟨hs, hok, h0, hlt, hsz, hk⟩ := hk
    have hu := ty_slice hs
    cases hri
    have hso := run_sizeOf' hok w
    cases hr with
    | slnil => simp at hlt; omega
    | sl hkk hsp huu hi h =>
      rename_i a cap sz vs
      have hlt' : i.toNat < xs.length := by omega
      have hx : xs[i.toNat]? = some (xs.getD i.toNat .any) := by simp [List.getD_eq_getElem?_getD, hlt']
      have hszz : (xs.getD i.toNat .any).cells.length = sz := huu _ (List.mem_of_getElem? hx)
      have hsp' : a.spot = none := hsp (by intro e; subst e; simp at hlt')
      refine ⟨.pointer (some (a.add (i.toNat * (tyOf P (tyOf P s).elem).size))), _, ?_, ?_, hk⟩
      · simp [Instr.indexAt, asIntOf, run_underlying hu, h0, hlt, hso]
      · rw [add_spot hsp', ← hsz, hszz]
        refine .ip (base := a.off + i.toNat * sz) (vs := fun j => vs (i.toNat * sz + j)) rfl rfl (fun j hj => ?_) (fun j c hc => ?_)
        · have hrow := cellsL_row xs huu i.toNat j _ hx (by omega)
          have : i.toNat * sz + j < (cellsL xs).length := by
            rw [List.getElem?_eq_getElem hj] at hrow
            exact (List.getElem?_eq_some_iff.1 hrow).1
          have := hi _ this
          simp only
          rw [Nat.add_assoc]
          exact this
        · have hj : j < (xs.getD i.toNat .any).cells.length := (List.getElem?_eq_some_iff.1 hc).1
          have hrow := cellsL_row xs huu i.toNat j _ hx (by omega)
          exact h _ c (hrow.trans hc)
  · rename_i o sz st n ki i
    obtain ⟨hs, hok, h0, hlt, rfl, hk⟩ := hk
    have hu := ty_slice hs
    cases hri
    have hso := run_sizeOf' hok w
    cases hr with
    | ms hb hc hln ha =>
      rename_i b nn cap a
      have := ha (by omega)
      subst this
      refine ⟨.pointer (some (Addr.add ⟨b, st * (tyOf P (tyOf P s).elem).size, none⟩ (i.toNat * (tyOf P (tyOf P s).elem).size))), _, ?_, ?_, hk⟩
      · simp [Instr.indexAt, asIntOf, run_underlying hu, h0, hlt, hso]
      · rw [add_spot rfl]
        have := R.ptr (g := g) (i := st + i.toNat) (off := 0) hb
        rw [Nat.add_zero, Nat.add_mul] at this
        exact this
  · exact hk.elim

theorem sound_index {P : Program} {g : Gh} {w : World} {s : TypeId} {x ix : AV} {v iv : Value} (hr : R g x v) (hri : R g ix iv) {k : AV → Prop} (hk : indexA (tyOf P s) x ix k) :
    ∃ u r, (Instr.index s v iv).run P w = .ok u w ∧ R g r u ∧ k r := by
  unfold indexA at hk
  split at hk
  · rename_i str ki i
    obtain ⟨hs, h0, hlt, hk⟩ := hk
    obtain ⟨ti, td, h1, h2, h3⟩ := ty_kind hs (by simp)
    cases td <;> simp [kindOf] at h3
    cases hri
    cases hr
    have hlt' : i.toNat < str.size := by omega
    refine ⟨_, _, ?_, .int _ _, hk⟩
    have hb : str[i.toNat]? = some (str.data.getD i.toNat 0) := by
      have e : str[i.toNat]? = some str[i.toNat] := by simp [hlt']
      rw [e]
      congr 1
      have hd : i.toNat < str.data.size := hlt'
      simp [Array.getD_eq_getD_getElem?, Array.getElem?_eq_getElem hd]
      rfl
    simp [Instr.index, asIntOf, run_underlying h2, h0, hb]
  · exact hk.elim

theorem sound_len {P : Program} {g : Gh} {w : World} {σ : Store} (hc : Conc g w σ) {t : TypeId} {ty : TypeId} {x : AV} {v : Value} (hr : R g x v) {k : AV → Prop} (hk : lenA (tyOf P t) σ x k) :
    ∃ u r, (Builtin.len_ #[t] ty #[v]).run P w = .ok u w ∧ R g r u ∧ k r := by
  unfold lenA at hk
  split at hk
  · obtain ⟨hs, hk⟩ := hk
    obtain ⟨ti, td, h1, h2, h3⟩ := ty_kind hs (by simp)
    cases td <;> simp [kindOf] at h3
    cases hr
    exact ⟨.int .i64 _, _, by simp [Builtin.len_, run_underlying h2, goInt], .int _ _, hk⟩
  · obtain ⟨hs, hk⟩ := hk
    have h2 := ty_slice hs
    cases hr with
    | slnil => exact ⟨.int .i64 _, _, by simp [Builtin.len_, run_underlying h2, goInt], .int _ _, hk⟩
    | sl => exact ⟨.int .i64 _, _, by simp [Builtin.len_, run_underlying h2, goInt], .int _ _, hk⟩
  · obtain ⟨hs, hk⟩ := hk
    have h2 := ty_slice hs
    cases hr
    exact ⟨.int .i64 _, _, by simp [Builtin.len_, run_underlying h2, goInt], .int _ _, hk⟩
  · obtain ⟨hs, hk⟩ := hk
    obtain ⟨ti, td, h1, h2, h3⟩ := ty_kind hs (by simp)
    cases td <;> simp [kindOf] at h3
    cases hr
    exact ⟨.int .i64 _, _, by simp [Builtin.len_, run_underlying h2, goInt], .int _ _, hk⟩
  · obtain ⟨hs, hk⟩ := hk
    obtain ⟨ti, td, h1, h2, h3⟩ := ty_kind hs (by simp)
    cases td <;> simp [kindOf] at h3
    split at hk
    · rename_i es hes
      cases hr with
      | map hb =>
        rename_i b
        obtain ⟨blk, h4, _⟩ := hc.obj
        obtain ⟨_, en, ck, hl, hh, hlen, _⟩ := h4 _ _ hes
        rw [hb] at hl
        injection hl with hl
        injection hl with hl _
        subst hl
        refine ⟨_, _, ?_, .int _ _, hk⟩
        rw [hlen]
        simp [Builtin.len_, run_underlying h2, goInt, getObj, Sem.run, hh]
    · exact hk.elim
  · exact hk.elim

theorem sound_extract {P : Program} {g : Gh} {w : World} {x : AV} {i : Nat} {v : Value} (hr : R g x v) {k : AV → Prop} (hk : extractA x i k) :
    ∃ u r, (Instr.extract v i).run P w = .ok u w ∧ R g r u ∧ k r := by
  unfold extractA at hk
  split at hk
  · rename_i vs
    split at hk
    · rename_i c hcx
      cases hr with
      | tup hl h =>
        rename_i us
        have hlt : i < vs.length := (List.getElem?_eq_some_iff.1 hcx).1
        have hv : us[i]? = some (us[i]'(by omega)) := by simp [show i < us.size by omega]
        exact ⟨us[i]'(by omega), c, by simp [Instr.extract, hv], h _ c _ hcx hv, hk⟩
    · exact hk.elim
  · exact hk.elim
end Go.Kern
