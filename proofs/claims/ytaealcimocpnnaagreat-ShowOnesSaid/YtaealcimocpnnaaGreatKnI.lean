/- The abstract layer, ninth part: mutable memory: boxes, stores, maps. Conditions: none. -/
import Derived.Test.YtaealcimocpnnaaGreatKnH
import Derived.MapKept
import Derived.Carry
set_option linter.unusedVariables false
set_option linter.unusedSimpArgs false
namespace Go.Kern
open Go.RowKit

theorem zero_inv {P : Program} {t : TypeId} (h : (tyOf P t).ok = true) : ∃ i d, P.info? t = some i ∧ P.underlying t = some d ∧ (tyOf P t).zero = i.zero.map ofConst ∧ (tyOf P t).size = i.size ∧ (tyOf P t).bytes = i.bytes ∧ (tyOf P t).kind = kindOf d := by
  obtain ⟨i, d, h1, h2, h3⟩ := ty_ok h
  exact ⟨i, d, h1, h2, by rw [h3], by rw [h3], by rw [h3], by rw [h3]⟩

theorem ofConst_agg {v : Value} {zs : List AV} (h : ofConst v = .agg zs) : ∃ cs, v = .agg cs ∧ zs = cs.toList.map leafOf := by
  cases v <;> simp only [ofConst] at h <;> first
    | (injection h with h; exact ⟨_, rfl, h.symm⟩)
    | (simp only [leafOf] at h; split at h <;> cases h)
    | (simp only [leafOf] at h; cases h)
    | cases h

theorem places_of {P : Program} : ∀ (fs : List Field), (fs.map (fieldOf P)).all (fun f => decide (f.2.1 ≠ 0)) = true →
    fs.mapM (fun f => (P.info? f.type).map fun i => (f.offset, i.size)) = some ((fs.map (fieldOf P)).map fun f => (f.1, f.2.1))
  | [], _ => rfl
  | f :: fs, h => by
    simp only [List.map_cons, List.all_cons, Bool.and_eq_true, decide_eq_true_eq] at h
    have ih := places_of fs h.2
    have hf : ∃ i, P.info? f.type = some i ∧ fieldOf P f = (f.offset, i.size, (fieldOf P f).2.2.1, f.type) := by
      have h1 := h.1
      unfold fieldOf at h1 ⊢
      cases hi : P.info? f.type with
      | none => simp [hi] at h1
      | some i =>
        cases hd : P.underlying f.type with
        | none => simp [hi, hd] at h1
        | some d => exact ⟨i, rfl, rfl⟩
    obtain ⟨i, hi, he⟩ := hf
    simp only [List.mapM_cons, hi, Option.map_some, Option.bind_eq_bind, Option.bind_some, ih, Option.pure_def, List.map_cons]
    rw [he]

theorem sound_build {P : Program} {g : Gh} {w : World} {t : TypeId} {ps : List (Nat × AV)} {pv : Array (Nat × Value)}
    (h1 : ps.map (·.1) = pv.toList.map (·.1)) (h2 : RL g (ps.map (·.2)) (pv.toList.map (·.2))) {k : AV → Prop} (hk : buildA P (tyOf P t) ps k) :
    ∃ u r, (Instr.build t pv).run P w = .ok u w ∧ R g r u ∧ k r := by
  obtain ⟨hok, hk⟩ := hk
  obtain ⟨i, d, i1, i2, i3, i4, i5, i6⟩ := zero_inv hok
  split at hk
  · rename_i hkind
    obtain ⟨hall, hk⟩ := hk
    split at hk
    · rename_i zs hz
      split at hk
      · rename_i cs hf
        rw [i3] at hz
        obtain ⟨zv, hzv, hze⟩ := Option.map_eq_some_iff.1 hz
        obtain ⟨zc, rfl, rfl⟩ := ofConst_agg hze
        have hd : ∃ fs, d = .struct fs := by
          rw [i6] at hkind
          cases d <;> simp [kindOf] at hkind
          exact ⟨_, rfl⟩
        obtain ⟨fs, rfl⟩ := hd
        have hfs : (tyOf P t).fields = fs.toList.map (fieldOf P) := by simp [tyOf, i1, i2]
        rw [hfs] at hall hf
        have hpl := places_of fs.toList hall
        obtain ⟨zs', hz1, hz2, hz3⟩ := fill_ok ps pv.toList _ cs zc h1 h2 (R_leaves g zc).1 (R_leaves g zc).2 hf
        refine ⟨.agg zs', .agg cs, run_build w t pv zs' ?_, .agg hz2 hz3, hk⟩
        unfold Program.built
        simp only [i1, i2, hzv, hpl]
        rw [← hz1]
        congr 1
        funext j
        simp
      · exact hk.elim
    · exact hk.elim
  · rename_i n hkind
    obtain ⟨hoe, hk⟩ := hk
    split at hk
    · rename_i zs hz
      split at hk
      · rename_i cs hf
        rw [i3] at hz
        obtain ⟨zv, hzv, hze⟩ := Option.map_eq_some_iff.1 hz
        obtain ⟨zc, rfl, rfl⟩ := ofConst_agg hze
        have hd : ∃ n' e, d = .array n' e := by
          rw [i6] at hkind
          cases d <;> simp [kindOf] at hkind
          exact ⟨_, _, rfl⟩
        obtain ⟨n', e, rfl⟩ := hd
        have hel : (tyOf P t).elem = e := by simp [tyOf, i1, i2]
        rw [hel] at hoe hf
        obtain ⟨ie, de, j1, j2, j3, j4, j5, j6⟩ := zero_inv hoe
        rw [j4] at hf
        obtain ⟨zs', hz1, hz2, hz3⟩ := fill_ok ps pv.toList _ cs zc h1 h2 (R_leaves g zc).1 (R_leaves g zc).2 hf
        refine ⟨.agg zs', .agg cs, run_build w t pv zs' ?_, .agg hz2 hz3, hk⟩
        unfold Program.built
        simp only [i1, i2, hzv, j1]
        exact hz1
      · exact hk.elim
    · exact hk.elim
  · exact hk.elim

/-! ### New mutable objects -/
theorem cellsL_one (x : AV) : cellsL [x] = x.cells := by simp [cellsL]

theorem new_box {P : Program} {g : Gh} {w : World} {σ : Store} (hc : Conc g w σ) {x : AV} {v : Value} (hx : R g x v) (hk : x.known = true) (e : TypeId) {k : KK}
    (h : ∀ o, σ o = none → k (.ptr o 0 0) (σ.put o (.arr e [x]))) :
    ∃ g' r σ', g.Le g' ∧ Conc g' (w.alloc (.cells v.cells e)) σ' ∧ R g' r (.pointer (some ⟨w.heap.size, 0, none⟩)) ∧ k r σ' := by
  obtain ⟨o, ho, hol, hot, hor⟩ := hc.new
  obtain ⟨c1, c2⟩ := hx.cells hk
  have hcc := hc.addObj (w' := w.alloc (.cells v.cells e)) (Below.alloc (Below.refl _ _) (Nat.le_refl _) _) (by simp) o hol ho hot hor (.arr e [x]) x.cells.length 1 (fun g' hle hl him =>
    ⟨x.cells.length, v.cells, ⟨1, hl, by simp [c1]⟩, heap_alloc_new w _, fun r hr => by rw [List.mem_singleton.1 hr], by simp [c1], fun i c u hci hui => by
      rw [cellsL_one] at hci
      exact (c2 i c u hci hui).le hle, him⟩)
  refine ⟨_, _, _, Gh.Le_addLoc _ hol, hcc, ?_, h o ho⟩
  have := R.ptr (g := g.addLoc o (w.heap.size, x.cells.length, 1)) (o := o) (i := 0) (off := 0) (b := w.heap.size) (sz := x.cells.length) (n := 1) (by simp [Gh.addLoc])
  simpa using this

theorem sound_makeMap {P : Program} {g : Gh} {w : World} {σ : Store} (hc : Conc g w σ) {k : KK} (h : ∀ o, σ o = none → k (.map o) (σ.put o (.map []))) :
    ∃ g' r σ', g.Le g' ∧ Conc g' (w.alloc (.map #[] 0)) σ' ∧ R g' r (.map (some w.heap.size)) ∧ k r σ' := by
  obtain ⟨o, ho, hol, hot, hor⟩ := hc.new
  have hcc := hc.addObj (w' := w.alloc (.map #[] 0)) (Below.alloc (Below.refl _ _) (Nat.le_refl _) _) (by simp) o hol ho hot hor (.map []) 0 0 (fun g' hle hl him =>
    ⟨#[], 0, hl, heap_alloc_new w _, rfl, fun i kv en hi => by simp at hi⟩)
  refine ⟨_, _, _, Gh.Le_addLoc _ hol, hcc, .map (by simp [Gh.addLoc]), h o ho⟩

/-! ### Stores -/
theorem splice_cells (x : AV) (off : Nat) (vs : List AV) (h : off + vs.length ≤ x.cells.length) (h1 : vs.all AV.one = true) : (splice x off vs).cells = x.cells.take off ++ vs ++ x.cells.drop (off + vs.length) := by
  have gen : x.cells = [x] → splice x off vs = oneOf vs x → (splice x off vs).cells = x.cells.take off ++ vs ++ x.cells.drop (off + vs.length) := by
    intro hx hs
    rw [hs]
    have h' := h
    rw [hx] at h'
    match vs with
    | [] =>
      simp only [List.append_nil, List.length_nil, Nat.add_zero, List.take_append_drop]
      rfl
    | [v] =>
      simp only [List.length_cons, List.length_nil] at h'
      have : off = 0 := by omega
      subst this
      simp only [List.all_cons, List.all_nil, Bool.and_true] at h1
      rw [hx]
      cases v <;> first | (simp [AV.one] at h1; done) | rfl
    | a :: b :: r => simp at h'; omega
  cases x <;> first | rfl | exact gen rfl rfl

theorem setRow_size (w : World) (b : Nat) (cs : Array Value) : (w.setRow b cs).heap.size = w.heap.size := by simp [World.setRow]

theorem sound_store {P : Program} {g : Gh} {w : World} {σ : Store} (hc : Conc g w σ) {t : TypeId} {p x : AV} {pv v : Value} (hp : R g p pv) (hx : R g x v) {k : Store → Prop} (hk : storeA (tyOf P t) σ p x k) :
    ∃ w' σ', (Instr.storeAt t pv v).run P w = .ok () w' ∧ Conc g w' σ' ∧ k σ' := by
  unfold storeA at hk
  split at hk
  · rename_i o i off
    split at hk
    · rename_i e rows hrows
      split at hk
      · rename_i y hy
        obtain ⟨hok, hkn, hsz, hone, hle, hk⟩ := hk
        cases hp with
        | ptr hb =>
          rename_i b sz n
          obtain ⟨blk, h1, h2⟩ := hc.obj
          obtain ⟨hB, sz', cells, ⟨n', hl, hcn⟩, hh, hu, hcs, hrr, him⟩ := h1 o _ hrows
          rw [hb] at hl
          injection hl with hl
          injection hl with hl1 hl2
          injection hl2 with hl2 hl3
          subst hl2; subst hl3
          rw [← hl1] at hh him
          obtain ⟨c1, c2⟩ := hx.cells hkn
          have hys : y.cells.length = sz := hu y (List.mem_of_getElem? hy)
          have hi : i < rows.length := (List.getElem?_eq_some_iff.1 hy).1
          have hspl : (splice y off x.cells).cells.length = sz := by
            rw [splice_cells y off x.cells hle hone]
            simp only [List.length_append, List.length_take, List.length_drop]
            omega
          obtain ⟨N, hN⟩ : ∃ N, N = cells.size := ⟨_, rfl⟩
          rw [← hN] at hcs
          have hlen : cells.toList.length = N := by simp [hN]
          have hmul : i * sz + sz ≤ rows.length * sz := by
            have : (i + 1) * sz ≤ rows.length * sz := Nat.mul_le_mul_right _ hi
            rw [Nat.add_mul] at this; omega
          have hv1 : ∀ u ∈ v.cells.toList, u.oneCell' = true := by
            intro u hu'
            obtain ⟨j, hj, rfl⟩ := List.getElem_of_mem hu'
            have hj' : j < x.cells.length := by rw [c1]; simpa using hj
            have hxj : x.cells[j]? = some x.cells[j] := List.getElem?_eq_getElem hj'
            refine (c2 j _ _ hxj (by simp at hj ⊢)).one ?_
            exact List.all_eq_true.1 hone _ (List.getElem_mem hj')
          have hrun := run_storeCells_at (P := P) b (i * sz + off) e v.cells.toList 0 cells w hh (by simp only [Array.length_toList]; omega) hv1
          refine ⟨w.setRow b (cells.toList.take (i * sz + off + 0) ++ v.cells.toList ++ cells.toList.drop (i * sz + off + 0 + v.cells.toList.length)).toArray, _, ?_, ?_, hk⟩
          · have hsz' := run_sizeOf' hok w
            have hnn : ¬ v.cells.size ≠ (tyOf P t).size := by rw [← c1]; simp [hsz]
            simp only [Instr.storeAt, Instr.sureAddr, storeVar, Sem.run_bind, Sem.run_pure, Result.andThen_ok, hsz', if_neg hnn]
            exact hrun
          · refine hc.write (b := b) hrows (fun blk' hb' => ?_) (fun q hq => setRow_other w b q _ hq) rfl rfl rfl (setRow_size w b _) him ?_
            · obtain ⟨sz2, cells2, ⟨n2, hl2, _⟩, _⟩ := hb'
              rw [hb] at hl2
              injection hl2 with hl2
              injection hl2 with hl2 _
              exact hl2.symm
            · refine ⟨sz, _, ⟨n, hb, ?_⟩, setRow_heap w b cells _ e _ hh, ?_, ?_, ?_, him⟩
              · simp only [List.size_toArray, List.length_append, List.length_take, List.length_drop, hlen, Array.length_toList, ← c1]
                omega
              · intro r hr
                rcases List.mem_or_eq_of_mem_set hr with hr | rfl
                · exact hu r hr
                · rw [splice_cells y off x.cells hle hone]
                  simp
                  omega
              · simp only [List.length_set, List.size_toArray, List.length_append, List.length_take, List.length_drop, hlen, Array.length_toList, ← c1]
                omega
              · intro m c u hm hu2
                have hsz0 : 0 < sz := by
                  rcases Nat.eq_zero_or_pos sz with h0 | h0
                  · exfalso
                    have hall : ∀ r ∈ rows.set i (splice y off x.cells), r.cells.length = 0 := by
                      intro r hr
                      rcases List.mem_or_eq_of_mem_set hr with hr | rfl
                      · rw [hu r hr, h0]
                      · rw [hspl, h0]
                    have := cellsL_length _ hall
                    have h3 := (List.getElem?_eq_some_iff.1 hm).1
                    rw [this] at h3
                    omega
                  · exact h0
                have huni : ∀ r ∈ rows.set i (splice y off x.cells), r.cells.length = sz := by
                  intro r hr
                  rcases List.mem_or_eq_of_mem_set hr with hr | rfl
                  · exact hu r hr
                  · rw [splice_cells y off x.cells hle hone]; simp; omega
                rw [cellsL_get hsz0 _ huni] at hm
                have hdm : m / sz * sz + m % sz = m := by rw [Nat.mul_comm]; exact Nat.div_add_mod m sz
                have hml : m % sz < sz := Nat.mod_lt _ hsz0
                have hold : ∀ c', (cellsL rows)[m]? = some c' → ∀ u', cells[m]? = some u' → R g c' u' := fun c' a u' b => hrr m c' u' a b
                simp only [Nat.add_zero, List.getElem?_toArray] at hu2
                by_cases hmi : m / sz = i
                · rw [hmi, List.getElem?_set_self hi, Option.bind_some, splice_cells y off x.cells hle hone] at hm
                  have hmm : m = i * sz + m % sz := by rw [← hmi]; exact hdm.symm
                  simp only [List.getElem?_append, List.length_append, List.length_take, List.getElem?_take, List.getElem?_drop] at hm hu2
                  rw [hlen] at hu2
                  have hl2 : v.cells.toList.length = x.cells.length := by simp [c1]
                  rw [hl2] at hu2
                  have hrow := cellsL_row rows hu i (m % sz) y hy (by omega)
                  rw [← hmm] at hrow
                  by_cases q1 : m % sz < off
                  · rw [if_pos (by omega), if_pos (by omega), if_pos q1] at hm
                    rw [if_pos (by omega), if_pos (by omega), if_pos (by omega)] at hu2
                    exact hold c (hrow.trans hm) u (by simpa using hu2)
                  · by_cases q2 : m % sz < off + x.cells.length
                    · rw [if_pos (by omega), if_neg (by omega)] at hm
                      rw [if_pos (by omega), if_neg (by omega)] at hu2
                      have e1 : m - min (i * sz + off) N = m % sz - min off y.cells.length := by omega
                      rw [e1] at hu2
                      exact c2 _ c u hm (by simpa using hu2)
                    · rw [if_neg (by omega)] at hm
                      rw [if_neg (by omega)] at hu2
                      have e2 : off + x.cells.length + (m % sz - (min off y.cells.length + x.cells.length)) = m % sz := by omega
                      have e3 : i * sz + off + x.cells.length + (m - (min (i * sz + off) N + x.cells.length)) = m := by omega
                      rw [e2] at hm
                      rw [e3] at hu2
                      exact hold c (hrow.trans hm) u (by simpa using hu2)
                · rw [List.getElem?_set_ne (fun h => hmi h.symm)] at hm
                  have hc0 : (cellsL rows)[m]? = some c := by rw [cellsL_get hsz0 _ hu]; exact hm
                  refine hold c hc0 u ?_
                  have hl2 : v.cells.toList.length = x.cells.length := by simp [c1]
                  simp only [List.getElem?_append, List.length_append, List.length_take, List.getElem?_take, List.getElem?_drop] at hu2
                  rw [hlen, hl2] at hu2
                  by_cases q : m / sz < i
                  · have : m < i * sz := by
                      have : (m / sz + 1) * sz ≤ i * sz := Nat.mul_le_mul_right _ q
                      rw [Nat.add_mul] at this; omega
                    rw [if_pos (by omega), if_pos (by omega), if_pos (by omega)] at hu2
                    simpa using hu2
                  · have : i * sz + sz ≤ m := by
                      have : (i + 1) * sz ≤ (m / sz) * sz := Nat.mul_le_mul_right _ (by omega)
                      rw [Nat.add_mul] at this; omega
                    rw [if_neg (by omega)] at hu2
                    have e3 : i * sz + off + x.cells.length + (m - (min (i * sz + off) N + x.cells.length)) = m := by omega
                    rw [e3] at hu2
                    simpa using hu2
      · exact hk.elim
    · exact hk.elim
  · exact hk.elim
end Go.Kern
