/- The abstract layer, eighth part: literals, boxes, stores. Conditions: none. -/
import Derived.Test.YtaealcimocpnnaaGreatKnG
set_option linter.unusedVariables false
set_option linter.unusedSimpArgs false
namespace Go.Kern
open Go.RowKit

/-- Values in a row stand for elements in a row. -/
def RL (g : Gh) (xs : List AV) (vs : List Value) : Prop := xs.length = vs.length ∧ ∀ (i : Nat) (x : AV) (v : Value), xs[i]? = some x → vs[i]? = some v → R g x v

theorem RL.le {g g' : Gh} (hle : g.Le g') {xs : List AV} {vs : List Value} (h : RL g xs vs) : RL g' xs vs := ⟨h.1, fun i x v hx hv => (h.2 i x v hx hv).le hle⟩

/-- The cells of elements against the cells of their values. -/
theorem RL.cells {g : Gh} {xs : List AV} {vs : List Value} (h : RL g xs vs) {sz : Nat} (hs : 0 < sz) (hk : ∀ x ∈ xs, x.known = true ∧ x.cells.length = sz) :
    (∀ v ∈ vs, v.cells.size = sz) ∧ ∀ (i : Nat) (c : AV), (cellsL xs)[i]? = some c → ∃ u, (vs.flatMap fun v => v.cells.toList)[i]? = some u ∧ R g c u := by
  have hv : ∀ v ∈ vs, v.cells.size = sz := by
    intro v hv
    obtain ⟨i, hi, rfl⟩ := List.getElem_of_mem hv
    have hx : xs[i]? = some (xs[i]'(by rw [h.1]; exact hi)) := by simp [h.1, hi]
    have hm := hk _ (List.mem_of_getElem? hx)
    have := (h.2 i _ _ hx (List.getElem?_eq_getElem hi)).cells hm.1
    rw [← this.1, hm.2]
  refine ⟨hv, fun i c hc => ?_⟩
  rw [Great.flat_get hs vs hv i]
  rw [cellsL_get hs xs (fun x hx => (hk x hx).2)] at hc
  cases hx : xs[i / sz]? with
  | none => simp [hx] at hc
  | some x =>
    simp only [hx, Option.bind_some] at hc
    have hlt : i / sz < xs.length := (List.getElem?_eq_some_iff.1 hx).1
    have hvv : vs[i / sz]? = some (vs[i / sz]'(by rw [← h.1]; exact hlt)) := by simp [← h.1, hlt]
    rw [hvv]
    have hm := hk x (List.mem_of_getElem? hx)
    obtain ⟨h1, h2⟩ := (h.2 _ _ _ hx hvv).cells hm.1
    have hj : i % sz < x.cells.length := (List.getElem?_eq_some_iff.1 hc).1
    refine ⟨_, by simp only [Option.bind_some]; exact Array.getElem?_eq_getElem (by rw [← h1]; exact hj), h2 _ c _ hc (by simp)⟩

theorem cellsL_len_eq {g : Gh} {xs : List AV} {vs : List Value} (h : RL g xs vs) {sz : Nat} (hk : ∀ x ∈ xs, x.cells.length = sz) (hv : ∀ v ∈ vs, v.cells.size = sz) :
    (cellsL xs).length = (vs.flatMap fun v => v.cells.toList).length := by
  rw [cellsL_length xs hk, h.1]
  clear h hk
  induction vs with
  | nil => simp
  | cons v vs ih =>
    rw [List.flatMap_cons, List.length_append, ← ih (fun u hu => hv u (List.mem_cons_of_mem _ hu))]
    have := hv v List.mem_cons_self
    simp [Nat.add_mul, this]
    omega

/-- Elements laid into a new block of immutable cells. -/
theorem slice_new {g : Gh} {w : World} {σ : Store} (hc : Conc g w σ) {xs : List AV} {vs : List Value} (h : RL g xs vs) {sz : Nat} (hs : 0 < sz) (hk : ∀ x ∈ xs, x.known = true ∧ x.cells.length = sz) (e : TypeId) :
    ∃ g', g.Le g' ∧ Conc g' (w.alloc (.cells (vs.flatMap fun v => v.cells.toList).toArray e)) σ ∧ R g' (.sl .full xs) (.slice (some ⟨w.heap.size, 0, none⟩) xs.length xs.length) := by
  obtain ⟨hv, hcs⟩ := h.cells hs hk
  have hle := Gh.Le_addImm hc (vs.flatMap fun v => v.cells.toList).toArray (vs.flatMap fun v => v.cells.toList).toArray.size
  refine ⟨_, hle, hc.addImm (Below.alloc (Below.refl _ _) (Nat.le_refl _) _) _ _ (fun o u ho hu => ?_), ?_⟩
  · rw [World.cell?_alloc_new]; exact hu
  · have hlen := cellsL_len_eq h (fun x hx => (hk x hx).2) hv
    refine .sl (sz := sz) (vs := fun i => (vs.flatMap fun v => v.cells.toList).toArray.getD i undef) rfl (fun _ => rfl) (fun x hx => (hk x hx).2) (fun i hi => ?_) (fun i c hic => ?_)
    · have : i < (vs.flatMap fun v => v.cells.toList).length := by rw [← hlen]; exact hi
      simp only [Gh.addImm, Nat.zero_add, if_pos, List.size_toArray, this]
      rw [Array.getD_eq_getD_getElem?, List.getElem?_toArray, List.getElem?_eq_getElem this]
      rfl
    · obtain ⟨u, hu, hr⟩ := hcs i c hic
      have : i < (vs.flatMap fun v => v.cells.toList).length := (List.getElem?_eq_some_iff.1 hu).1
      have e : (vs.flatMap fun v => v.cells.toList).toArray.getD i undef = u := by
        rw [Array.getD_eq_getD_getElem?]
        simp [hu]
      rw [e]
      exact hr.le hle

theorem partsFit_spec {sz : Nat} : ∀ (i : Nat) (ps : List (Nat × AV)), partsFit sz i ps = true → (ps.map (·.1) = (List.range' i ps.length)) ∧ ∀ x ∈ ps.map (·.2), x.known = true ∧ x.cells.length = sz
  | _, [], _ => ⟨rfl, fun x hx => by simp at hx⟩
  | i, (j, v) :: r, h => by
    simp only [partsFit, Bool.and_eq_true, decide_eq_true_eq] at h
    obtain ⟨⟨⟨rfl, hk⟩, hsz⟩, hr⟩ := h
    obtain ⟨h1, h2⟩ := partsFit_spec (j + 1) r hr
    refine ⟨by simp [h1, List.range'_succ], fun x hx => ?_⟩
    simp only [List.map_cons, List.mem_cons] at hx
    rcases hx with rfl | hx
    · exact ⟨hk, hsz⟩
    · exact h2 x hx

theorem zip_parts : ∀ (l : List (Nat × Value)) (i : Nat), l.map (·.1) = List.range' i l.length → l = ((l.map (·.2)).zipIdx i).map fun x => (x.2, x.1)
  | [], _, _ => rfl
  | (j, v) :: r, i, h => by
    simp only [List.map_cons, List.length_cons, List.range'_succ, List.cons.injEq] at h
    obtain ⟨rfl, h⟩ := h
    have := zip_parts r (j + 1) h
    simp only [List.map_cons, List.zipIdx_cons]
    rw [← this]

theorem sound_buildSlice {P : Program} {g : Gh} {w : World} {σ : Store} (hc : Conc g w σ) {t : TypeId} {n : Nat} {ps : List (Nat × AV)} {pv : Array (Nat × Value)}
    (h1 : ps.map (·.1) = pv.toList.map (·.1)) (h2 : RL g (ps.map (·.2)) (pv.toList.map (·.2))) {k : AV → Prop} (hk : buildSliceA P (tyOf P t) n ps k) :
    ∃ u w' g' r, (Instr.buildSlice t n pv).run P w = .ok u w' ∧ g.Le g' ∧ Conc g' w' σ ∧ R g' r u ∧ k r := by
  obtain ⟨hs, hok, hn, hsm, hpos, hz, hfit, hk⟩ := hk
  have hu := ty_slice hs
  obtain ⟨i, d, i1, i2, i3⟩ := ty_ok hok
  have esz : (tyOf P (tyOf P t).elem).size = i.size := by rw [i3]
  have ez : (tyOf P (tyOf P t).elem).zero = i.zero.map ofConst := by rw [i3]
  rw [ez] at hz
  obtain ⟨z, hz⟩ : ∃ z, i.zero = some z := by
    cases hzz : i.zero with
    | none => simp [hzz] at hz
    | some z => exact ⟨z, rfl⟩
  rw [esz] at hsm hpos hfit
  obtain ⟨f1, f2⟩ := partsFit_spec 0 ps hfit
  obtain ⟨hv, _⟩ := h2.cells hpos f2
  have hlen : pv.toList.length = ps.length := by have := congrArg List.length h1; simp at this; simp [this]
  have hpv : pv.toList = ((pv.toList.map (·.2)).zipIdx 0).map fun x => (x.2, x.1) := zip_parts _ _ (by rw [← h1, f1, hlen])
  obtain ⟨g', hle, hc', hr⟩ := slice_new hc h2 hpos f2 (tyOf P t).elem
  rw [List.length_map, hn] at hr
  refine ⟨_, _, g', _, ?_, hle, hc', hr, hk⟩
  by_cases h0 : n = 0
  · subst h0
    have hp0 : ps = [] := List.eq_nil_of_length_eq_zero hn
    have hpv0 : pv = #[] := by
      have : pv.toList = [] := List.eq_nil_of_length_eq_zero (by rw [hlen, hp0]; rfl)
      exact Array.toList_eq_nil_iff.1 this
    subst hpv0
    have hr0 : Array.range 0 = #[] := Array.size_eq_zero_iff.1 (by simp)
    simp [Instr.buildSlice, run_underlying hu, sizeOf, typeInfo, i1, Instr.fill, newRow, hr0]
  · refine run_buildSlice w t (tyOf P t).elem n pv (((pv.toList.map (·.2)).flatMap fun v => v.cells.toList).toArray) i z hu i1 hz (by omega) (by rw [Nat.mul_eq_zero]; omega) ?_
    have hw := Great.fill_whole hpos (pv.toList.map (·.2)) ((Array.range (n * i.size)).map (z.cells[· % z.cells.size]!)) hv (by simp; rw [← hn, ← hlen]; simp)
    rw [← hpv] at hw
    exact hw

/-! ### Struct literals -/
theorem fill_ok {g : Gh} {place : Nat → Option (Nat × Nat)} : ∀ (ps : List (Nat × AV)) (pv : List (Nat × Value)) (cs cs' : List AV) (zs : Array Value), ps.map (·.1) = pv.map (·.1) → RL g (ps.map (·.2)) (pv.map (·.2)) →
    cs.length = zs.size → (∀ (i : Nat) (c : AV) (v : Value), cs[i]? = some c → zs[i]? = some v → R g c v) → fillA place cs ps = some cs' →
    ∃ zs', Instr.fill place zs pv = some zs' ∧ cs'.length = zs'.size ∧ ∀ (i : Nat) (c : AV) (v : Value), cs'[i]? = some c → zs'[i]? = some v → R g c v
  | [], [], cs, cs', zs, _, _, hl, h, hf => by
    simp only [fillA, Option.some.injEq] at hf
    subst hf
    exact ⟨zs, rfl, hl, h⟩
  | [], _ :: _, _, _, _, h1, _, _, _, _ => by simp at h1
  | _ :: _, [], _, _, _, h1, _, _, _, _ => by simp at h1
  | (i, x) :: ps, (j, v) :: pv, cs, cs', zs, h1, h2, hl, h, hf => by
    simp only [List.map_cons, List.cons.injEq] at h1
    obtain ⟨rfl, h1⟩ := h1
    have hr : R g x v := h2.2 0 x v rfl rfl
    have h2' : RL g (ps.map (·.2)) (pv.map (·.2)) := ⟨by have := h2.1; simpa using this, fun k a b ha hb => h2.2 (k + 1) a b (by simpa using ha) (by simpa using hb)⟩
    simp only [fillA] at hf
    cases hp : place i with
    | none => simp [hp] at hf
    | some os =>
      obtain ⟨off, size⟩ := os
      simp only [hp] at hf
      split at hf
      · rename_i hcond
        obtain ⟨hkn, hsz, hle⟩ := hcond
        obtain ⟨c1, c2⟩ := hr.cells hkn
        have hfold : ∀ (l : List Value) (o : Nat) (z : Array Value), o + l.length ≤ z.size → (l.zipIdx).foldl (fun cs (c, j) => cs.setIfInBounds (o + j) c) z = (z.toList.take o ++ l ++ z.toList.drop (o + l.length)).toArray := by
          have key : ∀ (l : List Value) (o s : Nat) (z : Array Value), o + s + l.length ≤ z.size → (l.zipIdx s).foldl (fun cs (c, j) => cs.setIfInBounds (o + j) c) z = (z.toList.take (o + s) ++ l ++ z.toList.drop (o + s + l.length)).toArray := by
            intro l
            induction l with
            | nil => intro o s z hz; simp
            | cons a l ih =>
              intro o s z hz
              simp only [List.zipIdx_cons, List.foldl_cons]
              rw [ih o (s + 1) _ (by simp at hz ⊢; omega)]
              congr 1
              simp only [List.length_cons] at hz
              have ho : o + s < z.toList.length := by simp; omega
              rw [Array.toList_setIfInBounds, show o + (s + 1) = o + s + 1 by omega]
              rw [List.take_set, List.drop_set, if_pos (by omega)]
              rw [List.take_succ_eq_append_getElem ho, List.set_append_right _ _ (by simp; omega)]
              simp only [List.length_take, Nat.min_eq_left (Nat.le_of_lt ho), Nat.sub_self, List.set_cons_zero, List.append_assoc, List.length_cons, List.cons_append, List.nil_append]
              rw [show o + s + 1 + l.length = o + s + (l.length + 1) by omega]
          intro l o z hz
          have := key l o 0 z (by omega)
          simpa using this
        obtain ⟨zs', hz1, hz2, hz3⟩ := fill_ok ps pv (cs.take off ++ x.cells ++ cs.drop (off + x.cells.length)) cs' (zs.toList.take off ++ v.cells.toList ++ zs.toList.drop (off + v.cells.toList.length)).toArray h1 h2'
          (by simp [hl, c1]) (fun m c u hcm hum => by
            have hl' : cs.length = zs.toList.length := by simpa using hl
            have c1' : x.cells.length = v.cells.toList.length := by simpa using c1
            simp only [List.getElem?_toArray] at hum
            simp only [List.getElem?_append, List.length_append, List.length_take, List.getElem?_take, List.getElem?_drop] at hcm hum
            rw [← hl', ← c1'] at hum
            split at hcm
            · rename_i q1
              rw [if_pos q1] at hum
              split at hcm
              · rename_i q2
                rw [if_pos q2] at hum
                split at hcm
                · rename_i q3
                  rw [if_pos q3] at hum
                  exact h m c u hcm (by simpa using hum)
                · cases hcm
              · rename_i q2
                rw [if_neg q2] at hum
                exact c2 _ c u hcm (by simpa using hum)
            · rename_i q1
              rw [if_neg q1] at hum
              exact h _ c u hcm (by simpa using hum)) hf
        refine ⟨zs', ?_, hz2, hz3⟩
        simp only [Instr.fill, hp]
        have hnot : ¬(v.cells.size ≠ size ∨ off + v.cells.size > zs.size) := by
          intro hh
          rcases hh with hh | hh
          · exact hh (by rw [← c1]; exact hsz)
          · rw [← c1, ← hl] at hh; omega
        rw [if_neg (by simpa using hnot)]
        have hf2 := hfold v.cells.toList off zs (by simp only [Array.length_toList]; rw [← c1, ← hl]; exact hle)
        rw [← Array.foldl_toList, Array.toList_zipIdx, hf2]
        exact hz1
      · cases hf
end Go.Kern
