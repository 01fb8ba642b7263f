/- The abstract layer, nineteenth part: what was mutable is written no more. Conditions: none. -/
import Derived.Test.YtaealcimocpnnaaGreatKnR
set_option linter.unusedVariables false
set_option linter.unusedSimpArgs false
namespace Go.Kern
open Go.RowKit

theorem Gh.Le_addFrz {g : Gh} {b : Nat} {cs : Array Value} {m : Nat} (hn : ∀ off, g.imm b off = none) : g.Le (g.addImm b cs m) :=
  ⟨rfl, fun b' o v hi => by
    simp only [Gh.addImm]
    by_cases e : b' = b
    · subst e; rw [hn] at hi; cases hi
    · rw [if_neg e]; exact hi, fun _ _ h => h, fun _ _ _ h => h, rfl⟩

theorem drop_some {s : Store} {o p : Nat} {x : Ob} (h : (s.drop o) p = some x) : p ≠ o ∧ s p = some x := by
  simp only [Store.drop] at h
  split at h
  · cases h
  · exact ⟨by assumption, h⟩

/-- A mutable object's rows are immutable from now on. -/
theorem Conc.freeze {g : Gh} {w : World} {s : Store} (h : Conc g w s) {o : Nat} {e : TypeId} {rows : List AV} (ho : s o = some (.arr e rows)) :
    ∃ g', g.Le g' ∧ Conc g' w (s.drop o) ∧
      (∀ sz st len v, st + len ≤ rows.length → R g (.ms o sz st len) v → R g' (.sl .imm ((rows.drop st).take len)) v) ∧
      (∀ i off x v, rows[i]? = some x → R g (.ptr o i off) v → R g' (.ip x off) v) := by
  obtain ⟨blk, h1, h2⟩ := h.obj
  obtain ⟨hb, sz, cells, ⟨n, hl, hsz⟩, hh, hrow, hfit, hcell, himm⟩ := h1 o _ ho
  have hle : g.Le (g.addImm (blk o) cells (rows.length * sz)) := Gh.Le_addFrz himm
  have hcl : (cellsL rows).length = rows.length * sz := cellsL_length rows hrow
  have hget : ∀ i, i < rows.length * sz → ∃ u, cells[i]? = some u := fun i hi => ⟨_, Array.getElem?_eq_getElem (by omega)⟩
  have hval : ∀ i c, (cellsL rows)[i]? = some c → R g c (cells.getD i undef) := fun i c hc => by
    have hi : i < rows.length * sz := by rw [← hcl]; exact (List.getElem?_eq_some_iff.1 hc).1
    obtain ⟨u, hu⟩ := hget i hi
    rw [Array.getD_eq_getD_getElem?, hu]
    exact hcell i c u hc hu
  have himm2 : ∀ i, i < rows.length * sz → (g.addImm (blk o) cells (rows.length * sz)).imm (blk o) i = some (cells.getD i undef) := fun i hi => by
    obtain ⟨u, hu⟩ := hget i hi
    simp only [Gh.addImm]
    rw [if_pos trivial, if_pos hi, Array.getD_eq_getD_getElem?, hu]
    rfl
  refine ⟨_, hle, ⟨h.below, fun b off v hi => ?_, h.loc, ?_, ?_, blk, fun p x hx => ?_, fun p q x y hx hy => ?_⟩, ?_, ?_⟩
  · simp only [Gh.addImm] at hi
    split at hi
    · rename_i eb
      subst eb
      split at hi
      · simp [World.cell?, hh, hi]
      · cases hi
    · exact h.imm b off v hi
  · obtain ⟨N, hN⟩ := h.fresh
    exact ⟨N, fun p hp => ⟨(hN p hp).1, (hN p hp).2.1, by simp only [Store.drop]; split; · rfl
                                                          · exact (hN p hp).2.2.1, (hN p hp).2.2.2⟩⟩
  · exact fun p hp => ⟨(h.res p hp).1, (h.res p hp).2.1, by simp only [Store.drop]; split; · rfl
                                                            · exact (h.res p hp).2.2⟩
  · obtain ⟨hne, hx⟩ := drop_some hx
    refine ⟨(h1 p x hx).1, (h1 p x hx).2.keep hle rfl (fun off => ?_) (fun _ => rfl)⟩
    simp only [Gh.addImm]
    rw [if_neg (fun eb => hne (h2 p o x _ hx ho eb))]
  · exact h2 p q x y (drop_some hx).2 (drop_some hy).2
  · intro sz' st len v hst hv
    cases hv with
    | ms hb' hc hlen ha =>
      rename_i b' n' cap a
      rw [hl] at hb'
      injection hb' with hb'
      injection hb' with e1 e2
      injection e2 with e2 e3
      subst e1; subst e2; subst e3
      have hlen2 : ((rows.drop st).take len).length = len := by rw [List.length_take, List.length_drop]; omega
      have hm : ∀ x, x ∈ (rows.drop st).take len → x.cells.length = sz := fun x hx => hrow x (List.mem_of_mem_drop (List.mem_of_mem_take hx))
      have hcl2 : (cellsL ((rows.drop st).take len)).length = len * sz := by rw [cellsL_length _ hm, hlen2]
      have hidx : ∀ i c, (cellsL ((rows.drop st).take len))[i]? = some c → (cellsL rows)[st * sz + i]? = some c := fun i c hc => by
        have hi : i < len * sz := by rw [← hcl2]; exact (List.getElem?_eq_some_iff.1 hc).1
        have hpos : 0 < sz := by
          rcases Nat.eq_zero_or_pos sz with e0 | e0
          · subst e0; omega
          · exact e0
        rw [cellsL_get hpos _ hm] at hc
        rw [cellsL_get hpos _ hrow]
        have q1 : (st * sz + i) / sz = st + i / sz := by rw [Nat.mul_comm, Nat.mul_add_div hpos]
        have q2 : (st * sz + i) % sz = i % sz := by rw [Nat.mul_comm, Nat.mul_add_mod]
        have hil : i / sz < len := Nat.div_lt_of_lt_mul (by rw [Nat.mul_comm]; exact hi)
        rw [q1, q2]
        rw [List.getElem?_take, if_pos hil, List.getElem?_drop] at hc
        exact hc
      have := R.sl (g := g.addImm (blk o) cells (rows.length * sz)) (k := .imm) (xs := (rows.drop st).take len) (a := a) (cap := cap) (sz := sz) (vs := fun i => cells.getD (st * sz + i) undef) (by show _ ≤ _; omega)
        (fun hne => by
          have hlp : 0 < len := by
            rcases Nat.eq_zero_or_pos len with e0 | e0
            · subst e0; simp at hne
            · exact e0
          rw [ha (by omega)])
        hm (fun i hi => ?_) (fun i c hc => (hval _ c (hidx i c hc)).le hle)
      · rw [hlen2] at this; exact this
      · rw [hcl2] at hi
        have hlp : 0 < len := by
          rcases Nat.eq_zero_or_pos len with e0 | e0
          · subst e0; omega
          · exact e0
        rw [ha (by omega)]
        refine himm2 _ ?_
        have : (st + len) * sz ≤ rows.length * sz := Nat.mul_le_mul_right _ hst
        rw [Nat.add_mul] at this
        show st * sz + i < _
        omega
  · intro i off x v hx hv
    cases hv with
    | ptr hb' =>
      rename_i b' sz' n'
      rw [hl] at hb'
      injection hb' with hb'
      injection hb' with e1 e2
      injection e2 with e2 e3
      subst e1; subst e2; subst e3
      have hil : i < rows.length := (List.getElem?_eq_some_iff.1 hx).1
      have hxs : x.cells.length = sz := hrow x (List.mem_of_getElem? hx)
      refine R.ip (base := i * sz) (vs := fun j => cells.getD (i * sz + j) undef) rfl rfl (fun j hj => himm2 _ ?_) (fun j c hc => (hval _ c ?_).le hle)
      · have : (i + 1) * sz ≤ rows.length * sz := Nat.mul_le_mul_right _ hil
        rw [Nat.add_mul, Nat.one_mul] at this
        omega
      · have hj : j < sz := by rw [← hxs]; exact (List.getElem?_eq_some_iff.1 hc).1
        rw [cellsL_row rows hrow i j x hx hj]
        exact hc

/-- A growing slice that grows no more. -/
theorem R.tip_imm {g : Gh} {k : SK} {xs : List AV} {v : Value} (h : R g (.sl k xs) v) (hk : k.isNil = false) : R g (.sl .imm xs) v := by
  cases h with
  | slnil => cases hk
  | sl hk' hs hu hi h =>
    refine .sl ?_ hs hu hi h
    cases k with
    | nil => cases hk
    | imm => exact hk'
    | full => show _ ≤ _; rw [show _ = _ from hk']; exact Nat.le_refl _
    | tip o => exact hk'.1

/-- What a call's answer is taken as: as it is; a growing slice as one that grows no more; mutable rows as frozen ones. -/
inductive Fin (K : KK) (r : AV) (s : Store) : Prop where
  | as (h : K r s)
  | imm (k : SK) (xs : List AV) (hr : r = .sl k xs) (hk : k.isNil = false) (h : K (.sl .imm xs) s)
  | frz (o sz n : Nat) (e : TypeId) (rows : List AV) (hr : r = .ms o sz 0 n) (hs : s o = some (.arr e rows)) (hn : n ≤ rows.length) (h : K (.sl .imm (rows.take n)) (s.drop o))

theorem PCall_fin {P : Program} {f : FuncId} {args : List AV} {σ : Store} {K0 K : KK} (h : PCall P f args σ K0) (hk : ∀ r s, K0 r s → Fin (fun r s => ∃ s0 : Store, s0.Sub s ∧ K r s0) r s) : PCall P f args σ K :=
  ⟨h.1, fun g w vs hl hr hc => (h.2 g w vs hl hr hc).mono fun _ _ ⟨v, he, g', r, σ', h1, h2, h3, h4⟩ => by
    rcases hk _ _ h4 with ⟨s0, q1, q2⟩ | ⟨kd, xs, rfl, hkd, s0, q1, q2⟩ | ⟨o, sz, n, et, rows, rfl, hs, hn, s0, p1, p2⟩
    · exact ⟨v, he, g', _, _, h1, h2.sub q1, h3, q2⟩
    · exact ⟨v, he, g', _, _, h1, h2.sub q1, h3.tip_imm hkd, q2⟩
    · obtain ⟨g2, q1, q2, q3, _⟩ := h2.freeze hs
      have := q3 sz 0 n v (by omega) h3
      exact ⟨v, he, g2, _, _, h1.trans q1, q2.sub p1, by simpa using this, p2⟩⟩

/-- What lies in the frozen object, as it is seen from now on. -/
def frz (o : Nat) (rows : List AV) : AV → AV
  | .ms p sz st len => if p = o then (if st + len ≤ rows.length then .sl .imm ((rows.drop st).take len) else .any) else .ms p sz st len
  | .ptr p i off => if p = o then (match rows[i]? with
    | some x => .ip x off
    | none => .any) else .ptr p i off
  | x => x
def Env.frz (o : Nat) (rows : List AV) (ρ : Env) : Env := ρ.map fun e => (e.1, Kern.frz o rows e.2)
theorem Env.frz_get (o : Nat) (rows : List AV) : ∀ (ρ : Env) (i : Nat), (ρ.frz o rows).get i = Kern.frz o rows (ρ.get i)
  | [], i => rfl
  | (j, v) :: r, i => by
    simp only [Env.frz, List.map_cons, Env.get]
    split
    · rfl
    · exact Env.frz_get o rows r i

theorem W_freeze {P : Program} {n : Nat} {c : Code} {Q : Post} {ρ : Env} {σ : Store} {o : Nat} {e : TypeId} {rows : List AV} (ho : σ o = some (.arr e rows)) (h : W P n c Q (ρ.frz o rows) (σ.drop o)) : W P n c Q ρ σ := by
  intro g a w hd he hc
  obtain ⟨g2, q1, q2, q3, q4⟩ := hc.freeze ho
  refine wp_mono (h g2 a w hd ⟨he.size, fun i => ?_⟩ q2) fun _ _ _ hl => hl.mono q1 (fun _ _ _ h => h)
  rw [Env.frz_get]
  have hi := he.get i
  generalize ρ.get i = x at hi
  generalize a.tmps.getD i undef = v at hi
  unfold frz
  split
  · rename_i p sz st len
    split
    · rename_i e
      subst e
      split
      · rename_i hst; exact q3 sz st len v hst hi
      · exact .any _
    · exact hi.le q1
  · rename_i p j off
    split
    · rename_i e
      subst e
      split
      · rename_i x hx; exact q4 j off x v hx hi
      · exact .any _
    · exact hi.le q1
  · exact hi.le q1

end Go.Kern
