/- The abstract layer, third part: what a step of memory does to the ghost state. Conditions: none. -/
import Derived.Test.YtaealcimocpnnaaGreatKnB
set_option linter.unusedVariables false
set_option linter.unusedSimpArgs false
namespace Go.Kern
open Go.RowKit

theorem ObAt.lt {g : Gh} {w : World} {o b : Nat} {x : Ob} (h : ObAt g w o b x) : b < w.heap.size := by
  cases x with
  | arr e rows => obtain ⟨sz, cells, _, hh, _⟩ := h; exact (Array.getElem?_eq_some_iff.1 hh).1
  | tip n e sz => obtain ⟨cap, cur, _, _, hh, _⟩ := h; exact (Array.getElem?_eq_some_iff.1 hh).1
  | map es => obtain ⟨en, ck, _, hh, _⟩ := h; exact (Array.getElem?_eq_some_iff.1 hh).1

theorem ObAt.keep {g g' : Gh} {w w' : World} {o b : Nat} {x : Ob} (h : ObAt g w o b x) (hle : g.Le g') (hw : w'.heap[b]? = w.heap[b]?) (hi : ∀ off, g'.imm b off = g.imm b off)
    (ht : ∀ m, g'.tipv o m = g.tipv o m) : ObAt g' w' o b x := by
  cases x with
  | arr e rows =>
    obtain ⟨sz, cells, ⟨n, h1, h1'⟩, h2, h3, h4, h5, h6⟩ := h
    exact ⟨sz, cells, ⟨n, hle.loc _ _ h1, h1'⟩, hw.trans h2, h3, h4, fun i c v hc hv => (h5 i c v hc hv).le hle, fun off => (hi off).trans (h6 off)⟩
  | tip n e sz =>
    obtain ⟨cap, cur, h1, h2, h3, h4, h5, h6, h7⟩ := h
    exact ⟨cap, cur, hle.tipv _ _ _ h1, fun m hm => (ht m).trans (h2 m hm), hw.trans h3, h4, h5, h6, fun off ho => (hi off).trans (h7 off ho)⟩
  | map es =>
    obtain ⟨en, ck, h1, h2, h3, h4⟩ := h
    exact ⟨en, ck, hle.loc _ _ h1, hw.trans h2, h3, fun i kv e hk he => ⟨(h4 i kv e hk he).1.le hle, (h4 i kv e hk he).2.le hle⟩⟩

theorem Conc.imm_lt {g : Gh} {w : World} {s : Store} (h : Conc g w s) {b o : Nat} {v : Value} (hi : g.imm b o = some v) : b < w.heap.size :=
  World.block_lt_of_cell? w ⟨b, o, none⟩ (h.imm b o v hi)

/-- A draw. -/
theorem Conc.drew {g : Gh} {w : World} {s : Store} (h : Conc g w s) : Conc g w.drew s :=
  ⟨h.below.drew, h.imm, h.loc, h.fresh, h.res, h.obj⟩

/-- More blocks, the old ones as they were, nothing said of the new ones. -/
theorem Conc.grow {g : Gh} {w w' : World} {s : Store} (h : Conc g w s) (hb : Below w.heap.size w w') : Conc g w' s := by
  have hsz := h.below.size
  have heq : ∀ k, k < w.heap.size → w'.heap[k]? = w.heap[k]? := hb.block
  refine ⟨h.below.trans (hb.mono hsz), fun b o v hi => ?_, fun o b sz n hl => ⟨(h.loc o b sz n hl).1, Nat.lt_of_lt_of_le (h.loc o b sz n hl).2 hb.size⟩, h.fresh, h.res, ?_⟩
  · exact (World.cell?_of_block (heq b (h.imm_lt hi))).trans (h.imm b o v hi)
  · obtain ⟨blk, h1, h2⟩ := h.obj
    exact ⟨blk, fun o x hx => ⟨(h1 o x hx).1, (h1 o x hx).2.keep (.refl g) (heq _ (h1 o x hx).2.lt) (fun _ => rfl) (fun _ => rfl)⟩, h2⟩

/-- The ghost state with a block of immutable cells more. -/
def Gh.addImm (g : Gh) (b : Nat) (cs : Array Value) (m : Nat) : Gh := { g with imm := fun b' o => if b' = b then (if o < m then cs[o]? else none) else g.imm b' o }

theorem Gh.Le_addImm {g : Gh} {w : World} {s : Store} (h : Conc g w s) (cs : Array Value) (m : Nat) : g.Le (g.addImm w.heap.size cs m) :=
  ⟨rfl, fun b o v hi => by
    have := h.imm_lt hi
    simp only [Gh.addImm]
    rw [if_neg (by omega)]; exact hi, fun _ _ h => h, fun _ _ _ h => h, rfl⟩

/-- A new block, of which the first m cells are immutable from now on. -/
theorem Conc.addImm {g : Gh} {w w' : World} {s : Store} (h : Conc g w s) (hb : Below w.heap.size w w') (cs : Array Value) (m : Nat)
    (hc : ∀ o v, o < m → cs[o]? = some v → w'.cell? ⟨w.heap.size, o, none⟩ = some v) : Conc (g.addImm w.heap.size cs m) w' s := by
  have h' := h.grow hb
  have hle := Gh.Le_addImm h cs m
  refine ⟨h'.below, fun b o v hi => ?_, h'.loc, h'.fresh, h'.res, ?_⟩
  · simp only [Gh.addImm] at hi
    split at hi
    · rename_i e
      subst e
      split at hi
      · exact hc o v (by assumption) hi
      · cases hi
    · exact h'.imm b o v hi
  · obtain ⟨blk, h1, h2⟩ := h'.obj
    refine ⟨blk, fun o x hx => ⟨(h1 o x hx).1, ?_⟩, h2⟩
    obtain ⟨blk0, h10, h20⟩ := h.obj
    have := (h1 o x hx).2
    by_cases hlt : blk o < w.heap.size
    · exact this.keep hle rfl (fun off => by simp only [Gh.addImm]; rw [if_neg (by omega)]) (fun _ => rfl)
    · -- an object of the old store lies in an old block
      exfalso
      cases x with
      | arr e rows => obtain ⟨sz, cells, ⟨n, hl, _⟩, _⟩ := this; exact hlt (h.loc _ _ _ _ hl).2
      | map es => obtain ⟨en, ck, hl, _⟩ := this; exact hlt (h.loc _ _ _ _ hl).2
      | tip n e sz =>
        obtain ⟨cap, cur, ht, _⟩ := this
        have h10' := (h10 o _ hx).2
        obtain ⟨cap', cur', ht', _, hh', _⟩ := h10'
        rw [ht'] at ht
        injection ht with ht
        injection ht with ht
        injection ht with ht
        injection ht with ht
        have := (Array.getElem?_eq_some_iff.1 hh').1
        omega

/-- The ghost state with one mutable object more. -/
def Gh.addLoc (g : Gh) (o : Nat) (x : Nat × Nat × Nat) : Gh := { g with loc := fun p => if p = o then some x else g.loc p }
theorem Gh.Le_addLoc {g : Gh} {o : Nat} (x : Nat × Nat × Nat) (h : g.loc o = none) : g.Le (g.addLoc o x) :=
  ⟨rfl, fun _ _ _ h => h, fun p y hp => by
    simp only [Gh.addLoc]
    rw [if_neg (fun e => by subst e; rw [h] at hp; cases hp)]; exact hp, fun _ _ _ h => h, rfl⟩

theorem Conc.old_lt {g : Gh} {w : World} {s : Store} {blk : Nat → Nat} (h1 : ∀ o x, s o = some x → g.w0.heap.size ≤ blk o ∧ ObAt g w o (blk o) x) {o : Nat} {x : Ob} (hx : s o = some x) : blk o < w.heap.size := (h1 o x hx).2.lt

/-- A new block that is a mutable object's (rows or a map). -/
theorem Conc.addObj {g : Gh} {w w' : World} {s : Store} (h : Conc g w s) (hb : Below w.heap.size w w') (hs : w.heap.size < w'.heap.size) (o : Nat) (ho : g.loc o = none) (hso : s o = none) (ht : ∀ m, g.tipv o m = none) (hnr : ¬ g.res o)
    (x : Ob) (sz n : Nat) (hx : ∀ g' : Gh, g.Le g' → g'.loc o = some (w.heap.size, sz, n) → (∀ off, g'.imm w.heap.size off = none) → ObAt g' w' o w.heap.size x) :
    Conc (g.addLoc o (w.heap.size, sz, n)) w' (s.put o x) := by
  have h' := h.grow hb
  have hle := Gh.Le_addLoc (g := g) (w.heap.size, sz, n) ho
  refine ⟨h'.below, h'.imm, fun p b sz' n' hl => ?_, ?_, fun p hp => ?_, ?_⟩
  · simp only [Gh.addLoc] at hl
    split at hl
    · injection hl with hl
      injection hl with hl _
      subst hl
      exact ⟨h.below.size, hs⟩
    · exact h'.loc p b sz' n' hl
  · obtain ⟨N, hN⟩ := h'.fresh
    refine ⟨max N (o + 1), fun p hp => ?_⟩
    have hpo : p ≠ o := by omega
    have := hN p (by omega)
    refine ⟨by simp only [Gh.addLoc]; rw [if_neg hpo]; exact this.1, this.2.1, by simp only [Store.put]; rw [if_neg hpo]; exact this.2.2.1, this.2.2.2⟩
  · have hpo : p ≠ o := fun e => hnr (by rw [← e]; exact hp)
    have := h'.res p hp
    exact ⟨by simp only [Gh.addLoc]; rw [if_neg hpo]; exact this.1, this.2.1, by simp only [Store.put]; rw [if_neg hpo]; exact this.2.2⟩
  · obtain ⟨blk, h1, h2⟩ := h.obj
    refine ⟨fun p => if p = o then w.heap.size else blk p, fun p y hp => ?_, fun p q y z hp hq he => ?_⟩
    · simp only [Store.put] at hp
      by_cases hpo : p = o
      · subst hpo
        rw [if_pos rfl] at hp
        injection hp with hp
        subst hp
        simp only [if_pos]
        refine ⟨h.below.size, hx _ hle (by simp [Gh.addLoc]) (fun off => ?_)⟩
        cases hi : (g.addLoc p (w.heap.size, sz, n)).imm w.heap.size off with
        | none => rfl
        | some v => exact absurd (h.imm_lt hi) (Nat.lt_irrefl _)
      · rw [if_neg hpo] at hp
        simp only [if_neg hpo]
        exact ⟨(h1 p y hp).1, (h1 p y hp).2.keep hle (hb.block _ (h1 p y hp).2.lt) (fun _ => rfl) (fun _ => rfl)⟩
    · simp only [Store.put] at hp hq
      by_cases hpo : p = o <;> by_cases hqo : q = o
      · rw [hpo, hqo]
      · rw [if_pos hpo] at hp; rw [if_neg hqo] at hq
        simp only [if_pos hpo, if_neg hqo] at he
        exact absurd (h1 q z hq).2.lt (by omega)
      · rw [if_neg hpo] at hp; rw [if_pos hqo] at hq
        simp only [if_neg hpo, if_pos hqo] at he
        exact absurd (h1 p y hp).2.lt (by omega)
      · rw [if_neg hpo] at hp; rw [if_neg hqo] at hq
        simp only [if_neg hpo, if_neg hqo] at he
        exact h2 p q y z hp hq he

/-- A mutable object is written, in its own block. -/
theorem Conc.write {g : Gh} {w w' : World} {s : Store} (h : Conc g w s) {o b : Nat} {x y : Ob} (hx : s o = some x) (hb : ∀ blk : Nat → Nat, ObAt g w o (blk o) x → blk o = b)
    (hw : ∀ k, k ≠ b → w'.heap[k]? = w.heap[k]?) (hos : w'.os = w.os) (htp : w'.tape = w.tape) (hout : w'.output = w.output) (hsz : w'.heap.size = w.heap.size)
    (hi : ∀ off, g.imm b off = none) (hy : ObAt g w' o b y) : Conc g w' (s.put o y) := by
  obtain ⟨blk, h1, h2⟩ := h.obj
  have hbo : blk o = b := hb blk (h1 o x hx).2
  have hge : g.w0.heap.size ≤ b := by rw [← hbo]; exact (h1 o x hx).1
  refine ⟨h.below.trans ⟨hos, htp, hout, by omega, fun k hk => hw k (by omega)⟩, fun b' off v hv => ?_, fun p b' sz n hl => ⟨(h.loc p b' sz n hl).1, by rw [hsz]; exact (h.loc p b' sz n hl).2⟩, ?_, fun p hp => ?_, ?_⟩
  · have hne : b' ≠ b := fun e => by subst e; rw [hi off] at hv; cases hv
    exact (World.cell?_of_block (a := ⟨b', off, none⟩) (hw b' hne)).trans (h.imm b' off v hv)
  · obtain ⟨N, hN⟩ := h.fresh
    refine ⟨N, fun p hp => ⟨(hN p hp).1, (hN p hp).2.1, ?_, (hN p hp).2.2.2⟩⟩
    simp only [Store.put]
    by_cases hpo : p = o
    · subst hpo; rw [(hN p hp).2.2.1] at hx; cases hx
    · rw [if_neg hpo]; exact (hN p hp).2.2.1
  · have hr := h.res p hp
    refine ⟨hr.1, hr.2.1, ?_⟩
    simp only [Store.put]
    by_cases hpo : p = o
    · subst hpo; rw [hr.2.2] at hx; cases hx
    · rw [if_neg hpo]; exact hr.2.2
  · refine ⟨blk, fun p z hp => ?_, fun p q u v hp hq he => ?_⟩
    · simp only [Store.put] at hp
      by_cases hpo : p = o
      · subst hpo; rw [if_pos rfl] at hp; injection hp with hp; subst hp
        rw [hbo]; exact ⟨hge, hy⟩
      · rw [if_neg hpo] at hp
        have hne : blk p ≠ b := fun e => hpo (h2 p o z x hp hx (by rw [e, hbo]))
        exact ⟨(h1 p z hp).1, (h1 p z hp).2.keep (.refl g) (hw _ hne) (fun _ => rfl) (fun _ => rfl)⟩
    · have hp' : ∃ u', s p = some u' := by
        simp only [Store.put] at hp
        by_cases hpo : p = o
        · subst hpo; exact ⟨x, hx⟩
        · rw [if_neg hpo] at hp; exact ⟨u, hp⟩
      have hq' : ∃ u', s q = some u' := by
        simp only [Store.put] at hq
        by_cases hqo : q = o
        · subst hqo; exact ⟨x, hx⟩
        · rw [if_neg hqo] at hq; exact ⟨v, hq⟩
      exact h2 p q _ _ hp'.choose_spec hq'.choose_spec he

theorem Conc.rename {g : Gh} {w : World} {s : Store} (h : Conc g w s) {o o' : Nat} {et : TypeId} {rows : List AV} {b sz n : Nat} (hy : s o = some (.arr et rows)) (hl : g.loc o = some (b, sz, n)) (hlo : g.loc o' = none) (hso : s o' = none) (ht : ∀ m, g.tipv o' m = none) (hnr : ¬ g.res o') :
    Conc (g.addLoc o' (b, sz, n)) w ((s.drop o).put o' (.arr et rows)) := by
  have hle := Gh.Le_addLoc (g := g) (b, sz, n) hlo
  have hne : o' ≠ o := fun e => by rw [e, hl] at hlo; cases hlo
  have hput : ∀ p, ((s.drop o).put o' (.arr et rows)) p = if p = o' then some (.arr et rows) else if p = o then none else s p := fun p => rfl
  refine ⟨h.below, h.imm, fun p b' sz' n' hp => ?_, ?_, fun p hp => ?_, ?_⟩
  · simp only [Gh.addLoc] at hp
    split at hp
    · injection hp with hp
      injection hp with hp _
      subst hp
      exact h.loc o _ _ _ hl
    · exact h.loc p b' sz' n' hp
  · obtain ⟨N, hN⟩ := h.fresh
    refine ⟨max N (o' + 1), fun p hp => ?_⟩
    have hpo : p ≠ o' := by omega
    have := hN p (by omega)
    refine ⟨by simp only [Gh.addLoc]; rw [if_neg hpo]; exact this.1, this.2.1, ?_, this.2.2.2⟩
    rw [hput, if_neg hpo, this.2.2.1]; simp
  · have hpo : p ≠ o' := fun e => hnr (by rw [← e]; exact hp)
    have := h.res p hp
    refine ⟨by simp only [Gh.addLoc]; rw [if_neg hpo]; exact this.1, this.2.1, ?_⟩
    rw [hput, if_neg hpo, this.2.2]; simp
  · obtain ⟨blk, h1, h2⟩ := h.obj
    have hbo : blk o = b := by
      obtain ⟨_, sz', cells, ⟨n', hl', _⟩, _⟩ := h1 o _ hy
      rw [hl] at hl'
      injection hl' with hl'
      injection hl' with hl' _
      exact hl'.symm
    refine ⟨fun p => if p = o' then b else blk p, fun p y hp => ?_, fun p q y z hp hq he => ?_⟩
    · rw [hput] at hp
      by_cases hpo : p = o'
      · subst hpo
        rw [if_pos rfl] at hp
        injection hp with hp
        subst hp
        simp only [if_pos]
        obtain ⟨hB, sz', cells, ⟨n', hl', h3⟩, h4, h5, h6, h7, h8⟩ := h1 o _ hy
        rw [hl] at hl'
        injection hl' with hl'
        injection hl' with e1 e2
        injection e2 with e2 e3
        subst e2; subst e3
        rw [hbo] at hB h4 h8
        exact ⟨hB, sz, cells, ⟨n, by simp [Gh.addLoc], h3⟩, h4, h5, h6, fun i c v a b => (h7 i c v a b).le hle, h8⟩
      · rw [if_neg hpo] at hp
        by_cases hpo2 : p = o
        · rw [if_pos hpo2] at hp; cases hp
        · rw [if_neg hpo2] at hp
          simp only [if_neg hpo]
          exact ⟨(h1 p y hp).1, (h1 p y hp).2.keep hle rfl (fun _ => rfl) (fun _ => rfl)⟩
    · rw [hput] at hp hq
      by_cases hpo : p = o' <;> by_cases hqo : q = o'
      · rw [hpo, hqo]
      · rw [if_neg hqo] at hq
        simp only [if_pos hpo, if_neg hqo] at he
        by_cases hq2 : q = o
        · rw [if_pos hq2] at hq; cases hq
        · rw [if_neg hq2] at hq
          exact absurd (h2 q o z _ hq hy (by rw [hbo, he])) hq2
      · rw [if_neg hpo] at hp
        simp only [if_neg hpo, if_pos hqo] at he
        by_cases hp2 : p = o
        · rw [if_pos hp2] at hp; cases hp
        · rw [if_neg hp2] at hp
          exact absurd (h2 p o y _ hp hy (by rw [hbo, he])) hp2
      · rw [if_neg hpo] at hp
        rw [if_neg hqo] at hq
        simp only [if_neg hpo, if_neg hqo] at he
        by_cases hp2 : p = o
        · rw [if_pos hp2] at hp; cases hp
        · by_cases hq2 : q = o
          · rw [if_pos hq2] at hq; cases hq
          · rw [if_neg hp2] at hp
            rw [if_neg hq2] at hq
            exact h2 p q y z hp hq he

/-- A fresh number for an object. -/
theorem Conc.new {g : Gh} {w : World} {s : Store} (h : Conc g w s) : ∃ o, s o = none ∧ g.loc o = none ∧ (∀ m, g.tipv o m = none) ∧ ¬ g.res o := by
  obtain ⟨N, hN⟩ := h.fresh
  exact ⟨N, (hN N (Nat.le_refl _)).2.2.1, (hN N (Nat.le_refl _)).1, (hN N (Nat.le_refl _)).2.1, (hN N (Nat.le_refl _)).2.2.2⟩
end Go.Kern
