/- The abstract layer, seventh part: conversions, slicing, literals, boxes. Conditions: none. -/
import Derived.Test.YtaealcimocpnnaaGreatKnF
set_option linter.unusedVariables false
set_option linter.unusedSimpArgs false
namespace Go.Kern
open Go.RowKit

theorem sound_un {P : Program} {w : World} {op : UnOp} {x : AV} {v : Value} {g : Gh} (hx : R g x v) {k : AV → Prop} (hk : unA op x k) :
    ∃ u r, (Op.unary op v).run P w = .ok u w ∧ R g r u ∧ k r := by
  unfold unA at hk
  split at hk
  · cases hx; exact ⟨_, _, rfl, .bool _, hk⟩
  · cases hx; exact ⟨_, _, rfl, .int _ _, hk⟩
  · exact hk.elim

theorem sound_conv {P : Program} {w : World} {s d : TypeId} {x : AV} {v : Value} {g : Gh} (hx : R g x v) {k : AV → Prop} (hk : convA (tyOf P s) (tyOf P d) x k) :
    ∃ u r, (convert s d v).run P w = .ok u w ∧ R g r u ∧ k r := by
  obtain ⟨hs, hd, hk⟩ := hk
  obtain ⟨i1, d1, a1, a2, a3⟩ := ty_ok hs
  obtain ⟨i2, d2, b1, b2, b3⟩ := ty_ok hd
  rw [b3] at hk
  cases d2 <;> cases x <;> simp only [kindOf] at hk <;> first | exact hk.elim | skip
  · cases hx
    exact ⟨.int _ _, _, by simp [convert, run_underlying a2, run_underlying b2, Conv.intToInt], .int _ _, hk⟩
  · cases hx
    exact ⟨.string _, _, by cases d1 <;> (simp [convert, run_underlying a2, run_underlying b2]), .str _, hk⟩

theorem mem_cut {xs : List AV} {l h : Nat} {x : AV} (hx : x ∈ (xs.take h).drop l) : x ∈ xs := List.mem_of_mem_take (List.mem_of_mem_drop hx)

theorem cellsL_cut {sz : Nat} (xs : List AV) (hu : ∀ x ∈ xs, x.cells.length = sz) (l h i : Nat) (hi : i < (cellsL ((xs.take h).drop l)).length) :
    (cellsL xs)[l * sz + i]? = (cellsL ((xs.take h).drop l))[i]? := by
  have hu' : ∀ x ∈ (xs.take h).drop l, x.cells.length = sz := fun x hx => hu x (mem_cut hx)
  rcases Nat.eq_zero_or_pos sz with h0 | h0
  · rw [cellsL_length _ hu', h0] at hi; omega
  · rw [cellsL_get h0 _ hu', cellsL_get h0 _ hu, Nat.mul_comm, Nat.mul_add_div h0, Nat.mul_add_mod]
    have hlt : i / sz < ((xs.take h).drop l).length := by
      rw [cellsL_length _ hu'] at hi
      exact Nat.div_lt_of_lt_mul (by rw [Nat.mul_comm]; exact hi)
    have : ((xs.take h).drop l)[i / sz]? = xs[l + i / sz]? := by
      rw [List.getElem?_drop, List.getElem?_take]
      rw [List.length_drop, List.length_take] at hlt
      generalize i / sz = q at hlt ⊢
      rw [if_pos (by omega)]
    rw [this]

theorem run_bound {P : Program} {w : World} (kk : IntKind) (i : Int) (y : Nat) (c : BoundsCode) (h0 : 0 ≤ i) (h1 : i ≤ y) : (Instr.sliceBound (.int kk i) y c).run P w = .ok i.toNat w := by
  simp [Instr.sliceBound, asIntOf, h0, h1]

/-- The bounds of a slicing, as values. -/
theorem run_bounds {P : Program} {w : World} {g : Gh} (isS : Bool) (len cap : Nat) (hlc : len ≤ cap) {lo hi : Option AV} {lo' hi' : Option Value}
    (hlo : ∀ a, lo = some a → ∃ v, lo' = some v ∧ R g a v) (hlo0 : lo = none → lo' = none) (hhi : ∀ a, hi = some a → ∃ v, hi' = some v ∧ R g a v) (hhi0 : hi = none → hi' = none)
    {l h : Int} (hl : boundA 0 lo = some l) (hh : boundA len hi = some h) (h0 : 0 ≤ l) (h1 : l ≤ h) (h2 : h ≤ len) :
    (Instr.sliceBounds isS len cap lo' hi' none).run P w = .ok (l.toNat, h.toNat, cap) w := by
  have hlow : ∀ c, ((match lo' with | some v => Instr.sliceBound v h.toNat c | none => pure 0 : Sem Nat)).run P w = .ok l.toNat w := by
    intro c
    cases lo with
    | none =>
      rw [hlo0 rfl]
      simp only [boundA, Option.some.injEq] at hl
      subst hl
      rfl
    | some a =>
      obtain ⟨v, rfl, hr⟩ := hlo a rfl
      cases a <;> simp only [boundA, Option.some.injEq] at hl <;> try (cases hl; done)
      subst hl
      cases hr
      exact run_bound _ _ _ _ h0 (by omega)
  cases hi with
  | none =>
    rw [hhi0 rfl]
    simp only [boundA, Option.some.injEq] at hh
    subst hh
    have := hlow .sliceB
    simp only [Int.toNat_natCast] at this
    cases lo' with
    | none => simp only [Instr.sliceBounds]; simp at this ⊢; exact this
    | some v => simp only [Instr.sliceBounds]; simp at this ⊢; simp [this]
  | some a =>
    obtain ⟨v, rfl, hr⟩ := hhi a rfl
    cases a <;> simp only [boundA, Option.some.injEq] at hh <;> try (cases hh; done)
    subst hh
    cases hr
    rename_i kk n
    have hb : ∀ c, (Instr.sliceBound (.int kk n) cap c).run P w = .ok n.toNat w := fun c => run_bound _ _ _ _ (by omega) (by omega)
    have := hlow .sliceB
    cases lo' with
    | none => simp only [Instr.sliceBounds]; simp [hb] at this ⊢; exact this
    | some v => simp only [Instr.sliceBounds]; simp [hb] at this ⊢; simp [this]

theorem run_bounds3 {P : Program} {w : World} {g : Gh} (len cap : Nat) (hlc : len ≤ cap) {lo : Option AV} {lo' : Option Value} (hlo : ∀ a, lo = some a → ∃ v, lo' = some v ∧ R g a v) (hlo0 : lo = none → lo' = none)
    (k1 k2 : IntKind) {l h : Int} (hl : boundA 0 lo = some l) (h0 : 0 ≤ l) (h1 : l ≤ h) (h2 : h ≤ len) :
    (Instr.sliceBounds true len cap lo' (some (.int k1 h)) (some (.int k2 h))).run P w = .ok (l.toNat, h.toNat, h.toNat) w := by
  have hb : ∀ kk y c, h ≤ (y : Nat) → (Instr.sliceBound (.int kk h) y c).run P w = .ok h.toNat w := fun kk y c hy => run_bound _ _ _ _ (by omega) hy
  have hlow : ∀ c, ((match lo' with | some v => Instr.sliceBound v h.toNat c | none => pure 0 : Sem Nat)).run P w = .ok l.toNat w := by
    intro c
    cases lo with
    | none =>
      rw [hlo0 rfl]
      simp only [boundA, Option.some.injEq] at hl
      subst hl
      rfl
    | some a =>
      obtain ⟨v, rfl, hr⟩ := hlo a rfl
      cases a <;> simp only [boundA, Option.some.injEq] at hl <;> try (cases hl; done)
      subst hl
      cases hr
      exact run_bound _ _ _ _ h0 (by omega)
  have hb1 := fun c => hb k2 cap c (by omega)
  have hb2 := fun c => hb k1 h.toNat c (by omega)
  have := hlow .slice3C
  cases lo' with
  | none => simp only [Instr.sliceBounds]; simp [hb1, hb2] at this ⊢; exact this
  | some v => simp only [Instr.sliceBounds]; simp [hb1, hb2] at this ⊢; simp [this]

theorem R_cut {g : Gh} {kd : SK} {xs : List AV} {v : Value} (hx : R g (.sl kd xs) v) {size l h m : Nat} (hsz : ∀ x ∈ xs, x.cells.length = size) (h1 : l ≤ h) (h2 : h ≤ xs.length) (kd' : SK)
    (hkd : kd' = kd.cut ∨ (kd' = kd.cutFull ∧ m = h)) :
    ∀ a n cap, v = .slice a n cap → n = xs.length ∧ n ≤ cap ∧ (h ≤ m → m ≤ cap → R g (.sl kd' ((xs.take h).drop l)) (.slice (if m = l then a else a.map (·.add (l * size))) (h - l) (m - l))) := by
  intro a n cap hv
  cases hx with
  | slnil =>
    injection hv with e1 e2 e3
    subst e1; subst e2; subst e3
    refine ⟨rfl, Nat.le_refl _, fun hm hmc => ?_⟩
    simp at h2
    have : l = 0 := by omega
    have hm0 : m = 0 := by omega
    subst h2; subst this; subst hm0
    have : kd' = .nil := by rcases hkd with e | ⟨e, _⟩ <;> simpa [SK.cut, SK.cutFull] using e
    subst this
    simp
    exact .slnil
  | sl hk hs hu hi hr =>
    rename_i a0 cap0 sz vs
    injection hv with e1 e2 e3
    subst e1; subst e2; subst e3
    have hcap : xs.length ≤ cap0 := by
      cases kd with
      | nil => exact hk.elim
      | imm => exact hk
      | full => have : cap0 = xs.length := hk; omega
      | tip o => exact hk.1
    refine ⟨rfl, hcap, fun hm hmc => ?_⟩
    have hlen : ((xs.take h).drop l).length = h - l := by simp; omega
    have hnn : kd ≠ .nil := by rintro rfl; exact hk
    have hk' : ∀ a', SKOk g kd' a' ((xs.take h).drop l).length (m - l) := by
      intro a'
      rcases hkd with e | ⟨e, rfl⟩
      · have : kd' = .imm := by cases kd <;> first | exact (hnn rfl).elim | simpa [SK.cut, SK.cutFull] using e
        subst this
        simp only [SKOk]
        omega
      · have : kd' = .full := by cases kd <;> first | exact (hnn rfl).elim | simpa [SK.cut, SK.cutFull] using e
        subst this
        simp only [SKOk]
        omega
    have hu' : ∀ x ∈ (xs.take h).drop l, x.cells.length = sz := fun x hx => hu x (mem_cut hx)
    have hgoal : ∀ a' : Addr, ((xs.take h).drop l ≠ [] → a' = ⟨a0.block, a0.off + l * sz, none⟩) → R g (.sl kd' ((xs.take h).drop l)) (.slice (some a') (h - l) (m - l)) := by
      intro a' ha'
      rw [← hlen]
      refine .sl (sz := sz) (vs := fun i => vs (l * sz + i)) (hk' a') (fun hne => by rw [ha' hne]) hu' (fun i hii => ?_) (fun i c hic => ?_)
      · have hne : (xs.take h).drop l ≠ [] := by intro e; rw [e] at hii; simp [cellsL] at hii
        rw [ha' hne]
        have := cellsL_cut xs hu l h i hii
        rw [List.getElem?_eq_getElem hii] at this
        have h3 := hi _ (List.getElem?_eq_some_iff.1 this).1
        simp only
        rw [Nat.add_assoc]
        exact h3
      · have hii : i < (cellsL ((xs.take h).drop l)).length := (List.getElem?_eq_some_iff.1 hic).1
        exact hr _ c ((cellsL_cut xs hu l h i hii).trans hic)
    by_cases hml : m = l
    · rw [if_pos hml]
      refine hgoal a0 (fun hne => absurd ?_ hne)
      rw [← List.length_eq_zero_iff]; omega
    · rw [if_neg hml]
      refine hgoal (a0.add (l * size)) (fun hne => ?_)
      have hxne : xs ≠ [] := by rintro rfl; simp at hne
      have hsp := hs hxne
      obtain ⟨x, hx⟩ := List.exists_mem_of_ne_nil xs hxne
      rw [← hu x hx, hsz x hx, add_spot hsp]

theorem sound_slice {P : Program} {w : World} {g : Gh} {t : TypeId} {x : AV} {v : Value} (hx : R g x v) {lo hi mx : Option AV} {lo' hi' mx' : Option Value}
    (hlo : ∀ a, lo = some a → ∃ v, lo' = some v ∧ R g a v) (hlo0 : lo = none → lo' = none) (hhi : ∀ a, hi = some a → ∃ v, hi' = some v ∧ R g a v) (hhi0 : hi = none → hi' = none)
    (hmx : ∀ a, mx = some a → ∃ v, mx' = some v ∧ R g a v) (hmx0 : mx = none → mx' = none) {k : AV → Prop} (hk : sliceA P (tyOf P t) x lo hi mx k) :
    ∃ u r, (Instr.sliceAt t v lo' hi' mx').run P w = .ok u w ∧ R g r u ∧ k r := by
  unfold sliceA at hk
  split at hk
  · rename_i s
    obtain ⟨hs, hm, hk⟩ := hk
    obtain ⟨ti, td, i1, i2, i3⟩ := ty_kind hs (by simp)
    cases td <;> simp [kindOf] at i3
    rw [hmx0 hm]
    split at hk
    · rename_i l h hl hh
      obtain ⟨h0, h1, h2, hk⟩ := hk
      cases hx
      have hb := run_bounds (P := P) (w := w) (g := g) false s.size s.size (Nat.le_refl _) hlo hlo0 hhi hhi0 hl hh h0 h1 h2
      exact ⟨_, _, by simp [Instr.sliceAt, Instr.slice, run_underlying i2, hb], .str _, hk⟩
    · exact hk.elim
  · rename_i kd xs
    obtain ⟨hs, hok, hsz, hk⟩ := hk
    replace hsz := fun x hx => (rowsOk_spec hsz x hx).2.1
    have i2 := ty_slice hs
    have hso := run_sizeOf' hok w
    obtain ⟨a, n, cap, rfl⟩ : ∃ a n cap, v = .slice a n cap := by cases hx <;> exact ⟨_, _, _, rfl⟩
    obtain ⟨hn, hnc, _⟩ := R_cut hx (size := (tyOf P (tyOf P t).elem).size) (l := 0) (h := 0) (m := 0) hsz (Nat.le_refl _) (Nat.zero_le _) _ (.inl rfl) a n cap rfl
    split at hk
    · rename_i l h hl hh
      obtain ⟨h0, h1, h2, hk⟩ := hk
      rw [hmx0 rfl]
      have hb := run_bounds (P := P) (w := w) (g := g) true n cap hnc hlo hlo0 hhi hhi0 hl (by rw [hn]; exact hh) h0 h1 (by omega)
      obtain ⟨_, _, hR⟩ := R_cut hx (size := (tyOf P (tyOf P t).elem).size) (l := l.toNat) (h := h.toNat) (m := cap) hsz (by omega) (by omega) _ (.inl rfl) a n cap rfl
      exact ⟨_, _, by simp [Instr.sliceAt, Instr.slice, run_underlying i2, hb, hso], hR (by omega) (Nat.le_refl _), hk⟩
    · rename_i l h km m hl hh
      obtain ⟨hsome, h0, h1, h2, hmh, hk⟩ := hk
      subst hmh
      obtain ⟨mv, rfl, hrm⟩ := hmx _ rfl
      cases hrm
      obtain ⟨ha, hha⟩ := Option.isSome_iff_exists.1 hsome
      subst hha
      obtain ⟨hv, rfl, hrh⟩ := hhi _ rfl
      cases ha <;> simp only [boundA, Option.some.injEq] at hh <;> try (cases hh; done)
      rename_i kz z
      subst hh
      cases hrh
      have hb := run_bounds3 (P := P) (w := w) (g := g) n cap hnc hlo hlo0 kz km hl h0 h1 (by omega)
      obtain ⟨_, _, hR⟩ := R_cut hx (size := (tyOf P (tyOf P t).elem).size) (l := l.toNat) (h := z.toNat) (m := z.toNat) hsz (by omega) (by omega) _ (.inr ⟨rfl, rfl⟩) a n cap rfl
      exact ⟨_, _, by simp [Instr.sliceAt, Instr.slice, run_underlying i2, hb, hso], hR (Nat.le_refl _) (by omega), hk⟩
    · exact hk.elim
  · rename_i o sz st n
    obtain ⟨hs, hok, rfl, hm, hk⟩ := hk
    have i2 := ty_slice hs
    have hso := run_sizeOf' hok w
    rw [hmx0 hm]
    split at hk
    · rename_i l h hl hh
      obtain ⟨h0, h1, h2, hk⟩ := hk
      cases hx with
      | ms hb hc hln ha =>
        rename_i b nn cap a
        have hbd := run_bounds (P := P) (w := w) (g := g) true n cap hln hlo hlo0 hhi hhi0 hl hh h0 h1 (by omega)
        refine ⟨.slice (if cap = l.toNat then some a else (some a).map (·.add (l.toNat * (tyOf P (tyOf P t).elem).size))) (h.toNat - l.toNat) (cap - l.toNat), _, by simp [Instr.sliceAt, Instr.slice, run_underlying i2, hbd, hso], ?_, hk⟩
        by_cases hcl : cap = l.toNat
        · rw [if_pos hcl]
          exact .ms hb (by omega) (by omega) (fun hp => by omega)
        · rw [if_neg hcl]
          have hcp : 0 < cap := by omega
          have := ha hcp
          subst this
          rw [Option.map_some, add_spot rfl]
          exact .ms hb (by omega) (by omega) (fun hp => by simp only [Nat.add_mul])
    · exact hk.elim
  · exact hk.elim
end Go.Kern
