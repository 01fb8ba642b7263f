/- The abstract layer, twelfth part: all operations in one; regions. Conditions: none. -/
import Derived.Test.YtaealcimocpnnaaGreatKnV
set_option linter.unusedVariables false
set_option linter.unusedSimpArgs false
namespace Go.Kern
open Go.RowKit

theorem cells_replicate {z : Value} {sz : Nat} (h : z.cells.size = sz) (hs : 0 < sz) (n : Nat) : (madeCells z.cells (n * sz)).toList = (List.replicate n z).flatMap fun v => v.cells.toList := by
  apply List.ext_getElem?
  intro i
  rw [Great.flat_get hs _ (fun v hv => by rw [List.eq_of_mem_replicate hv]; exact h)]
  simp only [madeCells]
  by_cases hi : i < n * sz
  · have hq : i / sz < n := Nat.div_lt_of_lt_mul (by rw [Nat.mul_comm]; exact hi)
    have hm : i % sz < z.cells.size := by rw [h]; exact Nat.mod_lt _ hs
    rw [List.getElem?_replicate, if_pos hq]
    simp [hi, h, Nat.mod_lt _ hs]
  · have hq : ¬ i / sz < n := by
      rw [Nat.div_lt_iff_lt_mul hs]; exact hi
    rw [List.getElem?_replicate, if_neg hq]
    simp; omega

theorem sound_makeSlice {P : Program} {g : Gh} {w : World} {σ : Store} (hc : Conc g w σ) {t : TypeId} {l c : AV} {lv cv : Value} (hl : R g l lv) (hcv : R g c cv) {k : KK} (hk : makeSliceA P (tyOf P t) l c σ k) :
    ∃ r w' g' a σ', (Instr.makeSlice t lv cv).run P w = .ok r w' ∧ g.Le g' ∧ Conc g' w' σ' ∧ R g' a r ∧ k a σ' := by
  obtain ⟨hkind, hoe, hk⟩ := hk
  have hu := ty_slice hkind
  obtain ⟨i, d, i1, i2, i3, i4, i5, i6⟩ := zero_inv hoe
  split at hk
  · rename_i k1 n k2 m
    obtain ⟨h0, hnm, hby, hm, hpos, hk⟩ := hk
    cases hl; cases hcv
    rw [i3, i4] at hk
    rw [i4] at hpos
    rw [i5] at hby
    cases hz : i.zero with
    | none => simp [hz] at hk
    | some z =>
      simp only [hz, Option.map_some] at hk
      obtain ⟨hkn, hzl, hk⟩ := hk
      have hzs : z.cells.size = i.size := by
        rw [← hzl]
        cases z <;> first | rfl | (simp [ofConst, AV.cells, Value.cells]; done) | (simp only [ofConst, leafOf]; split <;> rfl)
      have hrun := run_make (P := P) w t (tyOf P t).elem i z hu i1 hz k1 k2 n m h0 hnm (by omega) (by omega)
      split at hk
      · rename_i hn0
        subst hn0
        obtain ⟨o, ho, hol, hot, hor⟩ := hc.new
        obtain ⟨g', h1, h2, h3, h4⟩ := tip_new hc (w' := w.alloc (.cells (madeCells z.cells (m.toNat * i.size)) (tyOf P t).elem)) (Below.alloc (Below.refl _ _) (Nat.le_refl _) _) (heap_alloc_new w _) (n := 0) (cs := []) (sz := i.size) (cap := m.toNat) (o := o)
          (Nat.zero_le _) (by unfold maxLen; omega) (by simp [size_madeCells]) (by simp) (by simp) (.inl ⟨ho, hol, hot, hor⟩)
        refine ⟨_, _, g', _, _, hrun, h1, h2, ?_, hk o ho⟩
        have := R_tip (xs := []) (cs := []) (sz := i.size) h3 (Nat.zero_le _) (fun x hx => by simp at hx) rfl (fun i c u h => by simp [cellsL] at h) (fun i v h => by simp at h)
        exact this
      · rename_i hn0
        obtain ⟨rfl, hk⟩ := hk
        obtain ⟨o, ho, hol, hot, hor⟩ := hc.new
        have hl1 : (ofConst z).cells.length = i.size := hzl
        have hrl : RL g (List.replicate n.toNat (ofConst z)) (List.replicate n.toNat z) := ⟨by simp, fun j a b ha hb => by
          rw [List.getElem?_replicate] at ha hb
          split at ha
          · rename_i q; rw [if_pos q] at hb; injection ha with ha; injection hb with hb; subst ha; subst hb; exact R_const g z
          · cases ha⟩
        have hcells := fun g' (hle : g.Le g') => (hrl.le hle).cells hpos (fun x hx => by rw [List.eq_of_mem_replicate hx]; exact ⟨hkn, hl1⟩)
        have hcc := hc.addObj (w' := w.alloc (.cells (madeCells z.cells (n.toNat * i.size)) (tyOf P t).elem)) (Below.alloc (Below.refl _ _) (Nat.le_refl _) _) (by simp) o hol ho hot hor (.arr (tyOf P t).elem (List.replicate n.toNat (ofConst z))) i.size n.toNat (fun g' hle hl him => by
          refine ⟨i.size, madeCells z.cells (n.toNat * i.size), ⟨n.toNat, hl, by simp [size_madeCells]⟩, heap_alloc_new w _, fun r hr => by rw [List.eq_of_mem_replicate hr]; exact hl1, by simp [size_madeCells], fun q c u hq hu2 => ?_, him⟩
          obtain ⟨u', h1, h2⟩ := (hcells g' hle).2 q c hq
          rw [← cells_replicate hzs hpos] at h1
          rw [Array.getElem?_toList, hu2] at h1
          injection h1 with h1
          subst h1
          exact h2)
        refine ⟨_, _, _, _, _, hrun, Gh.Le_addLoc _ hol, hcc, ?_, hk o ho⟩
        exact .ms (b := w.heap.size) (sz := i.size) (n := n.toNat) (by simp [Gh.addLoc]) (by omega) (Nat.le_refl _) (fun _ => by simp)
  · exact hk.elim

theorem sound_buildSliceN {P : Program} {g : Gh} {w : World} {σ : Store} (hc : Conc g w σ) {t : TypeId} {n : Nat} {ps : List (Nat × AV)} {pv : Array (Nat × Value)} {o : Nat} (ho : σ o = none) (hol : g.loc o = none) (hot : ∀ m, g.tipv o m = none) (hor : ¬ g.res o)
    (h1 : ps.map (·.1) = pv.toList.map (·.1)) (h2 : RL g (ps.map (·.2)) (pv.toList.map (·.2))) {k : KK} (hk : buildSliceN P (tyOf P t) n ps σ o k) :
    ∃ u w' g' r σ', (Instr.buildSlice t n pv).run P w = .ok u w' ∧ g.Le g' ∧ Conc g' w' σ' ∧ R g' r u ∧ k r σ' := by
  obtain ⟨hs, hok, hn, hsm, hpos, hz, hfit, hk⟩ := hk
  have hu := ty_slice hs
  obtain ⟨i, d, i1, i2, i3⟩ := ty_ok hok
  have esz : (tyOf P (tyOf P t).elem).size = i.size := by rw [i3]
  have ez : (tyOf P (tyOf P t).elem).zero = i.zero.map ofConst := by rw [i3]
  rw [ez] at hz
  obtain ⟨z, hz⟩ : ∃ z, i.zero = some z := by
    cases hzz : i.zero with
    | none => simp [hzz] at hz
    | some z => exact ⟨z, rfl⟩
  rw [esz] at hsm hpos hfit hk
  obtain ⟨f1, f2⟩ := partsFit_spec 0 ps hfit
  obtain ⟨hv, hcs⟩ := h2.cells hpos f2
  have hlen : pv.toList.length = ps.length := by have := congrArg List.length h1; simp at this; simp [this]
  have hpv : pv.toList = ((pv.toList.map (·.2)).zipIdx 0).map fun x => (x.2, x.1) := zip_parts _ _ (by rw [← h1, f1, hlen])
  have hcl := cellsL_len_eq h2 (fun x hx => (f2 x hx).2) hv
  have hsz : ((pv.toList.map (·.2)).flatMap fun v => v.cells.toList).toArray.size = n * i.size := by
    rw [List.size_toArray, ← hcl, cellsL_length _ (fun x hx => (f2 x hx).2), List.length_map, hn]
  have hcc := hc.addObj (w' := w.alloc (.cells ((pv.toList.map (·.2)).flatMap fun v => v.cells.toList).toArray (tyOf P t).elem)) (Below.alloc (Below.refl _ _) (Nat.le_refl _) _) (by simp) o hol ho hot hor (.arr (tyOf P t).elem (ps.map (·.2))) i.size n (fun g' hle hl him => by
    refine ⟨i.size, _, ⟨n, hl, hsz⟩, heap_alloc_new w _, fun r hr => (f2 r hr).2, by rw [hsz, List.length_map, hn]; exact Nat.le_refl _, fun q c u hq hu2 => ?_, him⟩
    obtain ⟨u', q1, q2⟩ := hcs q c hq
    rw [List.getElem?_toArray, q1] at hu2
    injection hu2 with hu2
    subst hu2
    exact q2.le hle)
  refine ⟨_, _, _, _, _, ?_, Gh.Le_addLoc _ hol, hcc, .ms (b := w.heap.size) (sz := i.size) (n := n) (cap := n) (a := ⟨w.heap.size, 0, none⟩) (by simp [Gh.addLoc]) (by omega) (Nat.le_refl _) (fun _ => by simp), hk⟩
  by_cases h0 : n = 0
  · subst h0
    have hp0 : ps = [] := List.eq_nil_of_length_eq_zero hn
    have hpv0 : pv = #[] := by
      have : pv.toList = [] := List.eq_nil_of_length_eq_zero (by rw [hlen, hp0]; rfl)
      exact Array.toList_eq_nil_iff.1 this
    subst hpv0
    have hr0 : Array.range 0 = #[] := Array.size_eq_zero_iff.1 (by simp)
    simp [Instr.buildSlice, run_underlying hu, sizeOf, typeInfo, i1, Instr.fill, newRow, hr0]
  · refine run_buildSlice w t (tyOf P t).elem n pv (((pv.toList.map (·.2)).flatMap fun v => v.cells.toList).toArray) i z hu i1 hz (by omega) (by rw [Nat.mul_eq_zero]; omega) ?_
    have hw := Great.fill_whole hpos (pv.toList.map (·.2)) ((Array.range (n * i.size)).map (z.cells[· % z.cells.size]!)) hv (by simp; rw [← hn, ← hlen]; simp)
    rw [← hpv] at hw
    exact hw
theorem sound_buildSliceM {P : Program} {g : Gh} {w : World} {σ : Store} (hc : Conc g w σ) {t : TypeId} {n : Nat} {ps : List (Nat × AV)} {pv : Array (Nat × Value)} {mu : Bool}
    (h1 : ps.map (·.1) = pv.toList.map (·.1)) (h2 : RL g (ps.map (·.2)) (pv.toList.map (·.2))) {k : KK} (hk : buildSliceM P (tyOf P t) n ps mu σ k) :
    ∃ u w' g' r σ', (Instr.buildSlice t n pv).run P w = .ok u w' ∧ g.Le g' ∧ Conc g' w' σ' ∧ R g' r u ∧ k r σ' := by
  unfold buildSliceM at hk
  split at hk
  · obtain ⟨o, ho, hol, hot, hor⟩ := hc.new
    exact sound_buildSliceN hc ho hol hot hor h1 h2 (hk o ho)
  · obtain ⟨u, w', g', r, q1, q2, q3, q4, q5⟩ := sound_buildSlice hc h1 h2 hk
    exact ⟨u, w', g', r, σ, q1, q2, q3, q4, q5⟩

/-! ### One operation -/
def isMu (mu : List Nat) : Option Tmp → Bool
  | some d => mu.contains d
  | none => false

def callA (P : Program) (mu : Bool) (c : Call) (ρ : Env) (σ : Store) (k : KK) : Prop :=
  match c.callee with
  | .value f => (match ev ρ f with
    | .fn f caps => PCall P f (c.args.toList.map (ev ρ) ++ caps) σ (Hold k .mk)
    | _ => False)
  | .builtin b => (match b, c.args.toList, c.argTypes.toList with
    | .len, [x], [t] => lenA (tyOf P t) σ (ev ρ x) fun c => k c σ
    | .append, [x, y], [t, u] => (match ev ρ y with
      | .str s => appendS P (tyOf P t) (tyOf P u) σ (ev ρ x) s k
      | _ => u = t ∧ appendA P (tyOf P t) mu σ (ev ρ x) (ev ρ y) k)
    | .delete, [m, x], [t, _] => mapDelA P (tyOf P t) σ (ev ρ m) (ev ρ x) fun s => k (.tup []) s
    | b, xs, ts => builtinX P b ts (xs.map (ev ρ)) σ k)
  | _ => False

def xMu (mu : List Nat) : Option Tmp → Bool
  | some d => mu.contains (d + 1000000)
  | none => false

def OpSem (P : Program) (mu : List Nat) (o : Oper) (ρ : Env) (σ : Store) (k : KK) : Prop :=
  match o.op with
  | .move x => k (ev ρ x) σ
  | .assign x => k (ev ρ x) σ
  | .pick c a b => (match ev ρ c with
    | .bool t => k (if t = true then ev ρ a else ev ρ b) σ
    | _ => False)
  | .box t x => boxA (isMu mu o.dst) t (ev ρ x) σ k
  | .alloc t => allocA t (tyOf P t) σ k
  | .build t ps => buildA P (tyOf P t) (ps.toList.map fun p => (p.1, ev ρ p.2)) fun c => k c σ
  | .buildSlice t n ps => buildSliceM P (tyOf P t) n (ps.toList.map fun p => (p.1, ev ρ p.2)) (isMu mu o.dst) σ k
  | .load t a => behind σ (ev ρ a) fun cs off => loadA (tyOf P t) cs off fun c => k c σ
  | .store t a v => storeA (tyOf P t) σ (ev ρ a) (ev ρ v) fun s => k (.tup []) s
  | .nilCheck x => nilCheckA (ev ρ x) fun c => k c σ
  | .binOp op t x y _ => binA P op t (ev ρ x) (ev ρ y) fun c => k c σ
  | .unOp op _ x => unA op (ev ρ x) fun c => k c σ
  | .convert s d x => convX P s d σ (ev ρ x) k
  | .makeFunc fn first caps => (match fn with
    | .func f => first = #[] ∧ k (.fn f (caps.toList.map (ev ρ))) σ
    | _ => False)
  | .makeMap _ r => r = none ∧ ∀ o', σ o' = none → k (.map o') (σ.put o' (.map []))
  | .makeSlice t l c => makeSliceA P (tyOf P t) (ev ρ l) (ev ρ c) σ k
  | .slice t x lo hi mx => sliceA P (tyOf P t) (ev ρ x) (lo.map (ev ρ)) (hi.map (ev ρ)) (mx.map (ev ρ)) fun c => k c σ
  | .fieldAddr s x f => fieldAddrA (tyOf P s) (ev ρ x) f fun c => k c σ
  | .field t x f => fieldA P (tyOf P t) (ev ρ x) f fun c => k c σ
  | .indexAddr t x i => indexAddrA P (tyOf P t) (ev ρ x) (ev ρ i) fun c => k c σ
  | .index t x i => indexA (tyOf P t) (ev ρ x) (ev ρ i) fun c => k c σ
  | .lookup t m key ok => lookupA P (tyOf P t) σ (ev ρ m) (ev ρ key) ok fun c => k c σ
  | .mapUpdate t m key v => mapSetA P (tyOf P t) σ (ev ρ m) (ev ρ key) (ev ρ v) fun s => k (.tup []) s
  | .insert t m key v => mapSetA P (tyOf P t) σ (ev ρ m) (ev ρ key) (ev ρ v) fun s => k (.tup []) s
  | .extract t i => extractA (ev ρ t) i fun c => k c σ
  | .call c => if xMu mu o.dst = true then externA P c ρ σ k else callA P (isMu mu o.dst) c ρ σ k
  | _ => False

/-- An operation's run comes to an answer. -/
def Res (P : Program) (o : Oper) (a : Act) (w : World) (Post : Value → World → Prop) : Prop :=
  (∃ v w', (execOp a.eval o).run P w = .ok (.value v) w' ∧ Post v w') ∨ (∃ w', (execOp a.eval o).run P w = .ok .skip w' ∧ Post undef w') ∨
  (∃ f args w1, (execOp a.eval o).run P w = .ok (.enter f args) w1 ∧ Calls P f args w1 fun e w' => ∃ v, e = .returned v ∧ Post v w')

theorem Res.wp {P : Program} {o : Oper} {a : Act} {w : World} {Post : Value → World → Prop} (h : Res P o a w Post) {next : Act → World → Prop} {Q : Exit → Act → World → Prop} (hn : ∀ v w', Post v w' → next (a.put o.dst v) w') :
    o.wp P a w next Q := by
  unfold Oper.wp
  rcases h with ⟨v, w', hr, hp⟩ | ⟨w', hr, hp⟩ | ⟨f, args, w1, hr, hp⟩
  · rw [hr]; exact hn v w' hp
  · rw [hr]; exact hn undef w' hp
  · rw [hr]
    refine Calls.mono hp ?_
    rintro e w' ⟨v, rfl, hv⟩
    exact hn v w' hv

def After (g : Gh) (k : KK) (v : Value) (w' : World) : Prop := ∃ g' r σ', g.Le g' ∧ Conc g' w' σ' ∧ R g' r v ∧ k r σ'

theorem RL_eval {g : Gh} {n : Nat} {ρ : Env} {a : Act} (he : RE g n ρ a.tmps) (l : List Operand) : RL g (l.map (ev ρ)) (l.map a.eval) :=
  ⟨by simp, fun i x v hx hv => by
    simp only [List.getElem?_map] at hx hv
    cases hl : l[i]? with
    | none => simp [hl] at hx
    | some o => simp [hl] at hx hv; subst hx; subst hv; exact he.eval o⟩

theorem opt_eval {g : Gh} {n : Nat} {ρ : Env} {a : Act} (he : RE g n ρ a.tmps) (x : Option Operand) : (∀ y, x.map (ev ρ) = some y → ∃ v, x.map a.eval = some v ∧ R g y v) ∧ (x.map (ev ρ) = none → x.map a.eval = none) := by
  cases x with
  | none => exact ⟨nofun, fun _ => rfl⟩
  | some o => exact ⟨fun y hy => by injection hy with hy; subst hy; exact ⟨_, rfl, he.eval o⟩, nofun⟩

theorem OpSem_sound {P : Program} {mu : List Nat} {o : Oper} {ρ : Env} {σ : Store} {k : KK} (hk : OpSem P mu o ρ σ k) {g : Gh} {n : Nat} {a : Act} {w : World} (he : RE g n ρ a.tmps) (hc : Conc g w σ) : Res P o a w (After g k) := by
  have pure1 : ∀ {s : Sem Value} {k' : AV → Prop}, (∃ u r, s.run P w = .ok u w ∧ R g r u ∧ k' r) → (∀ r, k' r → k r σ) → execOp a.eval o = (do pure (.value (← s))) → Res P o a w (After g k) := by
    rintro s k' ⟨u, r, h1, h2, h3⟩ h4 h5
    refine .inl ⟨u, w, ?_, g, r, σ, .refl g, hc, h2, h4 r h3⟩
    rw [h5]; simp [h1]
  obtain ⟨dst, op, type, pos, after, guard⟩ := o
  unfold OpSem at hk
  cases op <;> simp only at hk <;> try exact hk.elim
  case move x => exact .inl ⟨_, w, rfl, g, _, σ, .refl g, hc, he.eval x, hk⟩
  case assign x => exact .inl ⟨_, w, rfl, g, _, σ, .refl g, hc, he.eval x, hk⟩
  case pick c x y =>
    have hr := he.eval c
    split at hk
    · rename_i t ht
      rw [ht] at hr
      generalize hv : a.eval c = v at hr
      cases hr
      refine .inl ⟨if t = true then a.eval x else a.eval y, w, ?_, g, _, σ, .refl g, hc, ?_, hk⟩
      · simp [execOp, hv, asBool]
      · split
        · exact he.eval x
        · exact he.eval y
    · exact hk.elim
  case box e x =>
    obtain ⟨hkn, hk⟩ := hk
    have hrun : (execOp a.eval ⟨dst, .box e x, type, pos, after, guard⟩).run P w = .ok (.value (.pointer (some ⟨w.heap.size, 0, none⟩))) (w.alloc (.cells (a.eval x).cells e)) := by
      simp [execOp, Instr.box, newVar, newRow]
    split at hk
    · obtain ⟨g', r, σ', h1, h2, h3, h4⟩ := new_box (P := P) hc (he.eval x) hkn e hk
      exact .inl ⟨_, _, hrun, g', r, σ', h1, h2, h3, h4⟩
    · obtain ⟨g', h1, h2, h3⟩ := alloc_imm (P := P) hc (he.eval x) hkn e
      exact .inl ⟨_, _, hrun, g', _, σ, h1, h2, h3, hk⟩
  case alloc t =>
    obtain ⟨hok, hk⟩ := hk
    split at hk
    · rename_i z hz
      obtain ⟨zv, hzv, hzr, _⟩ := run_zero' hok hz w
      obtain ⟨g', r, σ', h1, h2, h3, h4⟩ := new_box (P := P) hc (hzr g) hk.1 t hk.2
      exact .inl ⟨_, _, by simp [execOp, Instr.alloc, hzv, newVar, newRow], g', r, σ', h1, h2, h3, h4⟩
    · exact hk.elim
  case build t ps =>
    refine pure1 (s := Instr.build t (ps.map fun (i, x) => (i, a.eval x))) (k' := fun c => k c σ) (sound_build ?_ ?_ hk) (fun _ h => h) rfl
    · simp [List.map_map, Function.comp_def]
    · have := RL_eval he (ps.toList.map (·.2))
      simpa [List.map_map, Function.comp_def] using this
  case buildSlice t m ps =>
    obtain ⟨u, w', g', r, σ', h1, h2, h3, h4, h5⟩ := sound_buildSliceM (pv := ps.map fun (i, x) => (i, a.eval x)) hc (by simp [List.map_map, Function.comp_def]) (by
      have := RL_eval he (ps.toList.map (·.2))
      simpa [List.map_map, Function.comp_def] using this) hk
    exact .inl ⟨u, w', by simp [execOp, h1], g', r, σ', h2, h3, h4, h5⟩
  case load t x => exact pure1 (sound_load hc (he.eval x) hk) (fun _ h => h) rfl
  case store t x v =>
    obtain ⟨w', σ', h1, h2, h3⟩ := sound_store hc (he.eval x) (he.eval v) hk
    exact .inr (.inl ⟨w', by simp [execOp, h1], g, _, σ', .refl g, h2, R_undef g, h3⟩)
  case nilCheck x =>
    have hr := he.eval x
    unfold nilCheckA at hk
    split at hk <;> try exact hk.elim
    all_goals
      rename_i hx
      rw [hx] at hr
      generalize hv : a.eval x = v at hr
      refine .inl ⟨v, w, ?_, g, _, σ, .refl g, hc, hr, by first | exact hk | (rw [hx] at hk; exact hk)⟩
      cases hr <;> simp [execOp, hv]
  case binOp op t x y yt =>
    have hx := he.eval x
    have hy := he.eval y
    have fin : (∃ u r, (binOp op t (a.eval x) (a.eval y)).run P w = .ok u w ∧ R g r u ∧ k r σ) → eqGuard op t x y (a.eval x) (a.eval y) = pure () → Res P ⟨dst, .binOp op t x y yt, type, pos, after, guard⟩ a w (After g k) := by
      rintro ⟨u, r, h1, h2, h3⟩ h4
      exact .inl ⟨u, w, by simp [execOp, h4, h1], g, r, σ, .refl g, hc, h2, h3⟩
    unfold binA at hk
    generalize ha : ev ρ x = A at hk hx
    generalize hb : ev ρ y = B at hk hy
    split at hk
    · rename_i i p j q
      generalize hv : a.eval x = v at hx fin
      generalize hu : a.eval y = u at hy fin
      cases hx; cases hy
      refine fin ?_ (by cases op <;> rfl)
      split at hk
      · obtain ⟨h0, hk⟩ := hk
        exact ⟨.int i (i.wrap (p * 2 ^ (min q.toNat i.bits))), _, by simp [binOp, Op.shift, show ¬ q < 0 by omega], .int _ _, hk⟩
      · obtain ⟨h0, hk⟩ := hk
        exact ⟨.int i (p.fdiv (2 ^ (min q.toNat i.bits))), _, by simp [binOp, Op.shift, show ¬ q < 0 by omega], .int _ _, hk⟩
      · rename_i n1 n2
        obtain ⟨rfl, hk⟩ := hk
        exact sound_int hk (fun h => n1 h) (fun h => n2 h)
    · generalize hv : a.eval x = v at hx fin
      generalize hu : a.eval y = u at hy fin
      cases hx; cases hy
      exact fin (sound_str hk) (by cases op <;> rfl)
    · rename_i p q
      generalize hv : a.eval x = v at hx fin
      generalize hu : a.eval y = u at hy fin
      cases hx; cases hy
      refine fin ?_ (by cases op <;> rfl)
      obtain ⟨hkd, hk⟩ := hk
      obtain ⟨ti, td, i1, i2, i3⟩ := ty_kind hkd (by simp)
      cases td <;> simp [kindOf] at i3
      have heq : (Op.equal t (.bool p) (.bool q)).run P w = .ok (p == q) w := by
        unfold Op.equal
        obtain ⟨d, hd⟩ : ∃ d, Op.maxDepth = d + 1 := ⟨9999, rfl⟩
        rw [hd]
        simp [Op.equalIn, run_underlying i2]
      split at hk
      · exact ⟨.bool (p == q), _, by simp [binOp, heq], .bool _, hk⟩
      · exact ⟨.bool (!(p == q)), _, by simp [binOp, heq], .bool _, hk⟩
      · exact hk.elim
    · rename_i xs ys
      generalize hv : a.eval x = v at hx fin
      generalize hu : a.eval y = u at hy fin
      obtain ⟨k1, k2, hk⟩ := hk
      have hB := keyB_iff hx hy k1 k2
      have v1 := keyKind_V hx k1
      have v2 := keyKind_V hy k2
      cases hx with
      | agg l1 r1 =>
        cases hy with
        | agg l2 r2 =>
          rename_i us vs
          have hwd : ∃ ks, (tyOf P t).kk = .wide ks := by
            cases hq : (tyOf P t).kk <;> rw [hq] at k1 <;> simp [keyKind] at k1
            exact ⟨_, rfl⟩
          obtain ⟨ks, hwd⟩ := hwd
          obtain ⟨hf, hgt, d, hd1, hd2⟩ := wide_ty hwd
          obtain ⟨w1, f1⟩ : whole P t (.agg us) = true ∧ fits ks us.toList = true := by
            rcases v1 with ⟨d', _, h'⟩ | ⟨_, ks', hf', q1, q2⟩
            · cases d' <;> simp [MapKept.IsKey] at h'
            · rw [hf] at hf'; injection hf' with hf'; subst hf'; exact ⟨q1, q2⟩
          obtain ⟨w2, f2⟩ : whole P t (.agg vs) = true ∧ fits ks vs.toList = true := by
            rcases v2 with ⟨d', _, h'⟩ | ⟨_, ks', hf', q1, q2⟩
            · cases d' <;> simp [MapKept.IsKey] at h'
            · rw [hf] at hf'; injection hf' with hf'; subst hf'; exact ⟨q1, q2⟩
          obtain ⟨r, hr, hiff⟩ := equal_flat 9994 6 t ks hf w (.agg us) (.agg vs) w1 w2 f1 f2
          have heq : (Op.equal t (.agg us) (.agg vs)).run P w = .ok r w := hr
          have hrB : r = cellsB xs ys := by
            have : r = true ↔ cellsB xs ys = true := by
              rw [hiff]
              simp only [keyB, Value.agg.injEq] at hB
              rw [hB]
              simp only [Value.cells]
              exact ⟨fun e => Array.ext' e, fun e => by rw [e]⟩
            cases r <;> cases hq : cellsB xs ys <;> simp [hq] at this ⊢
          subst hrB
          refine .inl ?_
          split at hk
          · exact ⟨.bool (cellsB xs ys), w, by simp [execOp, hv, hu, eqGuard, hgt, binOp, heq], g, _, σ, .refl g, hc, .bool _, hk⟩
          · exact ⟨.bool (!cellsB xs ys), w, by simp [execOp, hv, hu, eqGuard, hgt, binOp, heq], g, _, σ, .refl g, hc, .bool _, hk⟩
          · exact hk.elim
    · obtain ⟨hkind, hok, hek, rfl, rfl, rfl, hk⟩ := hk
      generalize hv : a.eval x = v at hx fin
      generalize hu : a.eval y = u at hy fin
      cases hx with
      | ptr hb1 =>
        cases hy with
        | ptr hb2 =>
          rw [hb1] at hb2
          injection hb2 with hb2
          injection hb2 with q1 q2
          injection q2 with q2 q3
          subst q1; subst q2
          exact fin (sound_ptrEq hkind hok hek _ hk) (by cases op <;> rfl)
    · obtain ⟨z, r, h1, h2, h3, h4⟩ := sound_nil (P := P) (w := w) hx hy hk
      exact fin ⟨z, r, h1, h2, h3⟩ (h4 _ _)
  case unOp op t x => exact pure1 (sound_un (he.eval x) hk) (fun _ h => h) rfl
  case convert s d x =>
    obtain ⟨r, w', g', x', σ', q1, q2, q3, q4, q5⟩ := sound_convX hc (he.eval x) hk
    exact .inl ⟨_, _, by simp [execOp, q1], g', x', σ', q2, q3, q4, q5⟩
  case makeFunc fn first caps =>
    split at hk
    · rename_i f
      obtain ⟨rfl, hk⟩ := hk
      have hrl := RL_eval he caps.toList
      refine .inl ⟨.func (.func f) #[] (caps.map a.eval), w, by simp [execOp, Instr.makeFunc], g, _, σ, .refl g, hc, .fn (by simp) (fun i c v h1 h2 => hrl.2 i c v h1 ?_), hk⟩
      simpa using h2
    · exact hk.elim
  case makeMap t r =>
    obtain ⟨rfl, hk⟩ := hk
    obtain ⟨g', r, σ', h1, h2, h3, h4⟩ := sound_makeMap (P := P) hc hk
    exact .inl ⟨_, _, by simp [execOp, run_makeMap], g', r, σ', h1, h2, h3, h4⟩
  case makeSlice t l c =>
    obtain ⟨r, w', g', x, σ', h1, h2, h3, h4, h5⟩ := sound_makeSlice hc (he.eval l) (he.eval c) hk
    exact .inl ⟨_, _, by simp [execOp, h1], g', x, σ', h2, h3, h4, h5⟩
  case slice t x lo hi mx =>
    have h1 := opt_eval he lo
    have h2 := opt_eval he hi
    have h3 := opt_eval he mx
    exact pure1 (sound_slice (he.eval x) h1.1 h1.2 h2.1 h2.2 h3.1 h3.2 hk) (fun _ h => h) rfl
  case fieldAddr s x f => exact pure1 (sound_fieldAddr (he.eval x) hk) (fun _ h => h) rfl
  case field t x f => exact pure1 (sound_field (he.eval x) hk) (fun _ h => h) rfl
  case indexAddr t x i => exact pure1 (sound_indexAddr (he.eval x) (he.eval i) hk) (fun _ h => h) rfl
  case index t x i => exact pure1 (sound_index (he.eval x) (he.eval i) hk) (fun _ h => h) rfl
  case lookup t m key ok => exact pure1 (sound_lookup hc (he.eval m) (he.eval key) hk) (fun _ h => h) rfl
  case mapUpdate t m key v =>
    obtain ⟨w', σ', h1, h2, h3⟩ := sound_mapSet hc (he.eval m) (he.eval key) (he.eval v) hk
    exact .inr (.inl ⟨w', by simp [execOp, h1], g, _, σ', .refl g, h2, R_undef g, h3⟩)
  case insert t m key v =>
    obtain ⟨w', σ', h1, h2, h3⟩ := sound_mapSet hc (he.eval m) (he.eval key) (he.eval v) hk
    exact .inr (.inl ⟨w', by simp [execOp, h1], g, _, σ', .refl g, h2, R_undef g, h3⟩)
  case extract t i => exact pure1 (sound_extract (he.eval t) hk) (fun _ h => h) rfl
  case call c =>
    split at hk
    · rename_i hxm
      obtain ⟨callee, args, argTypes⟩ := c
      unfold externA at hk
      simp only at hk
      split at hk
      · rename_i f x hargs
        have hf := he.eval f
        split at hk
        · rename_i fid hfe
          rw [hfe] at hf
          generalize hv : a.eval f = fv at hf
          obtain ⟨hid, hk⟩ := hk
          have h1 : args = #[x] := by rw [← Array.toArray_toList (xs := args), hargs]
          subst h1
          cases hf with
          | fn hl h =>
            rename_i vs
            have hvs : vs = #[] := Array.eq_empty_of_size_eq_zero (by simpa using hl.symm)
            subst hvs
            refine .inl ⟨_, w, ?_, g, _, σ, .refl g, hc, he.eval x, hk⟩
            simpa [execOp, resolve, hv, Deferred.ofValue, invoke] using hid (a.eval x) w
        · exact hk.elim
      · exact hk.elim
    unfold callA at hk
    obtain ⟨callee, args, argTypes⟩ := c
    simp only at hk
    split at hk
    · rename_i f
      have hf := he.eval f
      split at hk
      · rename_i fid caps hfe
        rw [hfe] at hf
        generalize hv : a.eval f = fv at hf
        cases hf with
        | fn hl h =>
          rename_i vs
          obtain ⟨⟨fn, hfn, hname, hbody⟩, hcall⟩ := hk
          have hrl := RL_eval he args.toList
          refine .inr (.inr ⟨fid, args.map a.eval ++ vs, w, ?_, ?_⟩)
          · have hbn : ¬ fn.body = none := fun e => by rw [e] at hbody; cases hbody
            have hnn : ¬ fn.name = "runtime.NumGoroutine" := fun e => by rw [e] at hname; exact absurd hname (by simp)
            simp [execOp, resolve, hv, Deferred.ofValue, invoke, callFunc, program, Sem.run, hfn, hnn, hbn]
          · refine hcall g w _ (by simp [hl]) (fun i c v h1 h2 => ?_) hc
            rw [List.getElem?_append] at h1
            rw [Array.getElem?_append] at h2
            simp only [List.length_map, Array.length_toList] at h1
            simp only [Array.size_map] at h2
            split at h1
            · rename_i q; rw [if_pos q] at h2
              exact hrl.2 i c v h1 (by simpa using h2)
            · rename_i q; rw [if_neg q] at h2
              exact h _ c v h1 h2
      · exact hk.elim
    · split at hk
      · rename_i x t hargs htys
        have h1 : args = #[x] := by rw [← Array.toArray_toList (xs := args), hargs]
        have h2 : argTypes = #[t] := by rw [← Array.toArray_toList (xs := argTypes), htys]
        subst h1; subst h2
        exact pure1 (s := Builtin.len_ #[t] type #[a.eval x]) (k' := fun c => k c σ) (sound_len hc (he.eval x) hk) (fun _ h => h) (by simp [execOp, resolve, invoke, builtin])
      · rename_i x y t u hargs htys
        split at hk
        · rename_i s hs
          have hy := he.eval y
          rw [hs] at hy
          have h1 : args = #[x, y] := by rw [← Array.toArray_toList (xs := args), hargs]
          have h2 : argTypes = #[t, u] := by rw [← Array.toArray_toList (xs := argTypes), htys]
          subst h1; subst h2
          generalize hyv : a.eval y = yv at hy
          cases hy
          obtain ⟨r, w', g', x', σ', q1, q2, q3, q4, q5⟩ := sound_appendS (ty := type) hc (he.eval x) hk
          exact .inl ⟨_, _, by simp [execOp, resolve, invoke, builtin, hyv, q1], g', x', σ', q2, q3, q4, q5⟩
        obtain ⟨rfl, hk⟩ := hk
        have h1 : args = #[x, y] := by rw [← Array.toArray_toList (xs := args), hargs]
        have h2 : argTypes = #[u, u] := by rw [← Array.toArray_toList (xs := argTypes), htys]
        subst h1; subst h2
        obtain ⟨r, w', g', x', σ', q1, q2, q3, q4, q5⟩ := sound_append (ty := type) hc (he.eval x) (he.eval y) hk
        exact .inl ⟨_, _, by simp [execOp, resolve, invoke, builtin, q1], g', x', σ', q2, q3, q4, q5⟩
      · rename_i m x t t2 hargs htys
        have h1 : args = #[m, x] := by rw [← Array.toArray_toList (xs := args), hargs]
        have h2 : argTypes = #[t, t2] := by rw [← Array.toArray_toList (xs := argTypes), htys]
        subst h1; subst h2
        obtain ⟨w', σ', q1, q2, q3⟩ := sound_mapDel (t2 := t2) (ty := type) hc (he.eval m) (he.eval x) hk
        exact .inl ⟨.tuple #[], _, by simp [execOp, resolve, invoke, builtin, q1], g, _, σ', .refl g, q2, R_undef g, q3⟩
      · have hrl := RL_eval he args.toList
        obtain ⟨r, w', g', x', σ', q1, q2, q3, q4, q5⟩ := sound_builtinX (ty := type) (cs := args.map fun | .const _ => true | _ => false) hc (vs := args.toList.map a.eval) (by simp) (fun i c v h1 h2 => hrl.2 i c v h1 h2) hk
        rw [show (args.toList.map a.eval).toArray = args.map a.eval from by apply Array.ext'; simp] at q1
        exact .inl ⟨_, _, by simp only [execOp, resolve, invoke, Sem.run_bind, Sem.run_pure, Result.andThen_ok]; exact q1, g', x', σ', q2, q3, q4, q5⟩
    · exact hk.elim

/-- An append that names what is new. -/
def apN (P : Program) (mu : List Nat) (o : Oper) (ρ : Env) (σ : Store) (nu : Nat) (k : KK) : Prop :=
  match o.op with
  | .call c => (match c.callee, c.args.toList, c.argTypes.toList with
    | .builtin .append, [x, y], [t, u] => u = t ∧ appendN P (tyOf P t) (isMu mu o.dst) σ (ev ρ x) (ev ρ y) nu k
    | _, _, _ => False)
  | .buildSlice t n ps => buildSliceN P (tyOf P t) n (ps.toList.map fun p => (p.1, ev ρ p.2)) σ nu k
  | _ => False

theorem apN_sound {P : Program} {mu : List Nat} {o : Oper} {ρ : Env} {σ : Store} {nu : Nat} {k : KK} (hk : apN P mu o ρ σ nu k) {g : Gh} {n : Nat} {a : Act} {w : World} (he : RE g n ρ a.tmps) (hc : Conc g w σ)
    (ho : σ nu = none) (hol : g.loc nu = none) (hot : ∀ m, g.tipv nu m = none) (hor : ¬ g.res nu) : Res P o a w (After g k) := by
  obtain ⟨dst, op, type, pos, after, guard⟩ := o
  unfold apN at hk
  simp only at hk
  split at hk
  · rename_i c
    obtain ⟨callee, args, argTypes⟩ := c
    simp only at hk
    split at hk
    · rename_i x y t u hargs htys
      obtain ⟨rfl, hk⟩ := hk
      have h1 : args = #[x, y] := by rw [← Array.toArray_toList (xs := args), hargs]
      have h2 : argTypes = #[u, u] := by rw [← Array.toArray_toList (xs := argTypes), htys]
      subst h1; subst h2
      obtain ⟨r, w', g', x', σ', q1, q2, q3, q4, q5⟩ := sound_appendN (ty := type) hc (he.eval x) (he.eval y) ho hol hot hor hk
      exact .inl ⟨_, _, by simp [execOp, resolve, invoke, builtin, q1], g', x', σ', q2, q3, q4, q5⟩
    · exact hk.elim
  · rename_i t m ps
    obtain ⟨u, w', g', r, σ', h1, h2, h3, h4, h5⟩ := sound_buildSliceN (pv := ps.map fun (i, x) => (i, a.eval x)) hc ho hol hot hor (by simp [List.map_map, Function.comp_def]) (by
      have := RL_eval he (ps.toList.map (·.2))
      simpa [List.map_map, Function.comp_def] using this) hk
    exact .inl ⟨u, w', by simp [execOp, h1], g', r, σ', h2, h3, h4, h5⟩
  · exact hk.elim
end Go.Kern
