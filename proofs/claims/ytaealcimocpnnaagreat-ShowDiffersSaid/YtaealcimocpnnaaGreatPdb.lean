/- What the claim needs, part 2: KnL KnM KnN KnO KnP KnQ KnR KnS KnU KnW KnY De Dg Dj Ty Ba. Conditions: none. -/
import Derived.Test.YtaealcimocpnnaaGreatPda
import Derived.ChangeArms
import Derived.ChangeSame
import Derived.Carry
import Derived.OpenShut
import Derived.WalkKit
import Derived.ProofKit
import Derived.JoinedCond
import Derived.WideShapes
import Derived.Shelf.Strings.OnBuilder
import Derived.Shelf.SlIter.Nil
import Derived.Test.YtaealcimocpnnaaGreatProg
set_option linter.unusedVariables false
set_option linter.unusedSimpArgs false
set_option linter.unusedSectionVars false
namespace Go.Kern
open Go.RowKit
theorem sound_makeSlice {P : Program} {g : Gh} {w : World} {σ : Store} (hc : Conc g w σ) {t : TypeId} {l c : AV} {lv cv : Value} (hl : R g l lv) (hcv : R g c cv) {k : KK} (hk : makeSliceA P (tyOf P t) l c σ k) :
    ∃ r w' g' a σ', (Instr.makeSlice t lv cv).run P w = .ok r w' ∧ g.Le g' ∧ Conc g' w' σ' ∧ R g' a r ∧ k a σ' := by
  obtain ⟨hkind, hoe, hk⟩ := hk
  have hu := ty_slice hkind
  obtain ⟨i, d, i1, i2, i3, i4, i5, i6⟩ := zero_inv hoe
  split at hk
  · rename_i k1 n k2 m
    obtain ⟨h0, hnm, hby, hm, hpos, hk⟩ := hk
    cases hl; cases hcv
    rw [i3, i4] at hk
    rw [i4] at hpos
    rw [i5] at hby
    cases hz : i.zero with
    | none => simp [hz] at hk
    | some z =>
      simp only [hz, Option.map_some] at hk
      obtain ⟨hkn, hzl, hk⟩ := hk
      have hzs : z.cells.size = i.size := by
        rw [← hzl]
        cases z <;> first | rfl | (simp [ofConst, AV.cells, Value.cells]; done) | (simp only [ofConst, leafOf]; split <;> rfl)
      have hrun := run_make (P := P) w t (tyOf P t).elem i z hu i1 hz k1 k2 n m h0 hnm (by omega) (by omega)
      split at hk
      · rename_i hn0
        subst hn0
        obtain ⟨o, ho, hol, hot, hor⟩ := hc.new
        obtain ⟨g', h1, h2, h3, h4⟩ := tip_new hc (w' := w.alloc (.cells (madeCells z.cells (m.toNat * i.size)) (tyOf P t).elem)) (Below.alloc (Below.refl _ _) (Nat.le_refl _) _) (heap_alloc_new w _) (n := 0) (cs := []) (sz := i.size) (cap := m.toNat) (o := o)
          (Nat.zero_le _) (by unfold maxLen; omega) (by simp [size_madeCells]) (by simp) (by simp) (.inl ⟨ho, hol, hot, hor⟩)
        refine ⟨_, _, g', _, _, hrun, h1, h2, ?_, hk o ho⟩
        have := R_tip (xs := []) (cs := []) (sz := i.size) h3 (Nat.zero_le _) (fun x hx => by simp at hx) rfl (fun i c u h => by simp [cellsL] at h) (fun i v h => by simp at h)
        exact this
      · rename_i hn0
        obtain ⟨rfl, hk⟩ := hk
        obtain ⟨o, ho, hol, hot, hor⟩ := hc.new
        have hl1 : (ofConst z).cells.length = i.size := hzl
        have hrl : RL g (List.replicate n.toNat (ofConst z)) (List.replicate n.toNat z) := ⟨by simp, fun j a b ha hb => by
          rw [List.getElem?_replicate] at ha hb
          split at ha
          · rename_i q; rw [if_pos q] at hb; injection ha with ha; injection hb with hb; subst ha; subst hb; exact R_const g z
          · cases ha⟩
        have hcells := fun g' (hle : g.Le g') => (hrl.le hle).cells hpos (fun x hx => by rw [List.eq_of_mem_replicate hx]; exact ⟨hkn, hl1⟩)
        have hcc := hc.addObj (w' := w.alloc (.cells (madeCells z.cells (n.toNat * i.size)) (tyOf P t).elem)) (Below.alloc (Below.refl _ _) (Nat.le_refl _) _) (by simp) o hol ho hot hor (.arr (tyOf P t).elem (List.replicate n.toNat (ofConst z))) i.size n.toNat (fun g' hle hl him => by
          refine ⟨i.size, madeCells z.cells (n.toNat * i.size), ⟨n.toNat, hl, by simp [size_madeCells]⟩, heap_alloc_new w _, fun r hr => by rw [List.eq_of_mem_replicate hr]; exact hl1, by simp [size_madeCells], fun q c u hq hu2 => ?_, him⟩
          obtain ⟨u', h1, h2⟩ := (hcells g' hle).2 q c hq
          rw [← cells_replicate hzs hpos] at h1
          rw [Array.getElem?_toList, hu2] at h1
          injection h1 with h1
          subst h1
          exact h2)
        refine ⟨_, _, _, _, _, hrun, Gh.Le_addLoc _ hol, hcc, ?_, hk o ho⟩
        exact .ms (b := w.heap.size) (sz := i.size) (n := n.toNat) (by simp [Gh.addLoc]) (by omega) (Nat.le_refl _) (fun _ => by simp)
  · exact hk.elim
theorem sound_buildSliceN {P : Program} {g : Gh} {w : World} {σ : Store} (hc : Conc g w σ) {t : TypeId} {n : Nat} {ps : List (Nat × AV)} {pv : Array (Nat × Value)} {o : Nat} (ho : σ o = none) (hol : g.loc o = none) (hot : ∀ m, g.tipv o m = none) (hor : ¬ g.res o)
    (h1 : ps.map (·.1) = pv.toList.map (·.1)) (h2 : RL g (ps.map (·.2)) (pv.toList.map (·.2))) {k : KK} (hk : buildSliceN P (tyOf P t) n ps σ o k) :
    ∃ u w' g' r σ', (Instr.buildSlice t n pv).run P w = .ok u w' ∧ g.Le g' ∧ Conc g' w' σ' ∧ R g' r u ∧ k r σ' := by
  obtain ⟨hs, hok, hn, hsm, hpos, hz, hfit, hk⟩ := hk
  have hu := ty_slice hs
  obtain ⟨i, d, i1, i2, i3⟩ := ty_ok hok
  have esz : (tyOf P (tyOf P t).elem).size = i.size := by rw [i3]
  have ez : (tyOf P (tyOf P t).elem).zero = i.zero.map ofConst := by rw [i3]
  rw [ez] at hz
  obtain ⟨z, hz⟩ : ∃ z, i.zero = some z := by
    cases hzz : i.zero with
    | none => simp [hzz] at hz
    | some z => exact ⟨z, rfl⟩
  rw [esz] at hsm hpos hfit hk
  obtain ⟨f1, f2⟩ := partsFit_spec 0 ps hfit
  obtain ⟨hv, hcs⟩ := h2.cells hpos f2
  have hlen : pv.toList.length = ps.length := by have := congrArg List.length h1; simp at this; simp [this]
  have hpv : pv.toList = ((pv.toList.map (·.2)).zipIdx 0).map fun x => (x.2, x.1) := zip_parts _ _ (by rw [← h1, f1, hlen])
  have hcl := cellsL_len_eq h2 (fun x hx => (f2 x hx).2) hv
  have hsz : ((pv.toList.map (·.2)).flatMap fun v => v.cells.toList).toArray.size = n * i.size := by
    rw [List.size_toArray, ← hcl, cellsL_length _ (fun x hx => (f2 x hx).2), List.length_map, hn]
  have hcc := hc.addObj (w' := w.alloc (.cells ((pv.toList.map (·.2)).flatMap fun v => v.cells.toList).toArray (tyOf P t).elem)) (Below.alloc (Below.refl _ _) (Nat.le_refl _) _) (by simp) o hol ho hot hor (.arr (tyOf P t).elem (ps.map (·.2))) i.size n (fun g' hle hl him => by
    refine ⟨i.size, _, ⟨n, hl, hsz⟩, heap_alloc_new w _, fun r hr => (f2 r hr).2, by rw [hsz, List.length_map, hn]; exact Nat.le_refl _, fun q c u hq hu2 => ?_, him⟩
    obtain ⟨u', q1, q2⟩ := hcs q c hq
    rw [List.getElem?_toArray, q1] at hu2
    injection hu2 with hu2
    subst hu2
    exact q2.le hle)
  refine ⟨_, _, _, _, _, ?_, Gh.Le_addLoc _ hol, hcc, .ms (b := w.heap.size) (sz := i.size) (n := n) (cap := n) (a := ⟨w.heap.size, 0, none⟩) (by simp [Gh.addLoc]) (by omega) (Nat.le_refl _) (fun _ => by simp), hk⟩
  by_cases h0 : n = 0
  · subst h0
    have hp0 : ps = [] := List.eq_nil_of_length_eq_zero hn
    have hpv0 : pv = #[] := by
      have : pv.toList = [] := List.eq_nil_of_length_eq_zero (by rw [hlen, hp0]; rfl)
      exact Array.toList_eq_nil_iff.1 this
    subst hpv0
    have hr0 : Array.range 0 = #[] := Array.size_eq_zero_iff.1 (by simp)
    simp [Instr.buildSlice, run_underlying hu, sizeOf, typeInfo, i1, Instr.fill, newRow, hr0]
  · refine run_buildSlice w t (tyOf P t).elem n pv (((pv.toList.map (·.2)).flatMap fun v => v.cells.toList).toArray) i z hu i1 hz (by omega) (by rw [Nat.mul_eq_zero]; omega) ?_
    have hw := Great.fill_whole hpos (pv.toList.map (·.2)) ((Array.range (n * i.size)).map (z.cells[· % z.cells.size]!)) hv (by simp; rw [← hn, ← hlen]; simp)
    rw [← hpv] at hw
    exact hw
theorem sound_buildSliceM {P : Program} {g : Gh} {w : World} {σ : Store} (hc : Conc g w σ) {t : TypeId} {n : Nat} {ps : List (Nat × AV)} {pv : Array (Nat × Value)} {mu : Bool}
    (h1 : ps.map (·.1) = pv.toList.map (·.1)) (h2 : RL g (ps.map (·.2)) (pv.toList.map (·.2))) {k : KK} (hk : buildSliceM P (tyOf P t) n ps mu σ k) :
    ∃ u w' g' r σ', (Instr.buildSlice t n pv).run P w = .ok u w' ∧ g.Le g' ∧ Conc g' w' σ' ∧ R g' r u ∧ k r σ' := by
  unfold buildSliceM at hk
  split at hk
  · obtain ⟨o, ho, hol, hot, hor⟩ := hc.new
    exact sound_buildSliceN hc ho hol hot hor h1 h2 (hk o ho)
  · obtain ⟨u, w', g', r, q1, q2, q3, q4, q5⟩ := sound_buildSlice hc h1 h2 hk
    exact ⟨u, w', g', r, σ, q1, q2, q3, q4, q5⟩
def isMu (mu : List Nat) : Option Tmp → Bool
  | some d => mu.contains d
  | none => false
def callA (P : Program) (mu : Bool) (c : Call) (ρ : Env) (σ : Store) (k : KK) : Prop :=
  match c.callee with
  | .value f => (match ev ρ f with
    | .fn f caps => PCall P f (c.args.toList.map (ev ρ) ++ caps) σ (Hold k .mk)
    | _ => False)
  | .builtin b => (match b, c.args.toList, c.argTypes.toList with
    | .len, [x], [t] => lenA (tyOf P t) σ (ev ρ x) fun c => k c σ
    | .append, [x, y], [t, u] => (match ev ρ y with
      | .str s => appendS P (tyOf P t) (tyOf P u) σ (ev ρ x) s k
      | .int kk m => appendZ P (tyOf P t) (tyOf P u) σ (ev ρ x) kk m k
      | _ => u = t ∧ appendA P (tyOf P t) mu σ (ev ρ x) (ev ρ y) k)
    | .delete, [m, x], [t, _] => mapDelA P (tyOf P t) σ (ev ρ m) (ev ρ x) fun s => k (.tup []) s
    | b, xs, ts => builtinX P b ts (xs.map (ev ρ)) σ k)
  | _ => False
def xMu (mu : List Nat) : Option Tmp → Bool
  | some d => mu.contains (d + 1000000)
  | none => false
def OpSem (P : Program) (mu : List Nat) (o : Oper) (ρ : Env) (σ : Store) (k : KK) : Prop :=
  match o.op with
  | .move x => k (ev ρ x) σ
  | .assign x => k (ev ρ x) σ
  | .pick c a b => (match ev ρ c with
    | .bool t => k (if t = true then ev ρ a else ev ρ b) σ
    | _ => False)
  | .box t x => boxA (isMu mu o.dst) t (ev ρ x) σ k
  | .alloc t => allocA t (tyOf P t) σ k
  | .build t ps => buildA P (tyOf P t) (ps.toList.map fun p => (p.1, ev ρ p.2)) fun c => k c σ
  | .buildSlice t n ps => buildSliceM P (tyOf P t) n (ps.toList.map fun p => (p.1, ev ρ p.2)) (isMu mu o.dst) σ k
  | .load t a => behind σ (ev ρ a) fun cs off => loadA (tyOf P t) cs off fun c => k c σ
  | .store t a v => storeA (tyOf P t) σ (ev ρ a) (ev ρ v) fun s => k (.tup []) s
  | .nilCheck x => nilCheckA (ev ρ x) fun c => k c σ
  | .binOp op t x y _ => binA P op t (ev ρ x) (ev ρ y) fun c => k c σ
  | .unOp op _ x => unA op (ev ρ x) fun c => k c σ
  | .convert s d x => convX P s d σ (ev ρ x) k
  | .makeFunc fn first caps => (match fn with
    | .func f => first = #[] ∧ k (.fn f (caps.toList.map (ev ρ))) σ
    | _ => False)
  | .makeMap _ r => r = none ∧ ∀ o', σ o' = none → k (.map o') (σ.put o' (.map []))
  | .makeSlice t l c => makeSliceA P (tyOf P t) (ev ρ l) (ev ρ c) σ k
  | .slice t x lo hi mx => sliceA P (tyOf P t) (ev ρ x) (lo.map (ev ρ)) (hi.map (ev ρ)) (mx.map (ev ρ)) fun c => k c σ
  | .fieldAddr s x f => fieldAddrA (tyOf P s) (ev ρ x) f fun c => k c σ
  | .field t x f => fieldA P (tyOf P t) (ev ρ x) f fun c => k c σ
  | .indexAddr t x i => indexAddrA P (tyOf P t) (ev ρ x) (ev ρ i) fun c => k c σ
  | .index t x i => indexA (tyOf P t) (ev ρ x) (ev ρ i) fun c => k c σ
  | .lookup t m key ok => lookupA P (tyOf P t) σ (ev ρ m) (ev ρ key) ok fun c => k c σ
  | .mapUpdate t m key v => mapSetA P (tyOf P t) σ (ev ρ m) (ev ρ key) (ev ρ v) fun s => k (.tup []) s
  | .insert t m key v => mapSetA P (tyOf P t) σ (ev ρ m) (ev ρ key) (ev ρ v) fun s => k (.tup []) s
  | .extract t i => extractA (ev ρ t) i fun c => k c σ
  | .range t x => rangeA (tyOf P t) σ (ev ρ x) k
  | .next x s => s = false ∧ nextA σ (ev ρ x) k
  | .entry x => entryA σ (ev ρ x) k
  | .call c => if xMu mu o.dst = true then externA P c ρ σ k else callA P (isMu mu o.dst) c ρ σ k
  | _ => False
def Res (P : Program) (o : Oper) (a : Act) (w : World) (Post : Value → World → Prop) : Prop :=
  (∃ v w', (execOp a.eval o).run P w = .ok (.value v) w' ∧ Post v w') ∨ (∃ w', (execOp a.eval o).run P w = .ok .skip w' ∧ Post undef w') ∨
  (∃ f args w1, (execOp a.eval o).run P w = .ok (.enter f args) w1 ∧ Calls P f args w1 fun e w' => ∃ v, e = .returned v ∧ Post v w')
theorem Res.wp {P : Program} {o : Oper} {a : Act} {w : World} {Post : Value → World → Prop} (h : Res P o a w Post) {next : Act → World → Prop} {Q : Exit → Act → World → Prop} (hn : ∀ v w', Post v w' → next (a.put o.dst v) w') :
    o.wp P a w next Q := by
  unfold Oper.wp
  rcases h with ⟨v, w', hr, hp⟩ | ⟨w', hr, hp⟩ | ⟨f, args, w1, hr, hp⟩
  · rw [hr]; exact hn v w' hp
  · rw [hr]; exact hn undef w' hp
  · rw [hr]
    refine Calls.mono hp ?_
    rintro e w' ⟨v, rfl, hv⟩
    exact hn v w' hv
def After (g : Gh) (k : KK) (v : Value) (w' : World) : Prop := ∃ g' r σ', g.Le g' ∧ Conc g' w' σ' ∧ R g' r v ∧ k r σ'
theorem RL_eval {g : Gh} {n : Nat} {ρ : Env} {a : Act} (he : RE g n ρ a.tmps) (l : List Operand) : RL g (l.map (ev ρ)) (l.map a.eval) :=
  ⟨by simp, fun i x v hx hv => by
    simp only [List.getElem?_map] at hx hv
    cases hl : l[i]? with
    | none => simp [hl] at hx
    | some o => simp [hl] at hx hv; subst hx; subst hv; exact he.eval o⟩
theorem opt_eval {g : Gh} {n : Nat} {ρ : Env} {a : Act} (he : RE g n ρ a.tmps) (x : Option Operand) : (∀ y, x.map (ev ρ) = some y → ∃ v, x.map a.eval = some v ∧ R g y v) ∧ (x.map (ev ρ) = none → x.map a.eval = none) := by
  cases x with
  | none => exact ⟨nofun, fun _ => rfl⟩
  | some o => exact ⟨fun y hy => by injection hy with hy; subst hy; exact ⟨_, rfl, he.eval o⟩, nofun⟩
theorem OpSem_sound {P : Program} {mu : List Nat} {o : Oper} {ρ : Env} {σ : Store} {k : KK} (hk : OpSem P mu o ρ σ k) {g : Gh} {n : Nat} {a : Act} {w : World} (he : RE g n ρ a.tmps) (hc : Conc g w σ) : Res P o a w (After g k) := by
  have pure1 : ∀ {s : Sem Value} {k' : AV → Prop}, (∃ u r, s.run P w = .ok u w ∧ R g r u ∧ k' r) → (∀ r, k' r → k r σ) → execOp a.eval o = (do pure (.value (← s))) → Res P o a w (After g k) := by
    rintro s k' ⟨u, r, h1, h2, h3⟩ h4 h5
    refine .inl ⟨u, w, ?_, g, r, σ, .refl g, hc, h2, h4 r h3⟩
    rw [h5]; simp [h1]
  obtain ⟨dst, op, type, pos, after, guard⟩ := o
  unfold OpSem at hk
  cases op <;> simp only at hk <;> try exact hk.elim
  case move x => exact .inl ⟨_, w, rfl, g, _, σ, .refl g, hc, he.eval x, hk⟩
  case assign x => exact .inl ⟨_, w, rfl, g, _, σ, .refl g, hc, he.eval x, hk⟩
  case pick c x y =>
    have hr := he.eval c
    split at hk
    · rename_i t ht
      rw [ht] at hr
      generalize hv : a.eval c = v at hr
      cases hr
      refine .inl ⟨if t = true then a.eval x else a.eval y, w, ?_, g, _, σ, .refl g, hc, ?_, hk⟩
      · simp [execOp, hv, asBool]
      · split
        · exact he.eval x
        · exact he.eval y
    · exact hk.elim
  case box e x =>
    obtain ⟨hkn, hk⟩ := hk
    have hrun : (execOp a.eval ⟨dst, .box e x, type, pos, after, guard⟩).run P w = .ok (.value (.pointer (some ⟨w.heap.size, 0, none⟩))) (w.alloc (.cells (a.eval x).cells e)) := by
      simp [execOp, Instr.box, newVar, newRow]
    split at hk
    · obtain ⟨g', r, σ', h1, h2, h3, h4⟩ := new_box (P := P) hc (he.eval x) hkn e hk
      exact .inl ⟨_, _, hrun, g', r, σ', h1, h2, h3, h4⟩
    · obtain ⟨g', h1, h2, h3⟩ := alloc_imm (P := P) hc (he.eval x) hkn e
      exact .inl ⟨_, _, hrun, g', _, σ, h1, h2, h3, hk⟩
  case alloc t =>
    obtain ⟨hok, hk⟩ := hk
    split at hk
    · rename_i z hz
      obtain ⟨zv, hzv, hzr, _⟩ := run_zero' hok hz w
      obtain ⟨g', r, σ', h1, h2, h3, h4⟩ := new_box (P := P) hc (hzr g) hk.1 t hk.2
      exact .inl ⟨_, _, by simp [execOp, Instr.alloc, hzv, newVar, newRow], g', r, σ', h1, h2, h3, h4⟩
    · exact hk.elim
  case build t ps =>
    refine pure1 (s := Instr.build t (ps.map fun (i, x) => (i, a.eval x))) (k' := fun c => k c σ) (sound_build ?_ ?_ hk) (fun _ h => h) rfl
    · simp [List.map_map, Function.comp_def]
    · have := RL_eval he (ps.toList.map (·.2))
      simpa [List.map_map, Function.comp_def] using this
  case buildSlice t m ps =>
    obtain ⟨u, w', g', r, σ', h1, h2, h3, h4, h5⟩ := sound_buildSliceM (pv := ps.map fun (i, x) => (i, a.eval x)) hc (by simp [List.map_map, Function.comp_def]) (by
      have := RL_eval he (ps.toList.map (·.2))
      simpa [List.map_map, Function.comp_def] using this) hk
    exact .inl ⟨u, w', by simp [execOp, h1], g', r, σ', h2, h3, h4, h5⟩
  case load t x => exact pure1 (sound_load hc (he.eval x) hk) (fun _ h => h) rfl
  case store t x v =>
    obtain ⟨w', σ', h1, h2, h3⟩ := sound_store hc (he.eval x) (he.eval v) hk
    exact .inr (.inl ⟨w', by simp [execOp, h1], g, _, σ', .refl g, h2, R_undef g, h3⟩)
  case nilCheck x =>
    have hr := he.eval x
    unfold nilCheckA at hk
    split at hk <;> try exact hk.elim
    all_goals
      rename_i hx
      rw [hx] at hr
      generalize hv : a.eval x = v at hr
      refine .inl ⟨v, w, ?_, g, _, σ, .refl g, hc, hr, by first | exact hk | (rw [hx] at hk; exact hk)⟩
      cases hr <;> simp [execOp, hv]
  case binOp op t x y yt =>
    have hx := he.eval x
    have hy := he.eval y
    have fin : (∃ u r, (binOp op t (a.eval x) (a.eval y)).run P w = .ok u w ∧ R g r u ∧ k r σ) → eqGuard op t x y (a.eval x) (a.eval y) = pure () → Res P ⟨dst, .binOp op t x y yt, type, pos, after, guard⟩ a w (After g k) := by
      rintro ⟨u, r, h1, h2, h3⟩ h4
      exact .inl ⟨u, w, by simp [execOp, h4, h1], g, r, σ, .refl g, hc, h2, h3⟩
    unfold binA at hk
    generalize ha : ev ρ x = A at hk hx
    generalize hb : ev ρ y = B at hk hy
    split at hk
    · rename_i i p j q
      generalize hv : a.eval x = v at hx fin
      generalize hu : a.eval y = u at hy fin
      cases hx; cases hy
      refine fin ?_ (by cases op <;> rfl)
      split at hk
      · obtain ⟨h0, hk⟩ := hk
        exact ⟨.int i (i.wrap (p * 2 ^ (min q.toNat i.bits))), _, by simp [binOp, Op.shift, show ¬ q < 0 by omega], .int _ _, hk⟩
      · obtain ⟨h0, hk⟩ := hk
        exact ⟨.int i (p.fdiv (2 ^ (min q.toNat i.bits))), _, by simp [binOp, Op.shift, show ¬ q < 0 by omega], .int _ _, hk⟩
      · rename_i n1 n2
        obtain ⟨rfl, hk⟩ := hk
        exact sound_int hk (fun h => n1 h) (fun h => n2 h)
    · generalize hv : a.eval x = v at hx fin
      generalize hu : a.eval y = u at hy fin
      cases hx; cases hy
      exact fin (sound_str hk) (by cases op <;> rfl)
    · rename_i p q
      generalize hv : a.eval x = v at hx fin
      generalize hu : a.eval y = u at hy fin
      cases hx; cases hy
      refine fin ?_ (by cases op <;> rfl)
      obtain ⟨hkd, hk⟩ := hk
      obtain ⟨ti, td, i1, i2, i3⟩ := ty_kind hkd (by simp)
      cases td <;> simp [kindOf] at i3
      have heq : (Op.equal t (.bool p) (.bool q)).run P w = .ok (p == q) w := by
        unfold Op.equal
        obtain ⟨d, hd⟩ : ∃ d, Op.maxDepth = d + 1 := ⟨9999, rfl⟩
        rw [hd]
        simp [Op.equalIn, run_underlying i2]
      split at hk
      · exact ⟨.bool (p == q), _, by simp [binOp, heq], .bool _, hk⟩
      · exact ⟨.bool (!(p == q)), _, by simp [binOp, heq], .bool _, hk⟩
      · exact hk.elim
    · rename_i xs ys
      generalize hv : a.eval x = v at hx fin
      generalize hu : a.eval y = u at hy fin
      obtain ⟨k1, k2, hk⟩ := hk
      have hB := keyB_iff hx hy k1 k2
      have v1 := keyKind_V hx k1
      have v2 := keyKind_V hy k2
      cases hx with
      | agg l1 r1 =>
        cases hy with
        | agg l2 r2 =>
          rename_i us vs
          have hwd : ∃ ks, (tyOf P t).kk = .wide ks := by
            cases hq : (tyOf P t).kk <;> rw [hq] at k1 <;> simp [keyKind] at k1
            exact ⟨_, rfl⟩
          obtain ⟨ks, hwd⟩ := hwd
          obtain ⟨hf, hgt, d, hd1, hd2⟩ := wide_ty hwd
          obtain ⟨w1, f1⟩ : whole P t (.agg us) = true ∧ fits ks us.toList = true := by
            rcases v1 with ⟨d', _, h'⟩ | ⟨_, ks', hf', q1, q2⟩
            · cases d' <;> simp [MapKept.IsKey] at h'
            · rw [hf] at hf'; injection hf' with hf'; subst hf'; exact ⟨q1, q2⟩
          obtain ⟨w2, f2⟩ : whole P t (.agg vs) = true ∧ fits ks vs.toList = true := by
            rcases v2 with ⟨d', _, h'⟩ | ⟨_, ks', hf', q1, q2⟩
            · cases d' <;> simp [MapKept.IsKey] at h'
            · rw [hf] at hf'; injection hf' with hf'; subst hf'; exact ⟨q1, q2⟩
          obtain ⟨r, hr, hiff⟩ := equal_flat 9994 6 t ks hf w (.agg us) (.agg vs) w1 w2 f1 f2
          have heq : (Op.equal t (.agg us) (.agg vs)).run P w = .ok r w := hr
          have hrB : r = cellsB xs ys := by
            have : r = true ↔ cellsB xs ys = true := by
              rw [hiff]
              simp only [keyB, Value.agg.injEq] at hB
              rw [hB]
              simp only [Value.cells]
              exact ⟨fun e => Array.ext' e, fun e => by rw [e]⟩
            cases r <;> cases hq : cellsB xs ys <;> simp [hq] at this ⊢
          subst hrB
          refine .inl ?_
          split at hk
          · exact ⟨.bool (cellsB xs ys), w, by simp [execOp, hv, hu, eqGuard, hgt, binOp, heq], g, _, σ, .refl g, hc, .bool _, hk⟩
          · exact ⟨.bool (!cellsB xs ys), w, by simp [execOp, hv, hu, eqGuard, hgt, binOp, heq], g, _, σ, .refl g, hc, .bool _, hk⟩
          · exact hk.elim
    · obtain ⟨hkind, hok, hek, rfl, rfl, rfl, hk⟩ := hk
      generalize hv : a.eval x = v at hx fin
      generalize hu : a.eval y = u at hy fin
      cases hx with
      | ptr hb1 =>
        cases hy with
        | ptr hb2 =>
          rw [hb1] at hb2
          injection hb2 with hb2
          injection hb2 with q1 q2
          injection q2 with q2 q3
          subst q1; subst q2
          exact fin (sound_ptrEq hkind hok hek _ hk) (by cases op <;> rfl)
    · obtain ⟨z, r, h1, h2, h3, h4⟩ := sound_nil (P := P) (w := w) hx hy hk
      exact fin ⟨z, r, h1, h2, h3⟩ (h4 _ _)
  case unOp op t x => exact pure1 (sound_un (he.eval x) hk) (fun _ h => h) rfl
  case convert s d x =>
    obtain ⟨r, w', g', x', σ', q1, q2, q3, q4, q5⟩ := sound_convX hc (he.eval x) hk
    exact .inl ⟨_, _, by simp [execOp, q1], g', x', σ', q2, q3, q4, q5⟩
  case makeFunc fn first caps =>
    split at hk
    · rename_i f
      obtain ⟨rfl, hk⟩ := hk
      have hrl := RL_eval he caps.toList
      refine .inl ⟨.func (.func f) #[] (caps.map a.eval), w, by simp [execOp, Instr.makeFunc], g, _, σ, .refl g, hc, .fn (by simp) (fun i c v h1 h2 => hrl.2 i c v h1 ?_), hk⟩
      simpa using h2
    · exact hk.elim
  case makeMap t r =>
    obtain ⟨rfl, hk⟩ := hk
    obtain ⟨g', r, σ', h1, h2, h3, h4⟩ := sound_makeMap (P := P) hc hk
    exact .inl ⟨_, _, by simp [execOp, run_makeMap], g', r, σ', h1, h2, h3, h4⟩
  case makeSlice t l c =>
    obtain ⟨r, w', g', x, σ', h1, h2, h3, h4, h5⟩ := sound_makeSlice hc (he.eval l) (he.eval c) hk
    exact .inl ⟨_, _, by simp [execOp, h1], g', x, σ', h2, h3, h4, h5⟩
  case slice t x lo hi mx =>
    have h1 := opt_eval he lo
    have h2 := opt_eval he hi
    have h3 := opt_eval he mx
    exact pure1 (sound_slice (he.eval x) h1.1 h1.2 h2.1 h2.2 h3.1 h3.2 hk) (fun _ h => h) rfl
  case fieldAddr s x f => exact pure1 (sound_fieldAddr (he.eval x) hk) (fun _ h => h) rfl
  case field t x f => exact pure1 (sound_field (he.eval x) hk) (fun _ h => h) rfl
  case indexAddr t x i => exact pure1 (sound_indexAddr (he.eval x) (he.eval i) hk) (fun _ h => h) rfl
  case index t x i => exact pure1 (sound_index (he.eval x) (he.eval i) hk) (fun _ h => h) rfl
  case lookup t m key ok => exact pure1 (sound_lookup hc (he.eval m) (he.eval key) hk) (fun _ h => h) rfl
  case mapUpdate t m key v =>
    obtain ⟨w', σ', h1, h2, h3⟩ := sound_mapSet hc (he.eval m) (he.eval key) (he.eval v) hk
    exact .inr (.inl ⟨w', by simp [execOp, h1], g, _, σ', .refl g, h2, R_undef g, h3⟩)
  case insert t m key v =>
    obtain ⟨w', σ', h1, h2, h3⟩ := sound_mapSet hc (he.eval m) (he.eval key) (he.eval v) hk
    exact .inr (.inl ⟨w', by simp [execOp, h1], g, _, σ', .refl g, h2, R_undef g, h3⟩)
  case range t x =>
    obtain ⟨u, w', g', r, σ', h1, h2, h3, h4, h5⟩ := sound_range hc (he.eval x) hk
    exact .inl ⟨u, w', by simp [execOp, h1], g', r, σ', h2, h3, h4, h5⟩
  case next x s =>
    obtain ⟨rfl, hk⟩ := hk
    obtain ⟨u, w', r, σ', h1, h2, h3, h4⟩ := sound_next (P := P) hc (he.eval x) type hk
    exact .inl ⟨u, w', by simp [execOp, h1], g, r, σ', .refl g, h2, h3, h4⟩
  case entry x =>
    obtain ⟨u, r, h1, h2, h3⟩ := sound_entry (P := P) hc (he.eval x) hk
    exact .inl ⟨u, w, by simp [execOp, h1], g, r, σ, .refl g, hc, h2, h3⟩
  case extract t i => exact pure1 (sound_extract (he.eval t) hk) (fun _ h => h) rfl
  case call c =>
    split at hk
    · rename_i hxm
      obtain ⟨callee, args, argTypes⟩ := c
      unfold externA at hk
      simp only at hk
      split at hk
      · rename_i f x hargs
        have hf := he.eval f
        split at hk
        · rename_i fid hfe
          rw [hfe] at hf
          generalize hv : a.eval f = fv at hf
          obtain ⟨hid, hk⟩ := hk
          have h1 : args = #[x] := by rw [← Array.toArray_toList (xs := args), hargs]
          subst h1
          cases hf with
          | fn hl h =>
            rename_i vs
            have hvs : vs = #[] := Array.eq_empty_of_size_eq_zero (by simpa using hl.symm)
            subst hvs
            refine .inl ⟨_, w, ?_, g, _, σ, .refl g, hc, he.eval x, hk⟩
            simpa [execOp, resolve, hv, Deferred.ofValue, invoke] using hid (a.eval x) w
        · exact hk.elim
      · exact hk.elim
    unfold callA at hk
    obtain ⟨callee, args, argTypes⟩ := c
    simp only at hk
    split at hk
    · rename_i f
      have hf := he.eval f
      split at hk
      · rename_i fid caps hfe
        rw [hfe] at hf
        generalize hv : a.eval f = fv at hf
        cases hf with
        | fn hl h =>
          rename_i vs
          obtain ⟨⟨fn, hfn, hname, hbody⟩, hcall⟩ := hk
          have hrl := RL_eval he args.toList
          refine .inr (.inr ⟨fid, args.map a.eval ++ vs, w, ?_, ?_⟩)
          · have hbn : ¬ fn.body = none := fun e => by rw [e] at hbody; cases hbody
            have hnn : ¬ fn.name = "runtime.NumGoroutine" := fun e => by rw [e] at hname; exact absurd hname (by simp)
            simp [execOp, resolve, hv, Deferred.ofValue, invoke, callFunc, program, Sem.run, hfn, hnn, hbn]
          · refine hcall g w _ (by simp [hl]) (fun i c v h1 h2 => ?_) hc
            rw [List.getElem?_append] at h1
            rw [Array.getElem?_append] at h2
            simp only [List.length_map, Array.length_toList] at h1
            simp only [Array.size_map] at h2
            split at h1
            · rename_i q; rw [if_pos q] at h2
              exact hrl.2 i c v h1 (by simpa using h2)
            · rename_i q; rw [if_neg q] at h2
              exact h _ c v h1 h2
      · exact hk.elim
    · split at hk
      · rename_i x t hargs htys
        have h1 : args = #[x] := by rw [← Array.toArray_toList (xs := args), hargs]
        have h2 : argTypes = #[t] := by rw [← Array.toArray_toList (xs := argTypes), htys]
        subst h1; subst h2
        exact pure1 (s := Builtin.len_ #[t] type #[a.eval x]) (k' := fun c => k c σ) (sound_len hc (he.eval x) hk) (fun _ h => h) (by simp [execOp, resolve, invoke, builtin])
      · rename_i x y t u hargs htys
        split at hk
        · rename_i s hs
          have hy := he.eval y
          rw [hs] at hy
          have h1 : args = #[x, y] := by rw [← Array.toArray_toList (xs := args), hargs]
          have h2 : argTypes = #[t, u] := by rw [← Array.toArray_toList (xs := argTypes), htys]
          subst h1; subst h2
          generalize hyv : a.eval y = yv at hy
          cases hy
          obtain ⟨r, w', g', x', σ', q1, q2, q3, q4, q5⟩ := sound_appendS (ty := type) hc (he.eval x) hk
          exact .inl ⟨_, _, by simp [execOp, resolve, invoke, builtin, hyv, q1], g', x', σ', q2, q3, q4, q5⟩
        · rename_i kk m hs
          have hy := he.eval y
          rw [hs] at hy
          have h1 : args = #[x, y] := by rw [← Array.toArray_toList (xs := args), hargs]
          have h2 : argTypes = #[t, u] := by rw [← Array.toArray_toList (xs := argTypes), htys]
          subst h1; subst h2
          generalize hyv : a.eval y = yv at hy
          cases hy
          obtain ⟨r, w', g', x', σ', q1, q2, q3, q4, q5⟩ := sound_appendZ (ty := type) hc (he.eval x) hk
          exact .inl ⟨_, _, by simp [execOp, resolve, invoke, builtin, hyv, q1], g', x', σ', q2, q3, q4, q5⟩
        obtain ⟨rfl, hk⟩ := hk
        have h1 : args = #[x, y] := by rw [← Array.toArray_toList (xs := args), hargs]
        have h2 : argTypes = #[u, u] := by rw [← Array.toArray_toList (xs := argTypes), htys]
        subst h1; subst h2
        obtain ⟨r, w', g', x', σ', q1, q2, q3, q4, q5⟩ := sound_append (ty := type) hc (he.eval x) (he.eval y) hk
        exact .inl ⟨_, _, by simp [execOp, resolve, invoke, builtin, q1], g', x', σ', q2, q3, q4, q5⟩
      · rename_i m x t t2 hargs htys
        have h1 : args = #[m, x] := by rw [← Array.toArray_toList (xs := args), hargs]
        have h2 : argTypes = #[t, t2] := by rw [← Array.toArray_toList (xs := argTypes), htys]
        subst h1; subst h2
        obtain ⟨w', σ', q1, q2, q3⟩ := sound_mapDel (t2 := t2) (ty := type) hc (he.eval m) (he.eval x) hk
        exact .inl ⟨.tuple #[], _, by simp [execOp, resolve, invoke, builtin, q1], g, _, σ', .refl g, q2, R_undef g, q3⟩
      · have hrl := RL_eval he args.toList
        obtain ⟨r, w', g', x', σ', q1, q2, q3, q4, q5⟩ := sound_builtinX (ty := type) (cs := args.map fun | .const _ => true | _ => false) hc (vs := args.toList.map a.eval) (by simp) (fun i c v h1 h2 => hrl.2 i c v h1 h2) hk
        rw [show (args.toList.map a.eval).toArray = args.map a.eval from by apply Array.ext'; simp] at q1
        exact .inl ⟨_, _, by simp only [execOp, resolve, invoke, Sem.run_bind, Sem.run_pure, Result.andThen_ok]; exact q1, g', x', σ', q2, q3, q4, q5⟩
    · exact hk.elim
def apN (P : Program) (mu : List Nat) (o : Oper) (ρ : Env) (σ : Store) (nu : Nat) (k : KK) : Prop :=
  match o.op with
  | .call c => (match c.callee, c.args.toList, c.argTypes.toList with
    | .builtin .append, [x, y], [t, u] => u = t ∧ appendN P (tyOf P t) (isMu mu o.dst) σ (ev ρ x) (ev ρ y) nu k
    | _, _, _ => False)
  | .buildSlice t n ps => buildSliceN P (tyOf P t) n (ps.toList.map fun p => (p.1, ev ρ p.2)) σ nu k
  | _ => False
theorem apN_sound {P : Program} {mu : List Nat} {o : Oper} {ρ : Env} {σ : Store} {nu : Nat} {k : KK} (hk : apN P mu o ρ σ nu k) {g : Gh} {n : Nat} {a : Act} {w : World} (he : RE g n ρ a.tmps) (hc : Conc g w σ)
    (ho : σ nu = none) (hol : g.loc nu = none) (hot : ∀ m, g.tipv nu m = none) (hor : ¬ g.res nu) : Res P o a w (After g k) := by
  obtain ⟨dst, op, type, pos, after, guard⟩ := o
  unfold apN at hk
  simp only at hk
  split at hk
  · rename_i c
    obtain ⟨callee, args, argTypes⟩ := c
    simp only at hk
    split at hk
    · rename_i x y t u hargs htys
      obtain ⟨rfl, hk⟩ := hk
      have h1 : args = #[x, y] := by rw [← Array.toArray_toList (xs := args), hargs]
      have h2 : argTypes = #[u, u] := by rw [← Array.toArray_toList (xs := argTypes), htys]
      subst h1; subst h2
      obtain ⟨r, w', g', x', σ', q1, q2, q3, q4, q5⟩ := sound_appendN (ty := type) hc (he.eval x) (he.eval y) ho hol hot hor hk
      exact .inl ⟨_, _, by simp [execOp, resolve, invoke, builtin, q1], g', x', σ', q2, q3, q4, q5⟩
    · exact hk.elim
  · rename_i t m ps
    obtain ⟨u, w', g', r, σ', h1, h2, h3, h4, h5⟩ := sound_buildSliceN (pv := ps.map fun (i, x) => (i, a.eval x)) hc ho hol hot hor (by simp [List.map_map, Function.comp_def]) (by
      have := RL_eval he (ps.toList.map (·.2))
      simpa [List.map_map, Function.comp_def] using this) hk
    exact .inl ⟨u, w', by simp [execOp, h1], g', r, σ', h2, h3, h4, h5⟩
  · exact hk.elim
end Go.Kern

namespace Go.Kern
open Go.RowKit
def guardP (ops : Array Oper) (ρ : Env) (o : Oper) (k : Bool → Prop) : Prop :=
  match o.guard with
  | none => k true
  | some (j, want) => (match (ops[j]?).bind (·.dst) with
    | some t => (match ρ.get t with
      | .bool b => k (b == want)
      | .tup _ => k false
      | _ => False)
    | none => k false)
theorem guard_sound {ops : Array Oper} {ρ : Env} {o : Oper} {k : Bool → Prop} (h : guardP ops ρ o k) {g : Gh} {n : Nat} {t : Array Value} (he : ∀ j want, o.guard = some (j, want) → ∀ s, (ops[j]?).bind (·.dst) = some s → R g (ρ.get s) (t.getD s undef)) :
    k (Region.wanted o (yielded ops t)) := by
  unfold guardP at h
  unfold Region.wanted
  cases hg : o.guard with
  | none => rw [hg] at h; exact h
  | some jw =>
    obtain ⟨j, want⟩ := jw
    rw [hg] at h
    simp only at h ⊢
    cases hd : (ops[j]?).bind (·.dst) with
    | none => rw [hd] at h; simp only [yielded, hd, Option.bind_none]; exact h
    | some s =>
      have hr := he j want hg s hd
      rw [hd] at h
      simp only at h
      have hgd : t.getD s undef = (t[s]?).getD undef := Array.getD_eq_getD_getElem? ..
      rw [hgd] at hr
      split at h
      · rename_i b hb
        rw [hb] at hr
        cases hts : t[s]? with
        | none => rw [hts] at hr; simp only [Option.getD_none] at hr; cases hr
        | some v =>
          rw [hts] at hr
          simp only [Option.getD_some] at hr
          cases hr
          simp only [yielded, hd, Option.bind_some, hts]
          have : ((some b : Option Bool) == some want) = (b == want) := by cases b <;> cases want <;> rfl
          rw [this]; exact h
      · rename_i l hb
        rw [hb] at hr
        cases hts : t[s]? with
        | none => simp only [yielded, hd, Option.bind_some, hts]; exact h
        | some v =>
          rw [hts] at hr
          simp only [Option.getD_some] at hr
          cases hr
          simp only [yielded, hd, Option.bind_some, hts]; exact h
      · exact h.elim
def prun (P : Program) (n : Nat) (mu : List Nat) (ops : Array Oper) : List Oper → Env → Store → (Env → Store → Prop) → Prop
  | [], ρ, σ, K => K ρ σ
  | o :: r, ρ, σ, K => dstOk n o.dst = true ∧ (match o.guard with
    | none => OpSem P mu o ρ σ (fun v σ' => prun P n mu ops r (ρ.putO o.dst v) σ' K)
    | some _ => guardP ops ρ o fun b => if b = true then Hold (OpSem P mu o ρ σ (fun v σ' => prun P n mu ops r (ρ.putO o.dst v) σ' K)) .mk else Hold (prun P n mu ops r (ρ.putO o.dst (.tup [])) σ K) .mk)
theorem prun_nil {P : Program} {n : Nat} {mu : List Nat} {ops : Array Oper} {ρ : Env} {σ : Store} {K : Env → Store → Prop} : prun P n mu ops [] ρ σ K = K ρ σ := propext Iff.rfl
theorem prun_cons {P : Program} {n : Nat} {mu : List Nat} {ops : Array Oper} {o : Oper} {r : List Oper} {ρ : Env} {σ : Store} {K : Env → Store → Prop} : prun P n mu ops (o :: r) ρ σ K = (dstOk n o.dst = true ∧ (match o.guard with
    | none => OpSem P mu o ρ σ (fun v σ' => prun P n mu ops r (ρ.putO o.dst v) σ' K)
    | some _ => guardP ops ρ o fun b => if b = true then Hold (OpSem P mu o ρ σ (fun v σ' => prun P n mu ops r (ρ.putO o.dst v) σ' K)) .mk else Hold (prun P n mu ops r (ρ.putO o.dst (.tup [])) σ K) .mk)) := propext Iff.rfl
theorem prun_sound {P : Program} {n : Nat} {mu : List Nat} {ops : Array Oper} {Q : Post} : ∀ (l : List Oper) (ρ : Env) (σ : Store), prun P n mu ops l ρ σ (fun ρ' σ' => Q .normal ρ' σ') →
    ∀ (g0 g : Gh) (a : Act) (w : World), g0.Le g → a.defers = [] → RE g n ρ a.tmps → Conc g w σ → wpList P ops (Lift g0 n Q) l a w
  | [], ρ, σ, h, g0, g, a, w, hle, hd, he, hc => wpList_nil ⟨hd, g, ρ, σ, hle, he, hc, h⟩
  | o :: r, ρ, σ, h, g0, g, a, w, hle, hd, he, hc => by
    obtain ⟨hdst, h⟩ := h
    have h : guardP ops ρ o fun b => if b = true then OpSem P mu o ρ σ (fun v σ' => prun P n mu ops r (ρ.putO o.dst v) σ' (fun ρ' σ' => Q .normal ρ' σ')) else prun P n mu ops r (ρ.putO o.dst (.tup [])) σ (fun ρ' σ' => Q .normal ρ' σ') := by
      split at h
      · rename_i hn
        unfold guardP
        rw [hn]
        exact h
      · exact h
    have hg := guard_sound h (g := g) (n := n) (t := a.tmps) (fun _ _ _ s _ => he.get s)
    refine wpList_step fun K hK => ?_
    split
    · rename_i hw
      rw [if_pos hw] at hg
      refine (OpSem_sound hg he hc).wp ?_
      rintro v w' ⟨g', x, σ', h1, h2, h3, h4⟩
      refine hK _ _ (prun_sound r _ σ' h4 g0 g' _ w' (hle.trans h1) ?_ ((he.le h1).put hdst h3) h2)
      cases hdo : o.dst <;> simp [Act.put, hd]
    · rename_i hw
      rw [if_neg hw] at hg
      refine hK _ _ (prun_sound r _ σ hg g0 g _ w hle ?_ (he.put hdst (R_undef g)) hc)
      cases hdo : o.dst <;> simp [Act.put, hd]
theorem W_region {P : Program} {n : Nat} {mu : List Nat} {id : Nat} {ops : Array Oper} {Q : Post} {ρ : Env} {σ : Store} (h : prun P n mu ops ops.toList ρ σ (Hold (fun ρ' σ' => Q .normal ρ' σ') .mk)) : W P n (.region id ops false) Q ρ σ :=
  fun g a w hd he hc => wp_region_list (prun_sound ops.toList ρ σ h g g a w (.refl g) hd he hc)
def readR (P : Program) (ρ : Env) (σ : Store) (r : ResultVar) (k : AV → Prop) : Prop :=
  match r with
  | .tmp t => k (ρ.get t)
  | .cell a t => behind σ (ρ.get a) fun cs off => loadA (tyOf P t) cs off k
def readRs (P : Program) (ρ : Env) (σ : Store) : List ResultVar → (List AV → Prop) → Prop
  | [], k => k []
  | r :: l, k => readR P ρ σ r fun x => readRs P ρ σ l fun xs => k (x :: xs)
theorem readRs_nil {P : Program} {ρ : Env} {σ : Store} {k : List AV → Prop} : readRs P ρ σ [] k = k [] := propext Iff.rfl
theorem readRs_cons {P : Program} {ρ : Env} {σ : Store} {r : ResultVar} {l : List ResultVar} {k : List AV → Prop} : readRs P ρ σ (r :: l) k = readR P ρ σ r fun x => readRs P ρ σ l fun xs => k (x :: xs) := propext Iff.rfl
def oneRes (vs : List AV) : AV :=
  match vs with
  | [x] => x
  | l => .tup l
def fnPostL (P : Program) (rl : List ResultVar) (K : KK) : Post
  | .normal, ρ, σ => readRs P ρ σ rl fun vs => K (oneRes vs) σ
  | .ret, ρ, σ => readRs P ρ σ rl fun vs => K (oneRes vs) σ
  | _, _, _ => False
def oneR (tmps : Array Value) : ResultVar → Sem Value
  | .tmp t => pure (tmps.getD t undef)
  | .cell a t => do loadVar t (← asAddr (tmps.getD a undef))
theorem results_eq (fn : Func) (tmps : Array Value) : results fn tmps = (do let vs ← fn.results.mapM (oneR tmps); pure (if h : vs.size = 1 then vs[0] else .tuple vs)) := by
  unfold results
  congr 1
theorem run_oneR {P : Program} {g : Gh} {n : Nat} {ρ : Env} {t : Array Value} {w : World} {σ : Store} (he : RE g n ρ t) (hc : Conc g w σ) {r : ResultVar} {k : AV → Prop} (h : readR P ρ σ r k) :
    ∃ v x, (oneR t r).run P w = .ok v w ∧ R g x v ∧ k x := by
  cases r with
  | tmp i => exact ⟨_, _, rfl, he.get i, h⟩
  | cell a ty =>
    have h' : behind σ (ρ.get a) fun cs off => loadA (tyOf P ty) cs off k := h
    obtain ⟨ad, cs, off, hv, hl, hk⟩ := (he.get a).behind hc h'
    obtain ⟨u, x, hrun, h1, h2⟩ := hl.load hk
    exact ⟨u, x, by simp [oneR, hv, asAddr, hrun], h1, h2⟩
theorem run_oneRs {P : Program} {g : Gh} {n : Nat} {ρ : Env} {t : Array Value} {w : World} {σ : Store} (he : RE g n ρ t) (hc : Conc g w σ) : ∀ (l : List ResultVar) {k : List AV → Prop}, readRs P ρ σ l k →
    ∃ vs xs, (l.mapM (oneR t)).run P w = .ok vs w ∧ xs.length = vs.length ∧ (∀ (i : Nat) (x : AV) (v : Value), xs[i]? = some x → vs[i]? = some v → R g x v) ∧ k xs
  | [], k, h => ⟨[], [], rfl, rfl, fun i x v hx => by simp at hx, h⟩
  | r :: l, k, h => by
    obtain ⟨v, x, hr, hx, h2⟩ := run_oneR he hc h
    obtain ⟨vs, xs, hrs, hl, hxs, hk⟩ := run_oneRs he hc l h2
    refine ⟨v :: vs, x :: xs, ?_, by simp [hl], fun i y u hy hu => ?_, hk⟩
    · rw [List.mapM_cons]; simp [hr, hrs]
    · cases i with
      | zero => simp at hy hu; subst hy; subst hu; exact hx
      | succ i => exact hxs i y u (by simpa using hy) (by simpa using hu)
theorem run_resultsL {P : Program} {fn : Func} {g : Gh} {n : Nat} {ρ : Env} {t : Array Value} {w : World} {σ : Store} (he : RE g n ρ t) (hc : Conc g w σ) {K : AV → Prop} (h : readRs P ρ σ fn.results.toList fun vs => K (oneRes vs)) :
    ∃ v x, (results fn t).run P w = .ok v w ∧ R g x v ∧ K x := by
  obtain ⟨vs, xs, hr, hl, hx, hk⟩ := run_oneRs he hc _ h
  refine ⟨if h : vs.toArray.size = 1 then vs.toArray[0] else .tuple vs.toArray, oneRes xs, ?_, ?_, hk⟩
  · rw [results_eq, Array.mapM_eq_mapM_toList]
    simp [hr]
  · match xs, vs, hl with
    | [x], [v], _ => simpa [oneRes] using hx 0 x v rfl rfl
    | [], [], _ => exact .tup rfl fun i c v hc => by simp at hc
    | a :: b :: l, c :: d :: m, hl =>
      rw [dif_neg (by simp)]
      exact .tup (by simpa using hl) fun i x v h1 h2 => hx i x v h1 (by simpa using h2)
theorem PCall_of_body {P : Program} {f : FuncId} {fn : Func} {c : Code} (rl : List ResultVar) (nt : Nat) (hf : P.funcs[f]? = some fn) (hn : (fn.name == "runtime.NumGoroutine") = false) (hb : fn.body = some c) (hr : fn.results.toList = rl) (hnt : fn.ntmps = nt)
    {args : List AV} {σ : Store} {K : KK} (hsz : decide (args.length ≤ nt) = true) (h : W P nt c (fnPostL P rl K) (envOf 0 args) σ) : PCall P f args σ K := by
  subst hr
  subst hnt
  have hsz' := of_decide_eq_true hsz
  refine ⟨⟨fn, hf, hn, by rw [hb]; rfl⟩, fun g w vs hl hr hc => ?_⟩
  refine calls_of_wp hf hb ?_
  refine wp_mono (h g { tmps := vs ++ Array.replicate (fn.ntmps - vs.size) undef, defers := [] } w rfl (RE_envOf hsz' hl hr) hc) ?_
  rintro e a' w' ⟨hd', g', ρ', σ', hle, he', hc', hq⟩
  cases e with
  | normal =>
    have hq2 : readRs P ρ' σ' fn.results.toList fun vs => K (oneRes vs) σ' := hq
    obtain ⟨v, x, hv, hrv, hk⟩ := run_resultsL (K := fun r => K r σ') he' hc' hq2; exact ⟨hd', v, hv, v, rfl, g', _, σ', hle, hc', hrv, hk⟩
  | ret =>
    have hq2 : readRs P ρ' σ' fn.results.toList fun vs => K (oneRes vs) σ' := hq
    obtain ⟨v, x, hv, hrv, hk⟩ := run_resultsL (K := fun r => K r σ') he' hc' hq2; exact ⟨hd', v, hv, v, rfl, g', _, σ', hle, hc', hrv, hk⟩
  | exit id' => exact hq.elim
  | goto l => exact hq.elim
  | panic ch => exact hq.elim
  | outgrown => exact hq.elim
end Go.Kern

namespace Go.Kern
open Go.RowKit
theorem map_ev {ρ ρ' : Env} {l : List Operand} (h : ∀ x ∈ l, ev ρ x = ev ρ' x) : l.map (ev ρ) = l.map (ev ρ') := List.map_congr_left h
theorem OpSem_congr {P : Program} {mu : List Nat} {o : Oper} {ρ ρ' : Env} {σ : Store} {k : KK} (h : ∀ x ∈ o.op.operands, ev ρ x = ev ρ' x) (hk : OpSem P mu o ρ σ k) : OpSem P mu o ρ' σ k := by
  obtain ⟨dst, op, type, pos, after, guard⟩ := o
  have pairs : ∀ ps : List (Nat × Operand), (∀ p ∈ ps, ev ρ p.2 = ev ρ' p.2) → (ps.map fun p => (p.1, ev ρ p.2)) = (ps.map fun p => (p.1, ev ρ' p.2)) := fun ps hp => List.map_congr_left fun p hm => by rw [hp p hm]
  cases op <;> simp only [Op.operands] at h <;> simp only [OpSem] at hk ⊢
  case build t ps => rw [← pairs ps.toList fun p hp => h p.2 (by simp; exact ⟨p.1, by simpa using hp⟩)]; exact hk
  case buildSlice t n ps => rw [← pairs ps.toList fun p hp => h p.2 (by simp; exact ⟨p.1, by simpa using hp⟩)]; exact hk
  case makeFunc fn first caps => rw [← map_ev (l := caps.toList) fun x hx => h x (by simp; right; simpa using hx)]; exact hk
  case slice t x lo hi mx =>
    have hx := h x (by simp)
    rw [← hx]
    have h1 : lo.map (ev ρ') = lo.map (ev ρ) := by cases lo <;> simp; exact (h _ (by simp)).symm
    have h2 : hi.map (ev ρ') = hi.map (ev ρ) := by cases hi <;> simp; exact (h _ (by simp)).symm
    have h3 : mx.map (ev ρ') = mx.map (ev ρ) := by cases mx <;> simp; exact (h _ (by simp)).symm
    rw [h1, h2, h3]; exact hk
  case call c =>
    obtain ⟨callee, args, tys⟩ := c
    simp only [Call.operands] at h
    split at hk
    · rename_i q
      rw [if_pos q]
      unfold externA at hk ⊢
      simp only at hk ⊢
      split at hk
      · rename_i f x e1
        have hf := h f (by simp)
        have hx := h x (by simp; right; rw [← Array.mem_toList_iff, e1]; simp)
        rw [← hf, ← hx]; exact hk
      · exact hk.elim
    rename_i q
    rw [if_neg q]
    unfold callA at hk ⊢
    simp only at hk ⊢
    cases callee with
    | value f =>
      have hf := h f (by simp)
      have ha := map_ev (ρ := ρ) (ρ' := ρ') (l := args.toList) fun x hx => h x (by simp; right; simpa using hx)
      simp only at hk ⊢
      rw [← hf, ← ha]; exact hk
    | invoke r m => exact hk
    | builtin b =>
      have hx : ∀ x ∈ args.toList, ev ρ x = ev ρ' x := fun x hx => h x (by simp; simpa using hx)
      have hmap := map_ev (ρ := ρ) (ρ' := ρ') (l := args.toList) hx
      simp only at hk ⊢
      split at hk
      · rename_i x t e1 e2
        rw [e1] at hx
        rw [← hx x (by simp)]; exact hk
      · rename_i x y t u e1 e2
        rw [e1] at hx
        rw [← hx x (by simp), ← hx y (by simp)]; exact hk
      · rename_i x y t u e1 e2
        rw [e1] at hx
        rw [← hx x (by simp), ← hx y (by simp)]; exact hk
      · rw [← hmap]; exact hk
  all_goals (first | exact hk | (simp only [List.mem_toArray, List.mem_cons, List.not_mem_nil, or_false, forall_eq_or_imp, forall_eq] at h; simp only [← h]; exact hk) | (simp at h; simp only [← h]; exact hk))
def edgesOf (ops : Array Oper) (i : Nat) : List Nat := ((ops[i]?).map fun o => (o.after.toList.filter (Region.binds .any)).map (·.on)).getD []
def ancOk (ops : Array Oper) (A : List (List Nat)) : Bool :=
  (List.range ops.size).all fun i => (edgesOf ops i).all (fun e => decide (e < i)) && (A.getD i []).all fun j => (edgesOf ops i).any fun e => decide (j = e) || (A.getD e []).contains j
def mkAnc (ops : Array Oper) : List (List Nat) :=
  (List.range ops.size).foldl (fun acc i => acc ++ [((edgesOf ops i).flatMap fun e => e :: acc.getD e []).eraseDups]) []
structure Cl where
  tq : List Nat
  wr : List Nat
  al : List Nat
  ap : List Nat
  fin : List Nat
  lt : List Nat
  lo : Nat
def Cl.any (c : Cl) (i : Nat) : Bool := c.tq.contains i || c.wr.contains i || c.al.contains i
def Cl.clash (c : Cl) (i j : Nat) : Bool := (c.wr.contains i && (c.wr.contains j || c.al.contains j || (c.tq.contains j && !c.lt.contains i))) || (c.wr.contains j && (c.wr.contains i || c.al.contains i || (c.tq.contains i && !c.lt.contains j))) || (c.al.contains i && c.tq.contains j) || (c.al.contains j && c.tq.contains i)
def pairOk (c : Cl) (ops : Array Oper) (A : List (List Nat)) : Bool :=
  (List.range ops.size).all fun j => (List.range j).all fun i => (A.getD j []).contains i || (match ops[i]?, ops[j]? with
    | some a, some b => a.apart ops b && !c.clash i j
    | _, _ => true)
def PutAt (q : Nat) (s t : Store) : Prop := t = s ∨ ∃ ob, t = s.put q ob
theorem PutAt_self {q : Nat} {s : Store} {x : Ob} : PutAt q s (s.put q x) = True := eq_true (.inr ⟨x, rfl⟩)
theorem PutAt_put {q : Nat} {s : Store} {x y : Ob} : PutAt q (s.put q x) (s.put q y) = True := eq_true (.inr ⟨y, by
  funext p
  simp only [Store.put]
  split <;> rfl⟩)
theorem PutAt_same {q : Nat} {s : Store} : PutAt q s s = True := eq_true (.inl rfl)
def PutSome (s t : Store) : Prop := ∃ q, PutAt q s t
theorem PutSome_self {q : Nat} {s : Store} {x : Ob} : PutSome s (s.put q x) = True := eq_true ⟨q, .inr ⟨x, rfl⟩⟩
theorem PutSome_put {q : Nat} {s : Store} {x y : Ob} : PutSome (s.put q x) (s.put q y) = True := eq_true ⟨q, by rw [PutAt_put]; trivial⟩
theorem PutSome_same {s : Store} : PutSome s s = True := eq_true ⟨0, .inl rfl⟩
def wrOk (lt : List Nat) (lo i : Nat) (σ σ' : Store) : Prop :=
  match lt with
  | [] => True
  | _ :: _ => if lt.contains i = true then PutAt lo σ σ' else PutSome σ σ'
def tqOk (P : Program) (mu : List Nat) (lt : List Nat) (lo : Nat) (o : Oper) (ρ : Env) (σ : Store) (v : AV) : Prop :=
  match lt with
  | [] => True
  | _ :: _ => ∀ x, OpSem P mu o ρ (σ.put lo x) (fun v' s' => v' = v ∧ s' = σ.put lo x)
def regOkL (c : Cl) (ops : Array Oper) : Bool :=
  ancOk ops (mkAnc ops) && pairOk c ops (mkAnc ops) && (c.al.all fun i => !c.wr.contains i && !c.tq.contains i && (match ops[i]? with | some o => o.guard.isNone | none => false)) &&
    (c.ap.all fun i => c.wr.contains i && !c.al.contains i && (match ops[i]? with | some o => o.guard.isNone | none => false)) &&
    (c.fin.all fun i => decide (i + 1 = ops.size) && c.wr.contains i && !c.al.contains i && !c.ap.contains i && ((List.range i).all fun j => ((mkAnc ops).getD i []).contains j) && (match ops[i]? with | some o => o.guard.isNone | none => false))
def regOk (c : Cl) (ops : Array Oper) : Bool := c.lt.isEmpty && regOkL c ops
def regOkLate (c : Cl) (ops : Array Oper) : Bool := !c.lt.isEmpty && c.al.isEmpty && c.fin.isEmpty && (c.wr.all fun i => !c.tq.contains i) && (c.lt.all fun i => c.wr.contains i) && regOkL c ops
def allocN (P : Program) (o : Oper) (nu : Nat) (k : AV → Ob → Prop) : Prop :=
  match o.op with
  | .alloc t => (tyOf P t).ok = true ∧ (match (tyOf P t).zero with
    | some z => z.known = true ∧ k (.ptr nu 0 0) (.arr t [z])
    | none => False)
  | _ => False
def drun (P : Program) (n : Nat) (mu : List Nat) (c : Cl) (nu : Nat → Nat) (ops : Array Oper) : List Oper → Nat → Env → Store → (Env → Store → Prop) → Prop
  | [], _, ρ, σ, K => K ρ σ
  | o :: r, i, ρ, σ, K => dstOk n o.dst = true ∧
    (if c.al.contains i = true then allocN P o (nu i) fun v z => Hold (drun P n mu c nu ops r (i + 1) (ρ.putO o.dst v) (σ.put (nu i) z) K) .mk
    else if c.ap.contains i = true then apN P mu o ρ σ (nu i) fun v s' => wrOk c.lt c.lo i σ s' ∧ Hold (drun P n mu c nu ops r (i + 1) (ρ.putO o.dst v) s' K) .mk
    else if c.fin.contains i = true then OpSem P mu o ρ σ fun v s' => Hold (drun P n mu c nu ops r (i + 1) (ρ.putO o.dst v) s' K) .mk
    else guardP ops ρ o fun b => if b = true then
      (if c.wr.contains i = true then ∃ v σ', OpSem P mu o ρ σ (fun v' s' => v' = v ∧ s' = σ') ∧ wrOk c.lt c.lo i σ σ' ∧ Hold (drun P n mu c nu ops r (i + 1) (ρ.putO o.dst v) σ' K) .mk
        else if c.tq.contains i = true then ∃ v, OpSem P mu o ρ σ (fun v' s' => v' = v ∧ s' = σ) ∧ tqOk P mu c.lt c.lo o ρ σ v ∧ Hold (drun P n mu c nu ops r (i + 1) (ρ.putO o.dst v) σ K) .mk
        else ∃ v, (∀ s : Store, OpSem P mu o ρ s (fun v' s' => v' = v ∧ s' = s)) ∧ Hold (drun P n mu c nu ops r (i + 1) (ρ.putO o.dst v) σ K) .mk)
    else Hold (drun P n mu c nu ops r (i + 1) (ρ.putO o.dst (.tup [])) σ K) .mk)
section
variable {P : Program} {n : Nat} {mu : List Nat} {c : Cl} {nu : Nat → Nat} {ops : Array Oper} {o : Oper} {r : List Oper} {i : Nat} {ρ : Env} {σ : Store} {K : Env → Store → Prop}
theorem drun_nil : drun P n mu c nu ops [] i ρ σ K = K ρ σ := propext Iff.rfl
theorem drun_cons : drun P n mu c nu ops (o :: r) i ρ σ K = (dstOk n o.dst = true ∧
    (if c.al.contains i = true then allocN P o (nu i) fun v z => Hold (drun P n mu c nu ops r (i + 1) (ρ.putO o.dst v) (σ.put (nu i) z) K) .mk
    else if c.ap.contains i = true then apN P mu o ρ σ (nu i) fun v s' => wrOk c.lt c.lo i σ s' ∧ Hold (drun P n mu c nu ops r (i + 1) (ρ.putO o.dst v) s' K) .mk
    else if c.fin.contains i = true then OpSem P mu o ρ σ fun v s' => Hold (drun P n mu c nu ops r (i + 1) (ρ.putO o.dst v) s' K) .mk
    else guardP ops ρ o fun b => if b = true then
      (if c.wr.contains i = true then ∃ v σ', OpSem P mu o ρ σ (fun v' s' => v' = v ∧ s' = σ') ∧ wrOk c.lt c.lo i σ σ' ∧ Hold (drun P n mu c nu ops r (i + 1) (ρ.putO o.dst v) σ' K) .mk
        else if c.tq.contains i = true then ∃ v, OpSem P mu o ρ σ (fun v' s' => v' = v ∧ s' = σ) ∧ tqOk P mu c.lt c.lo o ρ σ v ∧ Hold (drun P n mu c nu ops r (i + 1) (ρ.putO o.dst v) σ K) .mk
        else ∃ v, (∀ s : Store, OpSem P mu o ρ s (fun v' s' => v' = v ∧ s' = s)) ∧ Hold (drun P n mu c nu ops r (i + 1) (ρ.putO o.dst v) σ K) .mk)
    else Hold (drun P n mu c nu ops r (i + 1) (ρ.putO o.dst (.tup [])) σ K) .mk)) := propext Iff.rfl
end
structure TStep (P : Program) (n : Nat) (mu : List Nat) (c : Cl) (nu : Nat → Nat) (ops : Array Oper) (i : Nat) (o : Oper) (ρ ρ' : Env) (σ σ' : Store) (v : AV) (z : Ob) : Prop where
  env : ρ' = ρ.putO o.dst v
  dst : dstOk n o.dst = true
  al : c.al.contains i = true → allocN P o (nu i) (fun v' z' => v' = v ∧ z' = z) ∧ σ' = σ.put (nu i) z ∧ v = .ptr (nu i) 0 0
  apn : c.ap.contains i = true → c.al.contains i = false → apN P mu o ρ σ (nu i) (fun v' s' => v' = v ∧ s' = σ')
  run : c.al.contains i = false → c.ap.contains i = false → c.fin.contains i = false → ∃ b, guardP ops ρ o (fun c => c = b) ∧ (b = true → OpSem P mu o ρ σ (fun v' s' => v' = v ∧ s' = σ')) ∧ (b = false → v = .tup [] ∧ σ' = σ) ∧
    (b = true → c.wr.contains i = false → c.tq.contains i = false → ∀ s : Store, OpSem P mu o ρ s (fun v' s' => v' = v ∧ s' = s))
  keep : c.al.contains i = false → c.ap.contains i = false → c.wr.contains i = false → σ' = σ
  late : c.lt.isEmpty = false → c.al.contains i = false → c.fin.contains i = false → c.wr.contains i = true → ∃ q, PutAt q σ σ' ∧ (c.lt.contains i = true → q = c.lo)
  rob : c.lt.isEmpty = false → c.al.contains i = false → c.ap.contains i = false → c.fin.contains i = false → c.wr.contains i = false → c.tq.contains i = true → guardP ops ρ o (fun c => c = true) → ∀ x, OpSem P mu o ρ (σ.put c.lo x) (fun v' s' => v' = v ∧ s' = σ.put c.lo x)
theorem guardP_ex {ops : Array Oper} {ρ : Env} {o : Oper} {k : Bool → Prop} (h : guardP ops ρ o k) : ∃ b, guardP ops ρ o (fun c => c = b) ∧ k b := by
  unfold guardP at h ⊢
  cases hg : o.guard with
  | none => rw [hg] at h; exact ⟨true, rfl, h⟩
  | some jw =>
    obtain ⟨j, want⟩ := jw
    rw [hg] at h
    simp only at h ⊢
    cases hd : (ops[j]?).bind (·.dst) with
    | none => rw [hd] at h; exact ⟨false, rfl, h⟩
    | some s =>
      rw [hd] at h
      simp only at h ⊢
      split at h
      · exact ⟨_, rfl, h⟩
      · exact ⟨_, rfl, h⟩
      · exact h.elim
theorem allocN_ex {P : Program} {o : Oper} {nu : Nat} {k : AV → Ob → Prop} (h : allocN P o nu k) : ∃ z, allocN P o nu (fun v' z' => v' = .ptr nu 0 0 ∧ z' = z) ∧ k (.ptr nu 0 0) z := by
  unfold allocN at h ⊢
  split at h
  · obtain ⟨h1, h2⟩ := h
    split at h2
    · rename_i z hz
      exact ⟨_, ⟨h1, h2.1, rfl, rfl⟩, h2.2⟩
    · exact h2.elim
  · exact h.elim
theorem appendN_ex {P : Program} {T : Ty} {mu : Bool} {σ : Store} {x y : AV} {nu : Nat} {k : KK} (h : appendN P T mu σ x y nu k) : ∃ v σ', appendN P T mu σ x y nu (fun v' s' => v' = v ∧ s' = σ') ∧ k v σ' := by
  unfold appendN at h ⊢
  obtain ⟨h1, h2, h3, h4, h⟩ := h
  split at h
  · obtain ⟨h5, h⟩ := h
    split at h
    · obtain ⟨h6, h7, h8, h9, h⟩ := h
      split at h
      · rename_i rows hr
        obtain ⟨h10, h11, h⟩ := h
        split at h
        · rename_i q; exact ⟨_, _, ⟨h1, h2, h3, h4, h5, h6, h7, h8, h9, h10, h11, by rw [if_pos q]; exact ⟨rfl, rfl⟩⟩, h⟩
        · rename_i q; exact ⟨_, _, ⟨h1, h2, h3, h4, h5, h6, h7, h8, h9, h10, h11, by rw [if_neg q]; exact ⟨rfl, rfl⟩⟩, h⟩
      · exact h.elim
    · obtain ⟨h6, h7, h8, h⟩ := h
      split at h
      · rename_i q; exact ⟨_, _, ⟨h1, h2, h3, h4, h5, h6, h7, h8, by rw [if_pos q]; exact ⟨rfl, rfl⟩⟩, h⟩
      · rename_i q
        split at h
        · rename_i q2; exact ⟨_, _, ⟨h1, h2, h3, h4, h5, h6, h7, h8, by rw [if_neg q, if_pos q2]; exact ⟨h.1, rfl, rfl⟩⟩, h.2⟩
        · rename_i q2
          split at h
          · exact ⟨_, _, ⟨h1, h2, h3, h4, h5, h6, h7, h8, by rw [if_neg q, if_neg q2]; exact ⟨rfl, rfl⟩⟩, h⟩
          · exact ⟨_, _, ⟨h1, h2, h3, h4, h5, h6, h7, h8, by rw [if_neg q, if_neg q2]; exact ⟨rfl, rfl⟩⟩, h⟩
          · exact ⟨_, _, ⟨h1, h2, h3, h4, h5, h6, h7, h8, by rw [if_neg q, if_neg q2]; exact ⟨h.1, rfl, rfl⟩⟩, h.2⟩
          · exact h.elim
    · exact h.elim
  · exact h.elim
theorem apN_ex {P : Program} {mu : List Nat} {o : Oper} {ρ : Env} {σ : Store} {nu : Nat} {k : KK} (h : apN P mu o ρ σ nu k) : ∃ v σ', apN P mu o ρ σ nu (fun v' s' => v' = v ∧ s' = σ') ∧ k v σ' := by
  unfold apN at h ⊢
  split at h
  · split at h
    · obtain ⟨h1, h2⟩ := h
      obtain ⟨v, σ', h3, h4⟩ := appendN_ex h2
      exact ⟨v, σ', ⟨h1, h3⟩, h4⟩
    · exact h.elim
  · obtain ⟨h1, h2, h3, h4, h5, h6, h7, h8⟩ := h
    exact ⟨_, _, ⟨h1, h2, h3, h4, h5, h6, h7, rfl, rfl⟩, h8⟩
  · exact h.elim
theorem apN_congr {P : Program} {mu : List Nat} {o : Oper} {ρ ρ' : Env} {σ : Store} {nu : Nat} {k : KK} (h : ∀ x ∈ o.op.operands, ev ρ x = ev ρ' x) (hk : apN P mu o ρ σ nu k) : apN P mu o ρ' σ nu k := by
  obtain ⟨dst, op, type, pos, after, guard⟩ := o
  unfold apN at hk ⊢
  simp only at hk h ⊢
  split at hk
  · rename_i c
    obtain ⟨callee, args, argTypes⟩ := c
    simp only [Op.operands, Call.operands] at h
    simp only at hk ⊢
    split at hk
    · rename_i x y t u hargs htys
      have hx : ∀ z ∈ args.toList, ev ρ z = ev ρ' z := fun z hz => h z (by simpa using hz)
      rw [hargs] at hx
      rw [← hx x (by simp), ← hx y (by simp)]; exact hk
    · exact hk.elim
  · rename_i t m ps
    simp only [Op.operands] at h
    have e : (ps.toList.map fun p => (p.1, ev ρ' p.2)) = (ps.toList.map fun p => (p.1, ev ρ p.2)) := List.map_congr_left fun p hp => by rw [h p.2 (by simp; exact ⟨p.1, by simpa using hp⟩)]
    rw [e]; exact hk
  · exact hk.elim
theorem guardP_of {ops : Array Oper} {ρ : Env} {o : Oper} {k : Bool → Prop} {b : Bool} (h : guardP ops ρ o (fun c => c = b)) (hk : k b) : guardP ops ρ o k := by
  unfold guardP at h ⊢
  cases hg : o.guard with
  | none => rw [hg] at h; simp only at h ⊢; subst h; exact hk
  | some jw =>
    obtain ⟨j, want⟩ := jw
    rw [hg] at h
    simp only at h ⊢
    cases hd : (ops[j]?).bind (·.dst) with
    | none => rw [hd] at h; simp only at h ⊢; subst h; exact hk
    | some s =>
      rw [hd] at h
      simp only at h ⊢
      split at h
      · subst h; exact hk
      · subst h; exact hk
      · exact h.elim
theorem appendN_of {P : Program} {T : Ty} {mu : Bool} {σ : Store} {x y : AV} {nu : Nat} {k : KK} {v : AV} {σ' : Store} (h : appendN P T mu σ x y nu (fun v' s' => v' = v ∧ s' = σ')) (hk : k v σ') : appendN P T mu σ x y nu k := by
  unfold appendN at h ⊢
  obtain ⟨h1, h2, h3, h4, h⟩ := h
  refine ⟨h1, h2, h3, h4, ?_⟩
  split at h
  · obtain ⟨h5, h⟩ := h
    refine ⟨h5, ?_⟩
    split at h
    · obtain ⟨h6, h7, h8, h9, h⟩ := h
      refine ⟨h6, h7, h8, h9, ?_⟩
      split at h
      · obtain ⟨h10, h11, h⟩ := h
        refine ⟨h10, h11, ?_⟩
        split at h
        · rename_i q; rw [if_pos q, h.1, h.2]; exact hk
        · rename_i q; rw [if_neg q, h.1, h.2]; exact hk
      · exact h.elim
    · obtain ⟨h6, h7, h8, h⟩ := h
      refine ⟨h6, h7, h8, ?_⟩
      split at h
      · rename_i q; rw [if_pos q, h.1, h.2]; exact hk
      · rename_i q
        rw [if_neg q]
        split at h
        · rename_i q2; rw [if_pos q2]; exact ⟨h.1, by rw [h.2.1, h.2.2]; exact hk⟩
        · rename_i q2
          rw [if_neg q2]
          split at h
          · rw [h.1, h.2]; exact hk
          · rw [h.1, h.2]; exact hk
          · exact ⟨h.1, by rw [h.2.1, h.2.2]; exact hk⟩
          · exact h
    · exact h.elim
  · exact h.elim
theorem apN_of {P : Program} {mu : List Nat} {o : Oper} {ρ : Env} {σ : Store} {nu : Nat} {k : KK} {v : AV} {σ' : Store} (h : apN P mu o ρ σ nu (fun v' s' => v' = v ∧ s' = σ')) (hk : k v σ') : apN P mu o ρ σ nu k := by
  unfold apN at h ⊢
  split at h
  · split at h
    · exact ⟨h.1, appendN_of h.2 hk⟩
    · exact h.elim
  · obtain ⟨h1, h2, h3, h4, h5, h6, h7, h8, h9⟩ := h
    exact ⟨h1, h2, h3, h4, h5, h6, h7, by rw [h8, h9]; exact hk⟩
  · exact h.elim
theorem drun_append {P : Program} {n : Nat} {mu : List Nat} {c : Cl} {nu : Nat → Nat} {ops : Array Oper} {K : Env → Store → Prop} {m : List Oper} : ∀ (l : List Oper) (i : Nat) (ρ : Env) (σ : Store), (∀ j, j < l.length → c.fin.contains (i + j) = false) → drun P n mu c nu ops (l ++ m) i ρ σ K →
    drun P n mu c nu ops l i ρ σ (fun ρ' σ' => drun P n mu c nu ops m (i + l.length) ρ' σ' K)
  | [], i, ρ, σ, _, h => h
  | o :: r, i, ρ, σ, hf, h => by
    obtain ⟨hd, h⟩ := h
    have ih := fun ρ' σ' (h : drun P n mu c nu ops (r ++ m) (i + 1) ρ' σ' K) => drun_append r (i + 1) ρ' σ' (fun j hj => by rw [show i + 1 + j = i + (j + 1) by omega]; exact hf (j + 1) (by simp; omega)) h
    have hfi := hf 0 (by simp)
    rw [Nat.add_zero] at hfi
    have e : i + 1 + r.length = i + (o :: r).length := by simp; omega
    rw [e] at ih
    refine ⟨hd, ?_⟩
    split at h
    · rename_i q
      rw [if_pos q]
      unfold allocN at h ⊢
      split at h
      · refine ⟨h.1, ?_⟩
        have h := h.2
        split at h
        · exact ⟨h.1, ih _ _ h.2⟩
        · exact h.elim
      · exact h.elim
    · rename_i q
      rw [if_neg q]
      split at h
      · rename_i q2
        rw [if_pos q2]
        obtain ⟨v, σ', h1, h2⟩ := apN_ex h
        exact apN_of h1 ⟨h2.1, ih _ _ h2.2⟩
      · rename_i q2
        rw [if_neg q2]
        split at h
        · rename_i q3; rw [hfi] at q3; cases q3
        · rename_i q3
          rw [if_neg q3]
          obtain ⟨b, hb, h⟩ := guardP_ex h
          refine guardP_of hb ?_
          cases b with
          | true =>
            rw [if_pos rfl] at h
            rw [if_pos rfl]
            split at h
            · rename_i q4; rw [if_pos q4]; obtain ⟨v, σ', h1, h0, h2⟩ := h; exact ⟨v, σ', h1, h0, ih _ _ h2⟩
            · rename_i q4
              rw [if_neg q4]
              split at h
              · rename_i q5; rw [if_pos q5]; obtain ⟨v, h1, h0, h2⟩ := h; exact ⟨v, h1, h0, ih _ _ h2⟩
              · rename_i q5; rw [if_neg q5]; obtain ⟨v, h1, h2⟩ := h; exact ⟨v, h1, ih _ _ h2⟩
          | false =>
            rw [if_neg (by simp)] at h
            rw [if_neg (by simp)]
            exact ih _ _ h
theorem drun_trace {P : Program} {n : Nat} {mu : List Nat} {c : Cl} {nu : Nat → Nat} {ops : Array Oper} {K : Env → Store → Prop} : ∀ (l : List Oper) (i : Nat) (ρ : Env) (σ : Store), (∀ j, j < l.length → c.fin.contains (i + j) = false) → drun P n mu c nu ops l i ρ σ K →
    ∃ (ρs : Nat → Env) (sts : Nat → Store) (vals : Nat → AV) (zs : Nat → Ob), ρs 0 = ρ ∧ sts 0 = σ ∧ (∀ j o, l[j]? = some o → TStep P n mu c nu ops (i + j) o (ρs j) (ρs (j + 1)) (sts j) (sts (j + 1)) (vals j) (zs j)) ∧ K (ρs l.length) (sts l.length)
  | [], i, ρ, σ, _, h => ⟨fun _ => ρ, fun _ => σ, fun _ => .any, fun _ => .map [], rfl, rfl, fun j o ho => by simp at ho, h⟩
  | o :: r, i, ρ, σ, hfn, h => by
    obtain ⟨hd, h⟩ := h
    have hfi := hfn 0 (by simp)
    rw [Nat.add_zero] at hfi
    obtain ⟨v, z, σ', hst, hr⟩ : ∃ v z σ', TStep P n mu c nu ops i o ρ (ρ.putO o.dst v) σ σ' v z ∧ drun P n mu c nu ops r (i + 1) (ρ.putO o.dst v) σ' K := by
      have toLate : ∀ {σ' : Store}, wrOk c.lt c.lo i σ σ' → c.lt.isEmpty = false → ∃ q, PutAt q σ σ' ∧ (c.lt.contains i = true → q = c.lo) := fun {σ'} h0 hl => by
        unfold wrOk at h0
        split at h0
        · rename_i e; rw [e] at hl; cases hl
        · split at h0
          · exact ⟨_, h0, fun _ => rfl⟩
          · rename_i hh
            obtain ⟨q, hq⟩ := h0
            exact ⟨q, hq, fun e => absurd e hh⟩
      have ltE : ∀ {A : Prop}, c.lt.isEmpty = false → (c.lt.isEmpty = true) → A := fun h1 h2 => by rw [h1] at h2; cases h2
      cases ha : c.al.contains i with
      | true =>
        rw [if_pos ha] at h
        obtain ⟨z, h1, h2⟩ := allocN_ex h
        exact ⟨_, z, _, ⟨rfl, hd, fun _ => ⟨h1, rfl, rfl⟩, (fun _ e => by rw [ha] at e; cases e), (fun e => by rw [ha] at e; cases e), (fun e => by rw [ha] at e; cases e), (fun _ e => by rw [ha] at e; cases e), (fun _ e => by rw [ha] at e; cases e)⟩, h2⟩
      | false =>
        rw [if_neg (by rw [ha]; simp)] at h
        cases hap : c.ap.contains i with
        | true =>
          rw [if_pos hap] at h
          obtain ⟨v, σ', h1, h0, h2⟩ := apN_ex h
          exact ⟨v, .map [], σ', ⟨rfl, hd, (fun e => by rw [ha] at e; cases e), fun _ _ => h1, (fun _ e => by rw [hap] at e; cases e), (fun _ e => by rw [hap] at e; cases e), (fun hl _ _ _ => toLate h0 hl), (fun _ _ e => by rw [hap] at e; cases e)⟩, h2⟩
        | false =>
        rw [if_neg (by rw [hap]; simp), if_neg (by rw [hfi]; simp)] at h
        have nap : c.ap.contains i = true → c.al.contains i = false → ∀ (v : AV) (σ' : Store), apN P mu o ρ σ (nu i) (fun v' s' => v' = v ∧ s' = σ') := fun e => by rw [hap] at e; cases e
        obtain ⟨b, hb, h⟩ := guardP_ex h
        cases b with
        | true =>
          rw [if_pos rfl] at h
          split at h
          · rename_i hw
            obtain ⟨v, σ', h1, h0, h2⟩ := h
            have hlate := toLate h0
            exact ⟨v, .map [], σ', ⟨rfl, hd, (fun e => by rw [ha] at e; cases e), (fun e e2 => nap e e2 _ _), fun _ _ _ => ⟨true, hb, fun _ => h1, nofun, (fun _ e => by rw [hw] at e; cases e)⟩, (fun _ _ e => by rw [hw] at e; cases e), fun hl _ _ _ => hlate hl, (fun _ _ _ _ e => by rw [hw] at e; cases e)⟩, h2⟩
          · rename_i hw
            have hw0 : c.wr.contains i = false := by simpa using hw
            split at h
            · rename_i ht
              obtain ⟨v, h1, h0, h2⟩ := h
              exact ⟨v, .map [], σ, ⟨rfl, hd, (fun e => by rw [ha] at e; cases e), (fun e e2 => nap e e2 _ _), fun _ _ _ => ⟨true, hb, fun _ => h1, nofun, (fun _ _ e => by rw [ht] at e; cases e)⟩, fun _ _ _ => rfl, fun _ _ _ _ => ⟨c.lo, .inl rfl, fun _ => rfl⟩, fun hl _ _ _ _ _ _ => by
                unfold tqOk at h0
                split at h0
                · rename_i e; rw [e] at hl; cases hl
                · exact h0⟩, h2⟩
            · rename_i ht
              obtain ⟨v, h1, h2⟩ := h
              exact ⟨v, .map [], σ, ⟨rfl, hd, (fun e => by rw [ha] at e; cases e), (fun e e2 => nap e e2 _ _), fun _ _ _ => ⟨true, hb, fun _ => h1 σ, nofun, fun _ _ _ => h1⟩, fun _ _ _ => rfl, fun _ _ _ _ => ⟨c.lo, .inl rfl, fun _ => rfl⟩, (fun _ _ _ _ _ e => absurd e ht)⟩, h2⟩
        | false =>
          rw [if_neg (by simp)] at h
          exact ⟨.tup [], .map [], σ, ⟨rfl, hd, (fun e => by rw [ha] at e; cases e), (fun e e2 => nap e e2 _ _), fun _ _ _ => ⟨false, hb, nofun, fun _ => ⟨rfl, rfl⟩, nofun⟩, fun _ _ _ => rfl, fun _ _ _ _ => ⟨c.lo, .inl rfl, fun _ => rfl⟩, fun _ _ _ _ _ _ hg => by
            exfalso
            unfold guardP at hb hg
            cases hgd : o.guard with
            | none => rw [hgd] at hb; cases hb
            | some jw =>
              obtain ⟨j, want⟩ := jw
              rw [hgd] at hb hg
              simp only at hb hg
              cases hdd : (ops[j]?).bind (·.dst) with
              | none => rw [hdd] at hg; cases hg
              | some s =>
                rw [hdd] at hb hg
                simp only at hb hg
                split at hb
                · rename_i e; rw [e] at hg; simp only at hg; rw [hg] at hb; cases hb
                · rename_i e; rw [e] at hg; simp only at hg; cases hg
                · exact hb.elim⟩, h⟩
    obtain ⟨ρs, sts, vals, zs, e1, e2, h1, h2⟩ := drun_trace r (i + 1) _ σ' (fun j hj => by rw [show i + 1 + j = i + (j + 1) by omega]; exact hfn (j + 1) (by simp; omega)) hr
    refine ⟨fun | 0 => ρ | j + 1 => ρs j, fun | 0 => σ | j + 1 => sts j, fun | 0 => v | j + 1 => vals j, fun | 0 => z | j + 1 => zs j, rfl, rfl, fun j o' ho => ?_, h2⟩
    cases j with
    | zero =>
      simp at ho; subst ho
      simp only [e1, e2, Nat.add_zero]
      exact hst
    | succ j =>
      have := h1 j o' (by simpa using ho)
      rw [show i + 1 + j = i + (j + 1) by omega] at this
      exact this
def envAt (ops : Array Oper) (vals : Nat → AV) (ρ : Env) (L : Array Bool) : Nat → Nat → AV
  | 0, s => ρ.get s
  | m + 1, s => if L.getD m false = true ∧ (ops[m]?).bind (·.dst) = some s then vals m else envAt ops vals ρ L m s
def stAt (c : Cl) (nu : Nat → Nat) (zs : Nat → Ob) (sts : Nat → Store) (L : Array Bool) : Nat → Store
  | 0 => sts 0
  | m + 1 => if L.getD m false = true ∧ c.wr.contains m = true then sts (m + 1) else if L.getD m false = true ∧ c.al.contains m = true then (stAt c nu zs sts L m).put (nu m) (zs m) else stAt c nu zs sts L m
theorem ready_iff {ops : Array Oper} {L : Array Bool} (hL : L.size = ops.size) {i : Nat} (h : i ∈ Region.ready .any ops L) : i < ops.size ∧ L.getD i false = false ∧ ∀ e ∈ edgesOf ops i, L.getD e false = true := by
  unfold Region.ready at h
  simp only [List.mem_filter, List.mem_range, Bool.and_eq_true, Bool.not_eq_true'] at h
  obtain ⟨h1, h2, h3⟩ := h
  refine ⟨h1, ?_, fun e he => ?_⟩
  · simp [Array.getD, hL, h1] at h2 ⊢
    exact h2
  · unfold edgesOf at he
    have ho : ops[i]? = some ops[i] := by simp [h1]
    rw [ho] at he h3
    simp only [Option.map_some, Option.getD_some, List.mem_map, List.mem_filter] at he h3
    obtain ⟨ed, ⟨hm, hb⟩, rfl⟩ := he
    have := Array.all_eq_true'.1 h3 ed (by simpa using hm)
    simpa [hb] using this
def Down (ops : Array Oper) (L : Array Bool) : Prop := ∀ i, L.getD i false = true → ∀ e ∈ edgesOf ops i, L.getD e false = true
theorem down_anc {ops : Array Oper} {A : List (List Nat)} (hA : ancOk ops A = true) {L : Array Bool} (hL : L.size = ops.size) (hd : Down ops L) : ∀ (i j : Nat), L.getD i false = true → j ∈ A.getD i [] → L.getD j false = true := by
  intro i
  induction i using Nat.strongRecOn with
  | _ i ih =>
    intro j hi hj
    have hlt : i < ops.size := by
      rcases Nat.lt_or_ge i ops.size with h | h
      · exact h
      · simp [Array.getD, hL, show ¬ i < ops.size by omega] at hi
    have := List.all_eq_true.1 hA i (List.mem_range.2 hlt)
    simp only [Bool.and_eq_true] at this
    obtain ⟨h1, h2⟩ := this
    have h3 := List.all_eq_true.1 h2 j hj
    obtain ⟨e, he, h4⟩ := List.any_eq_true.1 h3
    have hle := hd i hi e he
    have helt : e < i := by simpa using List.all_eq_true.1 h1 e he
    simp only [Bool.or_eq_true, decide_eq_true_eq, List.contains_iff_mem] at h4
    rcases h4 with rfl | h4
    · exact hle
    · exact ih e helt j hle h4
theorem ready_anc {ops : Array Oper} {A : List (List Nat)} (hA : ancOk ops A = true) {L : Array Bool} (hL : L.size = ops.size) (hd : Down ops L) {i : Nat} (hi : i < ops.size) (hr : ∀ e ∈ edgesOf ops i, L.getD e false = true) {j : Nat} (hj : j ∈ A.getD i []) : L.getD j false = true := by
  have := List.all_eq_true.1 hA i (List.mem_range.2 hi)
  simp only [Bool.and_eq_true] at this
  have h3 := List.all_eq_true.1 this.2 j hj
  obtain ⟨e, he, h4⟩ := List.any_eq_true.1 h3
  simp only [Bool.or_eq_true, decide_eq_true_eq, List.contains_iff_mem] at h4
  rcases h4 with rfl | h4
  · exact hr j he
  · exact down_anc hA hL hd e j (hr e he) h4
theorem pair_spec {c : Cl} {ops : Array Oper} {A : List (List Nat)} (h : pairOk c ops A = true) {i j : Nat} (hij : i < j) {a b : Oper} (ha : ops[i]? = some a) (hb : ops[j]? = some b) :
    i ∈ A.getD j [] ∨ (a.apart ops b = true ∧ c.clash i j = false) := by
  have hj : j < ops.size := (Array.getElem?_eq_some_iff.1 hb).1
  have h1 := List.all_eq_true.1 h j (List.mem_range.2 hj)
  have h2 := List.all_eq_true.1 h1 i (List.mem_range.2 hij)
  rw [ha, hb] at h2
  rcases Bool.or_eq_true_iff.1 h2 with h2 | h2
  · exact .inl (List.contains_iff_mem.1 h2)
  · have := Bool.and_eq_true_iff.1 h2
    exact .inr ⟨this.1, by simpa using this.2⟩
theorem getD_set {L : Array Bool} {i j : Nat} (hi : i < L.size) : (L.setIfInBounds i true).getD j false = if j = i then true else L.getD j false := by
  rw [Array.getD_eq_getD_getElem?, Array.getElem?_setIfInBounds, Array.getD_eq_getD_getElem?]
  by_cases h : i = j
  · subst h; simp [hi]
  · rw [if_neg h, if_neg (fun e => h e.symm)]
theorem put_comm {s : Store} {a b : Nat} (h : a ≠ b) (x y : Ob) : (s.put a x).put b y = (s.put b y).put a x := by
  funext p
  simp only [Store.put]
  by_cases h1 : p = a
  · have h2 : ¬ p = b := fun e => h (h1.symm.trans e)
    simp only [h1, h, if_true, if_false]
  · by_cases h2 : p = b
    · simp only [h2, if_true, if_neg (fun e : b = a => h e.symm)]
    · simp only [h1, h2, if_false]
section
variable {P : Program} {n : Nat} {mu : List Nat} {c : Cl} {nu : Nat → Nat} {ops : Array Oper} {ρs : Nat → Env} {sts : Nat → Store} {vals : Nat → AV} {zs : Nat → Ob}
theorem text_env (ht : ∀ j o, ops[j]? = some o → TStep P n mu c nu ops j o (ρs j) (ρs (j + 1)) (sts j) (sts (j + 1)) (vals j) (zs j)) (m s : Nat) (hm : m < ops.size) :
    (ρs (m + 1)).get s = if (ops[m]?).bind (·.dst) = some s then vals m else (ρs m).get s := by
  have ho : ops[m]? = some ops[m] := by simp [hm]
  have := (ht m _ ho).env
  rw [this, ho, Option.bind_some]
  cases hd : ops[m].dst with
  | none => simp [Env.putO]
  | some d =>
    simp only [Env.putO, Env.get, Option.some.injEq]
    by_cases h : s = d
    · subst h; simp
    · rw [if_neg h, if_neg (fun e => h e.symm)]
variable (hapw : ∀ m, c.wr.contains m = false → c.ap.contains m = false) (hA : ancOk ops (mkAnc ops) = true) (hp : pairOk c ops (mkAnc ops) = true)
  (ht : ∀ j o, ops[j]? = some o → TStep P n mu c nu ops j o (ρs j) (ρs (j + 1)) (sts j) (sts (j + 1)) (vals j) (zs j))
include hapw hA hp ht
theorem read_same {L : Array Bool} (hL : L.size = ops.size) (hd : Down ops L) {i : Nat} {o : Oper} (ho : ops[i]? = some o) (hni : L.getD i false = false) (hr : ∀ e ∈ edgesOf ops i, L.getD e false = true) {s : Nat} (hs : s ∈ o.looksAt ops) :
    ∀ m, m ≤ ops.size → envAt ops vals (ρs 0) L m s = if m ≤ i then (ρs m).get s else (ρs i).get s
  | 0, _ => by simp [envAt]
  | m + 1, hm => by
    have ih := read_same hL hd ho hni hr hs m (by omega)
    have hm' : m < ops.size := by omega
    have hom : ops[m]? = some ops[m] := by simp [hm']
    simp only [envAt, ih]
    rcases Nat.lt_trichotomy m i with h | h | h
    · rw [if_pos (by omega : m ≤ i), if_pos (by omega : m + 1 ≤ i), text_env ht m s hm']
      by_cases hw : (ops[m]?).bind (·.dst) = some s
      · have hlm : L.getD m false = true := by
          rcases pair_spec hp h hom ho with h1 | ⟨h1, _⟩
          · exact ready_anc hA hL hd (Array.getElem?_eq_some_iff.1 ho).1 hr h1
          · have hdm : ops[m].dst = some s := by rw [hom] at hw; simpa using hw
            exact absurd hs ((Oper.apart_spec h1).1 s hdm)
        rw [if_pos ⟨hlm, hw⟩, if_pos hw]
      · rw [if_neg (fun h => hw h.2), if_neg hw]
    · subst h
      rw [if_neg (fun h => by rw [hni] at h; exact absurd h.1 (by simp)), if_pos (Nat.le_refl _), if_neg (by omega)]
    · rw [if_neg (by omega : ¬ m ≤ i), if_neg (by omega : ¬ m + 1 ≤ i)]
      by_cases hw : (ops[m]?).bind (·.dst) = some s
      · have hlm : L.getD m false = false := by
          cases hlm : L.getD m false with
          | false => rfl
          | true =>
            exfalso
            rcases pair_spec hp h ho hom with h1 | ⟨h1, _⟩
            · have := down_anc hA hL hd m i hlm h1
              rw [hni] at this; cases this
            · have hdm : ops[m].dst = some s := by rw [hom] at hw; simpa using hw
              exact (Oper.apart_spec h1).2.2 s hdm hs
        rw [if_neg (fun h => by rw [hlm] at h; exact absurd h.1 (by simp))]
      · rw [if_neg (fun h => hw h.2)]
theorem store_same {L : Array Bool} (hL : L.size = ops.size) (hd : Down ops L) {i : Nat} {o : Oper} (ho : ops[i]? = some o) (hni : L.getD i false = false) (hr : ∀ e ∈ edgesOf ops i, L.getD e false = true) (hlk : c.wr.contains i = true ∨ (c.tq.contains i = true ∧ c.lt.isEmpty = true)) :
    ∀ m, m ≤ ops.size → stAt c nu zs sts L m = if m ≤ i then sts m else sts i
  | 0, _ => by simp [stAt]
  | m + 1, hm => by
    have ih := store_same hL hd ho hni hr hlk m (by omega)
    have hm' : m < ops.size := by omega
    have hom : ops[m]? = some ops[m] := by simp [hm']
    simp only [stAt, ih]
    have hst := ht m _ hom
    have hcl : (c.wr.contains m = true ∨ c.al.contains m = true) → c.clash m i = true ∧ c.clash i m = true := by
      intro hwa
      simp only [Cl.clash]
      rcases hlk with h' | ⟨h', h0⟩
      · rcases hwa with h | h <;> simp only [h, h', Bool.true_and, Bool.and_true, Bool.or_true, Bool.true_or] <;> simp
      · have hl0 : c.lt = [] := by simpa using h0
        have hn : ∀ q, c.lt.contains q = false := fun q => by rw [hl0]; rfl
        rcases hwa with h | h <;> simp only [h, h', hn, Bool.not_false, Bool.true_and, Bool.and_true, Bool.or_true, Bool.true_or] <;> simp
    rcases Nat.lt_trichotomy m i with h | h | h
    · rw [if_pos (by omega : m ≤ i), if_pos (by omega : m + 1 ≤ i)]
      have hlm : (c.wr.contains m = true ∨ c.al.contains m = true) → L.getD m false = true := fun hwa => by
        rcases pair_spec hp h hom ho with h1 | ⟨_, h1⟩
        · exact ready_anc hA hL hd (Array.getElem?_eq_some_iff.1 ho).1 hr h1
        · rw [(hcl hwa).1] at h1; cases h1
      cases hw : c.wr.contains m with
      | true => rw [if_pos ⟨hlm (.inl hw), rfl⟩]
      | false =>
        rw [if_neg (fun h => by simp at h)]
        cases ha : c.al.contains m with
        | true => rw [if_pos ⟨hlm (.inr ha), rfl⟩, (hst.al ha).2.1]
        | false => rw [if_neg (fun h => by simp at h), hst.keep ha (hapw m hw) hw]
    · subst h
      rw [if_neg (fun h => by rw [hni] at h; exact absurd h.1 (by simp)), if_neg (fun h => by rw [hni] at h; exact absurd h.1 (by simp)), if_pos (Nat.le_refl _), if_neg (by omega)]
    · rw [if_neg (by omega : ¬ m ≤ i), if_neg (by omega : ¬ m + 1 ≤ i)]
      have hlm : (c.wr.contains m = true ∨ c.al.contains m = true) → L.getD m false = false := fun hwa => by
        cases hlm : L.getD m false with
        | false => rfl
        | true =>
          exfalso
          rcases pair_spec hp h ho hom with h1 | ⟨_, h1⟩
          · have := down_anc hA hL hd m i hlm h1
            rw [hni] at this; cases this
          · rw [(hcl hwa).2] at h1; cases h1
      cases hw : c.wr.contains m with
      | true => rw [if_neg (fun h => by rw [hlm (.inl hw)] at h; exact absurd h.1 (by simp)), if_neg (fun h => by rw [hlm (.inl hw)] at h; exact absurd h.1 (by simp))]
      | false =>
        rw [if_neg (fun h => by simp at h)]
        cases ha : c.al.contains m with
        | true => rw [if_neg (fun h => by rw [hlm (.inr ha)] at h; exact absurd h.1 (by simp))]
        | false => rw [if_neg (fun h => by simp at h)]
theorem env_set {L : Array Bool} (hL : L.size = ops.size) (hd : Down ops L) {i : Nat} {o : Oper} (ho : ops[i]? = some o) (hni : L.getD i false = false) (s : Nat) :
    ∀ m, m ≤ ops.size → envAt ops vals (ρs 0) (L.setIfInBounds i true) m s = if i < m ∧ o.dst = some s then vals i else envAt ops vals (ρs 0) L m s
  | 0, _ => by simp [envAt]
  | m + 1, hm => by
    have ih := env_set hL hd ho hni s m (by omega)
    have hm' : m < ops.size := by omega
    have hi : i < ops.size := (Array.getElem?_eq_some_iff.1 ho).1
    have hom : ops[m]? = some ops[m] := by simp [hm']
    simp only [envAt, ih, getD_set (show i < L.size by omega)]
    rcases Nat.lt_trichotomy m i with h | h | h
    · simp only [show ¬ m = i by omega, show ¬ i < m by omega, show ¬ i < m + 1 by omega, false_and, if_false]
    · subst h
      rw [if_pos rfl, ho, Option.bind_some]
      by_cases hs : o.dst = some s
      · rw [if_pos ⟨rfl, hs⟩, if_pos ⟨by omega, hs⟩]
      · rw [if_neg (fun h => hs h.2), if_neg (fun h => hs h.2), if_neg (fun h => hs h.2), if_neg (fun h => hs h.2)]
    · rw [if_neg (by omega : ¬ m = i)]
      by_cases hs : o.dst = some s
      · by_cases hw : L.getD m false = true ∧ (ops[m]?).bind (·.dst) = some s
        · exfalso
          obtain ⟨hlm, hw⟩ := hw
          have hdm : ops[m].dst = some s := by rw [hom] at hw; simpa using hw
          rcases pair_spec hp h ho hom with h1 | ⟨h1, _⟩
          · have := down_anc hA hL hd m i hlm h1
            rw [hni] at this; cases this
          · exact (Oper.apart_spec h1).2.1 s hs hdm
        · rw [if_neg hw, if_pos ⟨h, hs⟩, if_pos ⟨by omega, hs⟩]
      · simp only [hs, Bool.false_eq_true, and_false, if_false]
def stNext (c : Cl) (nu : Nat → Nat) (zs : Nat → Ob) (sts : Nat → Store) (i : Nat) (s : Store) : Store :=
  if c.wr.contains i = true then sts (i + 1) else if c.al.contains i = true then s.put (nu i) (zs i) else s
theorem st_set (hnu : ∀ i j, c.al.contains i = true → c.al.contains j = true → nu i = nu j → i = j) {L : Array Bool} (hL : L.size = ops.size) (hd : Down ops L) {i : Nat} {o : Oper} (ho : ops[i]? = some o) (hni : L.getD i false = false) :
    ∀ m, m ≤ ops.size → stAt c nu zs sts (L.setIfInBounds i true) m = if i < m then stNext c nu zs sts i (stAt c nu zs sts L m) else stAt c nu zs sts L m
  | 0, _ => by simp [stAt]
  | m + 1, hm => by
    have ih := st_set hnu hL hd ho hni m (by omega)
    have hm' : m < ops.size := by omega
    have hi : i < ops.size := (Array.getElem?_eq_some_iff.1 ho).1
    have hom : ops[m]? = some ops[m] := by simp [hm']
    simp only [stAt, ih, getD_set (show i < L.size by omega)]
    rcases Nat.lt_trichotomy m i with h | h | h
    · simp only [show ¬ m = i by omega, show ¬ i < m by omega, show ¬ i < m + 1 by omega, if_false]
    · subst h
      rw [if_pos rfl, if_pos (show m < m + 1 by omega), hni]
      simp only [Bool.false_eq_true, false_and, if_false, true_and, stNext, Nat.lt_irrefl]
    · rw [if_neg (by omega : ¬ m = i), if_pos (by omega : i < m + 1), if_pos h]
      have hnl : c.clash i m = true → L.getD m false = false := fun hcl => by
        cases hlm : L.getD m false with
        | false => rfl
        | true =>
          exfalso
          rcases pair_spec hp h ho hom with h1 | ⟨_, h1⟩
          · have := down_anc hA hL hd m i hlm h1
            rw [hni] at this; cases this
          · rw [hcl] at h1; cases h1
      cases hw : c.wr.contains i with
      | true =>
        have hcl : (c.wr.contains m = true ∨ c.al.contains m = true) → L.getD m false = false := fun hwa => hnl (by
          simp only [Cl.clash]
          rcases hwa with h | h <;> simp only [h, hw, Bool.true_and, Bool.or_true, Bool.true_or] <;> simp)
        simp only [stNext, hw, if_true]
        cases hwm : c.wr.contains m with
        | true => simp only [hcl (.inl hwm), Bool.false_eq_true, false_and, if_false]
        | false =>
          cases ham : c.al.contains m with
          | true => simp only [hcl (.inr ham), Bool.false_eq_true, false_and, if_false]
          | false => simp only [Bool.false_eq_true, and_false, if_false]
      | false =>
        cases ha : c.al.contains i with
        | true =>
          have hcl : c.wr.contains m = true → L.getD m false = false := fun hwm => hnl (by
            simp only [Cl.clash, Cl.any]
            simp only [hwm, ha, Bool.true_and, Bool.or_true, Bool.true_or])
          simp only [stNext, hw, ha, Bool.false_eq_true, if_false, if_true]
          cases hwm : c.wr.contains m with
          | true => simp only [hcl hwm, Bool.false_eq_true, false_and, if_false]
          | false =>
            simp only [Bool.false_eq_true, and_false, if_false]
            cases ham : c.al.contains m with
            | true =>
              simp only [and_true]
              split
              · exact put_comm (fun e => by have := hnu i m ha ham e; omega) _ _
              · rfl
            | false => simp only [Bool.false_eq_true, and_false, if_false]
        | false => simp only [stNext, hw, ha, Bool.false_eq_true, if_false]
end
def left (ops : Array Oper) (L : Array Bool) : Nat := ((List.range ops.size).filter fun i => !L.getD i false).length
theorem left_set {ops : Array Oper} {L : Array Bool} (hL : L.size = ops.size) {i : Nat} (hi : i < ops.size) (hni : L.getD i false = false) : left ops (L.setIfInBounds i true) < left ops L := by
  unfold left
  have : ((List.range ops.size).filter fun j => !(L.setIfInBounds i true).getD j false) = ((List.range ops.size).filter fun j => !L.getD j false).filter (fun j => !decide (j = i)) := by
    rw [List.filter_filter]
    apply List.filter_congr
    intro j _
    rw [getD_set (by omega)]
    by_cases h : j = i
    · subst h; simp
    · rw [if_neg h]; simp [h]
  rw [this, List.length_filter_lt_length_iff_exists]
  exact ⟨i, by simp only [List.mem_filter, List.mem_range, hni]; exact ⟨hi, rfl⟩, by simp⟩
theorem left_zero {ops : Array Oper} {L : Array Bool} (h : left ops L = 0) : ∀ i, i < ops.size → L.getD i false = true := by
  intro i hi
  have := List.filter_eq_nil_iff.1 (List.eq_nil_of_length_eq_zero h) i (List.mem_range.2 hi)
  simpa using this
theorem ready_mem {ops : Array Oper} {L : Array Bool} (hL : L.size = ops.size) {i : Nat} (hi : i < ops.size) (hni : L.getD i false = false) (he : ∀ e ∈ edgesOf ops i, L.getD e false = true) : i ∈ Region.ready .any ops L := by
  unfold Region.ready
  simp only [List.mem_filter, List.mem_range, Bool.and_eq_true, Bool.not_eq_true']
  have ho : ops[i]? = some ops[i] := by simp [hi]
  refine ⟨hi, ?_, ?_⟩
  · simp [Array.getD, hL, hi] at hni ⊢; exact hni
  · rw [ho]
    simp only [Option.map_some, Option.getD_some]
    rw [Array.all_eq_true']
    intro ed hed
    by_cases hb : Region.binds .any ed = true
    · have := he ed.on (by
        unfold edgesOf
        rw [ho]
        simp only [Option.map_some, Option.getD_some, List.mem_map, List.mem_filter]
        exact ⟨ed, ⟨by simpa using hed, hb⟩, rfl⟩)
      simp [this]
    · simp [hb]
theorem ready_nil {ops : Array Oper} {A : List (List Nat)} (hA : ancOk ops A = true) {L : Array Bool} (hL : L.size = ops.size) (h : Region.ready .any ops L = []) : ∀ i, i < ops.size → L.getD i false = true := by
  intro i
  induction i using Nat.strongRecOn with
  | _ i ih =>
    intro hi
    cases hni : L.getD i false with
    | true => rfl
    | false =>
      exfalso
      have h1 := List.all_eq_true.1 hA i (List.mem_range.2 hi)
      simp only [Bool.and_eq_true] at h1
      have := ready_mem hL hi hni (fun e he => by
        have helt : e < i := by simpa using List.all_eq_true.1 h1.1 e he
        exact ih e helt (by omega))
      rw [h] at this
      cases this
theorem operand_reads {ops : Array Oper} {o : Oper} {ρ ρ' : Env} (h : ∀ s ∈ o.looksAt ops, ρ.get s = ρ'.get s) : ∀ x ∈ o.op.operands, ev ρ x = ev ρ' x := by
  intro x hx
  cases x with
  | tmp t => exact h t (List.mem_append_left _ (List.mem_filterMap.2 ⟨.tmp t, by simpa using hx, rfl⟩))
  | const v => rfl
  | global v => rfl
  | func f => rfl
theorem guard_reads {ops : Array Oper} {o : Oper} {j : Nat} {want : Bool} (hg : o.guard = some (j, want)) {s : Nat} (hs : (ops[j]?).bind (·.dst) = some s) : s ∈ o.looksAt ops := by
  unfold Oper.looksAt
  rw [hg]
  simp [hs]
def envOn (ρ : Env) (l : List Nat) : Env := l.map fun s => (s, ρ.get s)
theorem envOn_get (ρ : Env) : ∀ (l : List Nat) (s : Nat), (envOn ρ l).get s = if s ∈ l then ρ.get s else .any
  | [], s => by simp [envOn, Env.get]
  | a :: l, s => by
    have ih := envOn_get ρ l s
    unfold envOn at ih ⊢
    simp only [List.map_cons, Env.get, ih, List.mem_cons]
    by_cases h : s = a
    · subst h; simp
    · simp [h]
theorem put_defers' (a : Act) (d : Option Tmp) (v : Value) : (a.put d v).defers = a.defers := by cases d <;> rfl
theorem put_size (a : Act) (d : Option Tmp) (v : Value) : (a.put d v).tmps.size = a.tmps.size := by cases d <;> simp [Act.put]
theorem put_getD {a : Act} {n : Nat} (hn : a.tmps.size = n) {d : Option Tmp} (hd : dstOk n d = true) (v : Value) (s : Nat) : (a.put d v).tmps.getD s undef = if d = some s then v else a.tmps.getD s undef := by
  cases d with
  | none => simp [Act.put]
  | some d =>
    have hd' : d < n := by simpa [dstOk] using hd
    simp only [Act.put, Option.some.injEq]
    rw [Array.getD_eq_getD_getElem?, Array.getElem?_setIfInBounds]
    by_cases h : d = s
    · subst h; simp [hn, hd']
    · rw [if_neg h, if_neg h, ← Array.getD_eq_getD_getElem?]
structure LeX (g g' : Gh) : Prop where
  w0 : g'.w0 = g.w0
  imm : ∀ b o v, g.imm b o = some v → g'.imm b o = some v
  loc : ∀ o x, g.loc o = some x → g'.loc o = some x
  tipv : ∀ o n v, g.tipv o n = some v → g'.tipv o n = some v
theorem LeX.then {a b c : Gh} (h : LeX a b) (k : b.Le c) : LeX a c :=
  ⟨k.w0.trans h.w0, fun _ _ _ x => k.imm _ _ _ (h.imm _ _ _ x), fun _ _ x => k.loc _ _ (h.loc _ _ x), fun _ _ _ x => k.tipv _ _ _ (h.tipv _ _ _ x)⟩
def Gh.withRes (g : Gh) (r : Nat → Prop) : Gh := { g with res := r }
theorem R.withRes {g : Gh} (r : Nat → Prop) {x : AV} {v : Value} (h : R g x v) : R (g.withRes r) x v := by
  induction h with
  | any v => exact .any v
  | int k n => exact .int k n
  | bool b => exact .bool b
  | str s => exact .str s
  | agg hl h ih => exact .agg hl ih
  | tup hl h ih => exact .tup hl ih
  | slnil => exact .slnil
  | sl hk hs hu hi h ih =>
    rename_i k xs a cap sz vs
    refine .sl ?_ hs hu hi ih
    cases k <;> exact hk
  | nilp => exact .nilp
  | ip hs ho hi h ih => exact .ip hs ho hi ih
  | ptr hb => exact .ptr hb
  | ms hb hc hl ha => exact .ms hb hc hl ha
  | map hb => exact .map hb
  | nilmap => exact .nilmap
  | fn hl h ih => exact .fn hl ih
  | nilfn => exact .nilfn
  | ifc h ih => exact .ifc ih
  | nilifc => exact .nilifc
theorem ObAt.withRes {g : Gh} (r : Nat → Prop) {w : World} {o b : Nat} {x : Ob} (h : ObAt g w o b x) : ObAt (g.withRes r) w o b x := by
  cases x with
  | arr e rows =>
    obtain ⟨sz, cells, h1, h2, h3, h4, h5, h6⟩ := h
    exact ⟨sz, cells, h1, h2, h3, h4, fun i c v hc hv => (h5 i c v hc hv).withRes r, h6⟩
  | tip n e sz => exact h
  | map es =>
    obtain ⟨en, ck, h1, h2, h3, h4, h5⟩ := h
    exact ⟨en, ck, h1, h2, h3, fun i kv e hk he => ⟨(h4 i kv e hk he).1.withRes r, (h4 i kv e hk he).2.withRes r⟩, h5⟩
  | mapR es en ck =>
    obtain ⟨h1, h2, h3, h4, h5⟩ := h
    exact ⟨h1, h2, h3, fun i kv e hk he => ⟨(h4 i kv e hk he).1.withRes r, (h4 i kv e hk he).2.withRes r⟩, h5⟩
  | iter m en ck sn => exact h
  | iterN => exact h
theorem Conc.withRes {g : Gh} {w : World} {s : Store} (h : Conc g w s) (r : Nat → Prop) (hf : ∃ N, ∀ o, N ≤ o → ¬ r o) (hr : ∀ o, r o → g.loc o = none ∧ (∀ m, g.tipv o m = none) ∧ s o = none) : Conc (g.withRes r) w s := by
  obtain ⟨N, hN⟩ := h.fresh
  obtain ⟨M, hM⟩ := hf
  obtain ⟨blk, h1, h2⟩ := h.obj
  refine ⟨h.below, h.imm, h.loc, ⟨max N M, fun o ho => ⟨(hN o (by omega)).1, (hN o (by omega)).2.1, (hN o (by omega)).2.2.1, hM o (by omega)⟩⟩, hr, blk, fun o x hx => ⟨(h1 o x hx).1, (h1 o x hx).2.withRes r⟩, h2⟩
theorem late_off {P : Program} {n : Nat} {mu : List Nat} {c : Cl} {nu : Nat → Nat} {ops : Array Oper} {A : List (List Nat)} {ρs : Nat → Env} {sts : Nat → Store} {vals : Nat → AV} {zs : Nat → Ob}
    (hA : ancOk ops A = true) (hp : pairOk c ops A = true)
    (ht : ∀ j o, ops[j]? = some o → TStep P n mu c nu ops j o (ρs j) (ρs (j + 1)) (sts j) (sts (j + 1)) (vals j) (zs j))
    (hl : c.lt.isEmpty = false) (hal : c.al = []) (hapw : ∀ m, c.wr.contains m = false → c.ap.contains m = false) (hfi : c.fin = []) (hlo : ∃ x, sts 0 c.lo = some x)
    {L : Array Bool} (hL : L.size = ops.size) (hd : Down ops L) {i : Nat} {o : Oper} (ho : ops[i]? = some o) (hni : L.getD i false = false) (hr : ∀ e ∈ edgesOf ops i, L.getD e false = true) (htq : c.tq.contains i = true) :
    ∃ x, (sts i).put c.lo x = stAt c nu zs sts L ops.size := by
  have hi : i < ops.size := (Array.getElem?_eq_some_iff.1 ho).1
  have put_some : ∀ {q : Nat} {s t : Store}, PutAt q s t → (∃ x, s c.lo = some x) → ∃ x, t c.lo = some x := fun {q s t} h hs => by
    rcases h with rfl | ⟨ob, rfl⟩
    · exact hs
    · simp only [Store.put]
      split
      · exact ⟨_, rfl⟩
      · exact hs
  have put_off : ∀ {s t : Store}, PutAt c.lo s t → ∀ q, q ≠ c.lo → t q = s q := fun {s t} h q hq => by
    rcases h with rfl | ⟨ob, rfl⟩
    · rfl
    · simp only [Store.put, if_neg hq]
  have step : ∀ m, m < ops.size → (c.wr.contains m = true → ∃ q, PutAt q (sts m) (sts (m + 1)) ∧ (c.lt.contains m = true → q = c.lo)) ∧ (c.wr.contains m = false → sts (m + 1) = sts m) := fun m hm => by
    have hom : ops[m]? = some ops[m] := by simp [hm]
    have hst := ht m _ hom
    have h1 : c.al.contains m = false := by rw [hal]; rfl
    have h3 : c.fin.contains m = false := by rw [hfi]; rfl
    exact ⟨hst.late hl h1 h3, fun hw => hst.keep h1 (hapw m hw) hw⟩
  have hsome : ∀ m, m ≤ ops.size → ∃ x, sts m c.lo = some x := by
    intro m
    induction m with
    | zero => intro _; exact hlo
    | succ m ih =>
      intro hm
      cases hw : c.wr.contains m with
      | true =>
        obtain ⟨q, h1, _⟩ := (step m (by omega)).1 hw
        exact put_some h1 (ih (by omega))
      | false => rw [(step m (by omega)).2 hw]; exact ih (by omega)
  have cl1 : ∀ m, c.wr.contains m = true → c.lt.contains m = false → c.clash m i = true ∧ c.clash i m = true := fun m h1 h2 => by
    simp only [Cl.clash, h1, h2, htq, Bool.not_false, Bool.true_and, Bool.and_true, Bool.or_true, Bool.true_or]
    simp
  have cl2 : ∀ m k, c.wr.contains m = true → c.wr.contains k = true → c.clash m k = true := fun m k h1 h2 => by
    simp only [Cl.clash, h1, h2, Bool.true_and, Bool.and_true, Bool.or_true, Bool.true_or]
  have before : ∀ m, m < i → c.wr.contains m = true → c.lt.contains m = false → L.getD m false = true := fun m hm h1 h2 => by
    have hom : ops[m]? = some (ops[m]'(by omega)) := by simp [show m < ops.size by omega]
    rcases pair_spec hp hm hom ho with h | ⟨_, h⟩
    · exact ready_anc hA hL hd hi hr h
    · rw [(cl1 m h1 h2).1] at h; cases h
  have behind : ∀ m, i < m → m < ops.size → c.wr.contains m = true → L.getD m false = true → c.lt.contains m = true := fun m hm hms h1 h2 => by
    have hom : ops[m]? = some ops[m] := by simp [hms]
    cases h3 : c.lt.contains m with
    | true => rfl
    | false =>
      rcases pair_spec hp hm ho hom with h | ⟨_, h⟩
      · have := down_anc hA hL hd m i h2 h
        rw [hni] at this; cases this
      · rw [(cl1 m h1 h3).2] at h; cases h
  have chain : ∀ m k, k < m → m < ops.size → c.wr.contains k = true → c.wr.contains m = true → L.getD m false = true → L.getD k false = true := fun m k hk hms h1 h2 h3 => by
    have hom : ops[m]? = some ops[m] := by simp [hms]
    have hok : ops[k]? = some (ops[k]'(by omega)) := by simp [show k < ops.size by omega]
    rcases pair_spec hp hk hok hom with h | ⟨_, h⟩
    · exact down_anc hA hL hd m k h3 h
    · rw [cl2 k m h1 h2] at h; cases h
  have reach : ∀ m, m < ops.size → c.wr.contains m = true → L.getD m false = true → ∀ k, i ≤ k → k ≤ m + 1 → ∀ q, q ≠ c.lo → sts k q = sts i q := by
    intro m hm hw hLm k hik
    induction k with
    | zero => intro _ q _; rw [show i = 0 by omega]
    | succ k ih =>
      intro hkm q hq
      by_cases hki : k + 1 = i
      · rw [hki]
      · have h1 := ih (by omega) (by omega) q hq
        rw [← h1]
        cases hwk : c.wr.contains k with
        | false => rw [(step k (by omega)).2 hwk]
        | true =>
          have hLk : L.getD k false = true := by
            by_cases e : k = m
            · rw [e]; exact hLm
            · exact chain m k (by omega) hm hwk hw hLm
          have hne : k ≠ i := fun e => by rw [e, hni] at hLk; cases hLk
          have hlt := behind k (by omega) (by omega) hwk hLk
          obtain ⟨r, h2, h3⟩ := (step k (by omega)).1 hwk
          rw [h3 hlt] at h2
          exact put_off h2 q hq
  have key : ∀ m, m ≤ ops.size → (∃ x, stAt c nu zs sts L m c.lo = some x) ∧ ∀ q, q ≠ c.lo → stAt c nu zs sts L m q = sts (if m ≤ i then m else i) q := by
    intro m
    induction m with
    | zero => intro _; exact ⟨hlo, fun q _ => by simp [stAt]⟩
    | succ m ih =>
      intro hm
      obtain ⟨ih1, ih2⟩ := ih (by omega)
      rw [stAt]
      split
      · rename_i hc
        obtain ⟨hc1, hc2⟩ := hc
        refine ⟨hsome (m + 1) hm, fun q hq => ?_⟩
        split
        · rfl
        · exact reach m (by omega) hc2 hc1 (m + 1) (by omega) (Nat.le_refl _) q hq
      · rename_i hc
        rw [if_neg (by rw [hal]; simp)]
        refine ⟨ih1, fun q hq => ?_⟩
        rw [ih2 q hq]
        by_cases hmi : m + 1 ≤ i
        · rw [if_pos hmi, if_pos (by omega)]
          cases hw : c.wr.contains m with
          | false => rw [(step m (by omega)).2 hw]
          | true =>
            cases hlt : c.lt.contains m with
            | false => exact absurd ⟨before m (by omega) hw hlt, hw⟩ hc
            | true =>
              obtain ⟨r, h2, h3⟩ := (step m (by omega)).1 hw
              rw [h3 hlt] at h2
              exact (put_off h2 q hq).symm
        · rw [if_neg hmi]
          split
          · rw [show m = i by omega]
          · rfl
  obtain ⟨⟨x, hx⟩, h2⟩ := key ops.size (Nat.le_refl _)
  refine ⟨x, ?_⟩
  funext q
  simp only [Store.put]
  split
  · rename_i e; rw [e, hx]
  · rename_i e; rw [h2 q e, if_neg (by omega)]
theorem W_region_gen {P : Program} {n : Nat} (mu : List Nat) (c : Cl) {id : Nat} {ops : Array Oper} {Q : Post} {ρ : Env} {σ : Store} (hm : P.follows .mixedOrders = true) (hok : regOkL c ops = true)
    (hlate : c.lt.isEmpty = true ∨ (c.lt.isEmpty = false ∧ c.al = [] ∧ c.fin = [] ∧ ∃ x, σ c.lo = some x))
    (h : ∀ nu : Nat → Nat, (∀ i, i ∈ c.al ++ c.ap → σ (nu i) = none) → (∀ i j, i ∈ c.al ++ c.ap → j ∈ c.al ++ c.ap → nu i = nu j → i = j) → drun P n mu c nu ops ops.toList 0 ρ σ (Hold (fun ρ' σ' => Q .normal ρ' σ') .mk)) : W P n (.region id ops true) Q ρ σ := by
  simp only [regOkL, Bool.and_eq_true] at hok
  obtain ⟨⟨⟨⟨hA, hp⟩, hal⟩, hap⟩, hfin⟩ := hok
  have hfno : ∀ i, c.fin.contains i = true → i + 1 = ops.size ∧ c.wr.contains i = true ∧ c.al.contains i = false ∧ c.ap.contains i = false ∧ (∀ j, j < i → j ∈ (mkAnc ops).getD i []) ∧ ∀ o, ops[i]? = some o → o.guard = none := by
    intro i hi
    have h1 := List.all_eq_true.1 hfin i (List.contains_iff_mem.1 hi)
    simp only [Bool.and_eq_true, decide_eq_true_eq] at h1
    obtain ⟨⟨⟨⟨⟨h2, h3⟩, h4⟩, h5⟩, h6⟩, h7⟩ := h1
    refine ⟨h2, h3, by simpa using h4, by simpa using h5, fun j hj => List.contains_iff_mem.1 (List.all_eq_true.1 h6 j (List.mem_range.2 hj)), fun o' ho' => ?_⟩
    rw [ho'] at h7
    simpa using h7
  have hapo : ∀ i, c.ap.contains i = true → i < ops.size ∧ c.wr.contains i = true ∧ c.al.contains i = false ∧ ∀ o, ops[i]? = some o → o.guard = none := by
    intro i hi
    have h1 := List.all_eq_true.1 hap i (List.contains_iff_mem.1 hi)
    simp only [Bool.and_eq_true] at h1
    obtain ⟨⟨h2, h3⟩, h4⟩ := h1
    cases ho : ops[i]? with
    | none => rw [ho] at h4; cases h4
    | some o =>
      rw [ho] at h4
      refine ⟨(Array.getElem?_eq_some_iff.1 ho).1, h2, by simpa using h3, fun o' ho' => ?_⟩
      injection ho' with ho'
      subst ho'
      simpa using h4
  have hapw : ∀ m, c.wr.contains m = false → c.ap.contains m = false := fun m hm => by
    cases h : c.ap.contains m with
    | false => rfl
    | true => have := (hapo m h).2.1; rw [hm] at this; cases this
  have halo : ∀ i, c.al.contains i = true → i < ops.size ∧ c.wr.contains i = false ∧ c.tq.contains i = false ∧ ∀ o, ops[i]? = some o → o.guard = none := by
    intro i hi
    have h1 := List.all_eq_true.1 hal i (List.contains_iff_mem.1 hi)
    simp only [Bool.and_eq_true] at h1
    obtain ⟨⟨h2, h3⟩, h4⟩ := h1
    cases ho : ops[i]? with
    | none => rw [ho] at h4; cases h4
    | some o =>
      rw [ho] at h4
      refine ⟨(Array.getElem?_eq_some_iff.1 ho).1, by simpa using h2, by simpa using h3, fun o' ho' => ?_⟩
      injection ho' with ho'
      subst ho'
      simpa using h4
  intro g a w hd he hc
  obtain ⟨N, hN⟩ := hc.fresh
  obtain ⟨nu, hnu⟩ : ∃ nu : Nat → Nat, nu = fun i => N + i := ⟨_, rfl⟩
  have hnuN : ∀ i, N ≤ nu i := fun i => by rw [hnu]; exact Nat.le_add_right _ _
  have hnui : ∀ i j, nu i = nu j → i = j := fun i j e => by rw [hnu] at e; simp only at e; omega
  have hdr := h nu (fun i _ => (hN _ (hnuN i)).2.2.1) (fun i j _ _ e => hnui i j e)
  obtain ⟨ρs, sts, vals, zs, e1, e2, ht, hK, hKf⟩ : ∃ (ρs : Nat → Env) (sts : Nat → Store) (vals : Nat → AV) (zs : Nat → Ob), ρs 0 = ρ ∧ sts 0 = σ ∧
      (∀ j o, ops[j]? = some o → TStep P n mu c nu ops j o (ρs j) (ρs (j + 1)) (sts j) (sts (j + 1)) (vals j) (zs j)) ∧ ((∀ i, c.fin.contains i = false) → Q .normal (ρs ops.size) (sts ops.size)) ∧
      (∀ i o, c.fin.contains i = true → ops[i]? = some o → OpSem P mu o (ρs i) (sts i) (fun v s' => Q .normal ((ρs i).putO o.dst v) s')) := by
    by_cases hex : ∃ i, c.fin.contains i = true
    · obtain ⟨f, hf⟩ := hex
      obtain ⟨f1, f2, f3, f4, f5, f6⟩ := hfno f hf
      have hfl : f < ops.size := by omega
      have huni : ∀ j, c.fin.contains j = true → j = f := fun j hj => by have := (hfno j hj).1; omega
      have hlt : ∀ j, j < f → c.fin.contains j = false := fun j hj => by
        cases q : c.fin.contains j with
        | false => rfl
        | true => have := huni j q; omega
      have hsplit : ops.toList = ops.toList.take f ++ [ops[f]] := by
        have h1 := List.take_append_drop f ops.toList
        rw [List.drop_eq_getElem_cons (by simpa using hfl), List.drop_eq_nil_of_le (by simp; omega)] at h1
        rw [← Array.getElem_toList hfl]
        exact h1.symm
      have htl : (ops.toList.take f).length = f := by rw [List.length_take]; simp; omega
      rw [hsplit] at hdr
      have h1 := drun_append (ops.toList.take f) 0 ρ σ (fun j hj => by rw [Nat.zero_add]; exact hlt j (by omega)) hdr
      obtain ⟨ρs, sts, vals, zs, e1, e2, ht', hK'⟩ := drun_trace _ _ _ _ (fun j hj => by rw [Nat.zero_add]; exact hlt j (by omega)) h1
      rw [htl] at hK'
      obtain ⟨hdst, hK2⟩ := hK'
      rw [Nat.zero_add, if_neg (by rw [f3]; simp), if_neg (by rw [f4]; simp), if_pos hf] at hK2
      refine ⟨fun j => if j ≤ f then ρs j else (ρs f).putO ops[f].dst .any, fun j => if j ≤ f then sts j else sts f, fun j => if j < f then vals j else .any, zs, by simp [e1], by simp [e2], fun j o ho => ?_, (fun hh => by have := hh f; rw [hf] at this; cases this), fun i o hi ho => ?_⟩
      · have hj : j < ops.size := (Array.getElem?_eq_some_iff.1 ho).1
        by_cases hjf : j < f
        · have := ht' j o (by rw [List.getElem?_take, if_pos hjf]; simpa using ho)
          rw [Nat.zero_add] at this
          simp only [if_pos (show j ≤ f by omega), if_pos (show j + 1 ≤ f by omega), if_pos hjf]
          exact this
        · have hje : j = f := by omega
          subst hje
          have hoe : o = ops[j] := by rw [Array.getElem?_eq_getElem hj] at ho; injection ho with ho; exact ho.symm
          subst hoe
          simp only [if_pos (Nat.le_refl j), if_neg (show ¬ j + 1 ≤ j by omega), if_neg (Nat.lt_irrefl j)]
          exact ⟨rfl, hdst, (fun e => absurd (f3.symm.trans e) (by decide)), (fun e => absurd (f4.symm.trans e) (by decide)), (fun _ _ e => absurd (hf.symm.trans e) (by decide)), (fun _ _ e => absurd (f2.symm.trans e) (by decide)), (fun _ _ e => absurd (hf.symm.trans e) (by decide)), (fun _ _ _ e => absurd (hf.symm.trans e) (by decide))⟩
      · have hie := huni i hi
        subst hie
        have hoe : o = ops[i] := by rw [Array.getElem?_eq_getElem hfl] at ho; injection ho with ho; exact ho.symm
        subst hoe
        simp only [if_pos (Nat.le_refl i)]
        exact hK2
    · have hnf : ∀ i, c.fin.contains i = false := fun i => by
        cases q : c.fin.contains i with
        | false => rfl
        | true => exact absurd ⟨i, q⟩ hex
      obtain ⟨ρs, sts, vals, zs, e1, e2, ht', hK⟩ := drun_trace _ _ _ _ (fun j _ => hnf _) hdr
      rw [Array.length_toList] at hK
      exact ⟨ρs, sts, vals, zs, e1, e2, fun j o ho => by
        have := ht' j o (by simpa using ho)
        rwa [Nat.zero_add] at this, fun _ => hK, fun i o hi => by rw [hnf i] at hi; cases hi⟩
  subst e1; subst e2
  refine wp_region_any hm ?_
  have inv : ∃ Inv : Array Bool → Act → World → Prop, (Inv = fun L a w => a.defers = [] ∧ a.tmps.size = n ∧ ∃ g', LeX g g' ∧ Conc g' w (stAt c nu zs sts L ops.size) ∧ (∀ s, R g' (envAt ops vals (ρs 0) L ops.size s) (a.tmps.getD s undef)) ∧
      ∀ p, g'.res p ↔ (g.res p ∨ ∃ m, (c.al.contains m = true ∨ c.ap.contains m = true) ∧ L.getD m false = false ∧ p = nu m)) := ⟨_, rfl⟩
  obtain ⟨Inv, hInv⟩ := inv
  have fin : ∀ (L : Array Bool) (a : Act) (w : World), (∀ i, c.fin.contains i = false) → L.size = ops.size → (∀ i, i < ops.size → L.getD i false = true) → Inv L a w → Lift g n Q .normal a w := by
    intro L a w hnf hL hall hi
    rw [hInv] at hi
    obtain ⟨hd, hs, g', hle, hc, hr, hres⟩ := hi
    have he : ∀ m, m ≤ ops.size → ∀ s, envAt ops vals (ρs 0) L m s = (ρs m).get s := by
      intro m
      induction m with
      | zero => intro _ s; rfl
      | succ m ih =>
        intro hm s
        rw [text_env ht m s (by omega), envAt, ih (by omega) s, hall m (by omega)]
        simp
    have hst : ∀ m, m ≤ ops.size → stAt c nu zs sts L m = sts m := by
      intro m
      induction m with
      | zero => intro _; rfl
      | succ m ih =>
        intro hm
        have hom : ops[m]? = some (ops[m]'(by omega)) := by simp [show m < ops.size by omega]
        rw [stAt, ih (by omega), hall m (by omega)]
        cases ha : c.al.contains m with
        | true =>
          rw [(halo m ha).2.1]
          simp only [Bool.false_eq_true, and_false, if_false, and_self, if_true]
          exact ((ht m _ hom).al ha).2.1.symm
        | false =>
          cases hw : c.wr.contains m with
          | true => simp
          | false =>
            rw [(ht m _ hom).keep ha (hapw m hw) hw]; simp
    rw [hst _ (Nat.le_refl _)] at hc
    refine ⟨hd, g'.withRes g.res, ρs ops.size, sts ops.size, ⟨hle.w0, hle.imm, hle.loc, hle.tipv, rfl⟩, ⟨hs, fun s => ?_⟩, hc.withRes g.res ⟨N, fun o ho => (hN o ho).2.2.2⟩ (fun o ho => hc.res o ((hres o).2 (.inl ho))), hK hnf⟩
    rw [← he _ (Nat.le_refl _)]; exact (hr s).withRes _
  have main : ∀ (fuel : Nat) (L : Array Bool) (a : Act) (w : World), left ops L ≤ fuel → L.size = ops.size → Down ops L → (∀ i, c.fin.contains i = true → L.getD i false = false) → Inv L a w → wpAny P .any ops (Lift g n Q) fuel L a w := by
    have nofin : ∀ {L : Array Bool}, (∀ i, c.fin.contains i = true → L.getD i false = false) → (∀ i, i < ops.size → L.getD i false = true) → ∀ i, c.fin.contains i = false := fun hnf hall i => by
      cases q : c.fin.contains i with
      | false => rfl
      | true => have h1 := hnf i q; rw [hall i (by have := (hfno i q).1; omega)] at h1; cases h1
    intro fuel
    induction fuel with
    | zero =>
      intro L a w hlf hL hdn hlf2 hinv
      have hall := left_zero (Nat.le_zero.1 hlf)
      refine ⟨?_, fin L a w (nofin hlf2 hall) hL hall hinv⟩
      cases hr : Region.ready .any ops L with
      | nil => rfl
      | cons i r =>
        have hi := ready_iff hL (i := i) (by rw [hr]; exact List.mem_cons_self)
        rw [hall i hi.1] at hi
        exact absurd hi.2.1 (by simp)
    | succ fuel ih =>
      intro L a w hlf hL hdn hlf2 hinv
      refine ⟨fun hr => fin L a w (nofin hlf2 (ready_nil hA hL hr)) hL (ready_nil hA hL hr) hinv, fun i hi => ?_⟩
      obtain ⟨hlt, hni, hre⟩ := ready_iff hL hi
      obtain ⟨o, ho⟩ : ∃ o, ops[i]? = some o := ⟨ops[i], by simp [hlt]⟩
      have hst := ht i o ho
      have hinv0 := hinv
      rw [hInv] at hinv
      obtain ⟨hd, hs, g', hle, hc', hr', hres⟩ := hinv
      cases hfi : c.fin.contains i with
      | true =>
        obtain ⟨f1, f2, f3, f4, f5, f6⟩ := hfno i hfi
        have hall : ∀ j, j < i → L.getD j false = true := fun j hj => ready_anc hA hL hdn hlt hre (f5 j hj)
        have henv : ∀ m, m ≤ i → ∀ s, envAt ops vals (ρs 0) L m s = (ρs m).get s := by
          intro m
          induction m with
          | zero => intro _ s; rfl
          | succ m ihm =>
            intro hm s
            rw [text_env ht m s (by omega), envAt, ihm (by omega) s, hall m (by omega)]
            simp
        have henv2 : ∀ s, envAt ops vals (ρs 0) L ops.size s = (ρs i).get s := fun s => by
          rw [← f1, envAt, hni]
          simp only [Bool.false_eq_true, false_and, if_false]
          exact henv i (Nat.le_refl _) s
        have hRE : RE g' n (ρs i) a.tmps := ⟨hs, fun s => by rw [← henv2]; exact hr' s⟩
        have hstE := store_same hapw hA hp ht hL hdn ho hni hre (.inl f2) ops.size (Nat.le_refl _)
        rw [if_neg (by omega)] at hstE
        rw [hstE] at hc'
        have hsem := hKf i o hfi ho
        unfold wpOp
        rw [ho]
        simp only
        have hwant : Region.wanted o (yielded ops a.tmps) = true := by simp [Region.wanted, f6 o ho]
        rw [hwant, if_pos rfl]
        refine .inl ?_
        refine (OpSem_sound hsem hRE hc').wp ?_
        rintro v w' ⟨g2, x, σ', h1, h2, h3, h4⟩
        have hlift : Lift g n Q .normal (a.put o.dst v) w' := by
          refine ⟨by rw [put_defers']; exact hd, g2.withRes g.res, _, σ', ⟨h1.w0.trans hle.w0, fun b o v hx => h1.imm _ _ _ (hle.imm _ _ _ hx), fun o x hx => h1.loc _ _ (hle.loc _ _ hx), fun o n v hx => h1.tipv _ _ _ (hle.tipv _ _ _ hx), rfl⟩, ?_, ?_, h4⟩
          · have hput := (hRE.le h1).put hst.dst h3
            exact ⟨hput.size, fun s => (hput.get s).withRes _⟩
          · exact h2.withRes g.res ⟨N, fun o ho => (hN o ho).2.2.2⟩ (fun o ho => h2.res o (by rw [h1.res]; exact (hres o).2 (.inl ho)))
        have hL' : (L.setIfInBounds i true).size = ops.size := by simp [hL]
        have hall' : ∀ j, j < ops.size → (L.setIfInBounds i true).getD j false = true := fun j hj => by
          rw [getD_set (by omega)]
          split
          · rfl
          · exact hall j (by omega)
        have hrn : Region.ready .any ops (L.setIfInBounds i true) = [] := by
          cases hr : Region.ready .any ops (L.setIfInBounds i true) with
          | nil => rfl
          | cons j r =>
            have hj := ready_iff hL' (i := j) (by rw [hr]; exact List.mem_cons_self)
            rw [hall' j hj.1] at hj
            exact absurd hj.2.1 (by simp)
        cases fuel with
        | zero => exact ⟨hrn, hlift⟩
        | succ fuel => exact ⟨fun _ => hlift, fun j hj => by rw [hrn] at hj; cases hj⟩
      | false =>
      have next : ∀ (v : Value) (w' : World) (g2 : Gh), LeX g g2 → Conc g2 w' (stNext c nu zs sts i (stAt c nu zs sts L ops.size)) → R g2 (vals i) v → (∀ x u, R g' x u → R g2 x u) →
          (∀ p, g2.res p ↔ (g'.res p ∧ ¬ ((c.al.contains i = true ∨ c.ap.contains i = true) ∧ p = nu i))) → wpAny P .any ops (Lift g n Q) fuel (L.setIfInBounds i true) (a.put o.dst v) w' := by
        intro v w' g2 hle2 hc2 hv hRR hres2
        have hL' : (L.setIfInBounds i true).size = ops.size := by simp [hL]
        refine ih _ _ _ (by have := left_set hL hlt hni; omega) hL' ?_ (fun j hj => ?_) ?_
        · intro q hq e he
          rw [getD_set (by omega)] at hq ⊢
          by_cases hei : e = i
          · rw [if_pos hei]
          · rw [if_neg hei]
            by_cases hqi : q = i
            · subst hqi; exact hre e he
            · rw [if_neg hqi] at hq; exact hdn q hq e he
        · rw [getD_set (by omega), if_neg (fun e => by rw [← e, hj] at hfi; cases hfi)]
          exact hlf2 j hj
        · rw [hInv]
          refine ⟨by rw [put_defers']; exact hd, by rw [put_size]; exact hs, g2, hle2, ?_, fun s => ?_, fun p => ?_⟩
          · rw [st_set hapw hA hp ht (fun i j _ _ e => hnui i j e) hL hdn ho hni ops.size (Nat.le_refl _), if_pos hlt]; exact hc2
          · rw [env_set hapw hA hp ht hL hdn ho hni s ops.size (Nat.le_refl _), put_getD hs hst.dst]
            by_cases hds : o.dst = some s
            · rw [if_pos ⟨hlt, hds⟩, if_pos hds]; exact hv
            · rw [if_neg (fun h => hds h.2), if_neg hds]; exact hRR _ _ (hr' s)
          · rw [hres2 p, hres p]
            constructor
            · rintro ⟨h1 | ⟨m, h1, h2, rfl⟩, h3⟩
              · exact .inl h1
              · refine .inr ⟨m, h1, ?_, rfl⟩
                rw [getD_set (by omega), if_neg (fun e => h3 ⟨by rw [← e]; exact h1, by rw [e]⟩)]; exact h2
            · rintro (h1 | ⟨m, h1, h2, rfl⟩)
              · refine ⟨.inl h1, fun hh => ?_⟩
                have := (hN (nu i) (hnuN i)).2.2.2
                rw [hh.2] at h1; exact this h1
              · rw [getD_set (by omega)] at h2
                split at h2
                · cases h2
                · rename_i hmi
                  exact ⟨.inr ⟨m, h1, h2, rfl⟩, fun hh => hmi (hnui _ _ hh.2)⟩
      unfold wpOp
      rw [ho]
      simp only
      cases ha : c.al.contains i with
      | true =>
        obtain ⟨_, hnw, _, hgn⟩ := halo i ha
        obtain ⟨h1, h2, h3⟩ := hst.al ha
        have hwant : Region.wanted o (yielded ops a.tmps) = true := by simp [Region.wanted, hgn o ho]
        rw [hwant, if_pos rfl]
        refine .inl ?_
        have hri : g'.res (nu i) := (hres _).2 (.inr ⟨i, .inl ha, hni, rfl⟩)
        have hf := hc'.res _ hri
        unfold allocN at h1
        split at h1
        · rename_i t hop
          obtain ⟨hok, h1⟩ := h1
          split at h1
          · rename_i z hz
            obtain ⟨hkn, _, h1⟩ := h1
            obtain ⟨zv, hzv, hzr, _⟩ := run_zero' hok hz w
            have hrun : (execOp a.eval o).run P w = .ok (.value (.pointer (some ⟨w.heap.size, 0, none⟩))) (w.alloc (.cells zv.cells t)) := by
              have : o = ⟨o.dst, .alloc t, o.type, o.pos, o.after, o.guard⟩ := by cases o; simp only at hop; rw [hop]
              rw [this]
              simp [execOp, Instr.alloc, hzv, newVar, newRow]
            have hcf := hc'.withRes (fun p => g'.res p ∧ p ≠ nu i) (by
              obtain ⟨M, hM⟩ := hc'.fresh
              exact ⟨M, fun o ho h => (hM o ho).2.2.2 h.1⟩) (fun o ho => hc'.res o ho.1)
            obtain ⟨c1, c2⟩ := (hzr (g'.withRes fun p => g'.res p ∧ p ≠ nu i)).cells hkn
            have hcc := hcf.addObj (w' := w.alloc (.cells zv.cells t)) (Below.alloc (Below.refl _ _) (Nat.le_refl _) _) (by simp) (nu i) hf.1 hf.2.2 hf.2.1 (fun h => h.2 rfl) (.arr t [z]) z.cells.length 1 (fun g3 hle3 hl3 him3 =>
              ⟨z.cells.length, zv.cells, ⟨1, hl3, by simp [c1]⟩, heap_alloc_new w _, fun r hr => by rw [List.mem_singleton.1 hr], by simp [c1], fun q cc u hci hui => by
                rw [cellsL_one] at hci
                exact (c2 q cc u hci hui).le hle3, him3⟩)
            have hle2 := Gh.Le_addLoc (g := g'.withRes fun p => g'.res p ∧ p ≠ nu i) (w.heap.size, z.cells.length, 1) (o := nu i) hf.1
            unfold Oper.wp
            rw [hrun]
            refine next _ _ _ ⟨hle2.w0.trans hle.w0, fun b o v hx => hle2.imm _ _ _ (hle.imm _ _ _ hx), fun o x hx => hle2.loc _ _ (hle.loc _ _ hx), fun o n v hx => hle2.tipv _ _ _ (hle.tipv _ _ _ hx)⟩ ?_ ?_ (fun x u hx => (hx.withRes _).le hle2) (fun p => ?_)
            · simp only [stNext, hnw, ha, Bool.false_eq_true, if_false, if_true]
              rw [← h1]
              exact hcc
            · rw [h3]
              have := R.ptr (g := (g'.withRes fun p => g'.res p ∧ p ≠ nu i).addLoc (nu i) (w.heap.size, z.cells.length, 1)) (o := nu i) (i := 0) (off := 0) (b := w.heap.size) (sz := z.cells.length) (n := 1) (by simp [Gh.addLoc])
              simpa using this
            · constructor
              · rintro ⟨q1, q2⟩; exact ⟨q1, fun hh => q2 hh.2⟩
              · rintro ⟨q1, q2⟩; exact ⟨q1, fun e => q2 ⟨.inl ha, e⟩⟩
          · exact h1.elim
        · exact h1.elim
      | false =>
        have hread : ∀ s ∈ o.looksAt ops, envAt ops vals (ρs 0) L ops.size s = (ρs i).get s := fun s hsm => by
          have := read_same hapw hA hp ht hL hdn ho hni hre hsm ops.size (Nat.le_refl _)
          rw [this]
          split
          · rename_i q; exact absurd q (by omega)
          · rfl
        have hRE : RE g' n (envOn (ρs i) (o.looksAt ops)) a.tmps := ⟨hs, fun s => by
          rw [envOn_get]
          split
          · rename_i hsm; rw [← hread s hsm]; exact hr' s
          · exact .any _⟩
        have hop : ∀ x ∈ o.op.operands, ev (ρs i) x = ev (envOn (ρs i) (o.looksAt ops)) x := operand_reads (ops := ops) fun s hsm => by rw [envOn_get, if_pos hsm]
        have hlook : (c.wr.contains i = true ∨ (c.tq.contains i = true ∧ c.lt.isEmpty = true)) → stAt c nu zs sts L ops.size = sts i := fun hlk => by
          have hss := store_same hapw hA hp ht hL hdn ho hni hre hlk ops.size (Nat.le_refl _)
          rw [if_neg (by omega)] at hss; exact hss
        cases hapi : c.ap.contains i with
        | true =>
          have hwi := (hapo i hapi).2.1
          have hwant : Region.wanted o (yielded ops a.tmps) = true := by simp [Region.wanted, (hapo i hapi).2.2.2 o ho]
          rw [hwant, if_pos rfl]
          refine .inl ?_
          have hri : g'.res (nu i) := (hres _).2 (.inr ⟨i, .inr hapi, hni, rfl⟩)
          have hf := hc'.res _ hri
          have hcf := hc'.withRes (fun p => g'.res p ∧ p ≠ nu i) (by
            obtain ⟨M, hM⟩ := hc'.fresh
            exact ⟨M, fun o ho h => (hM o ho).2.2.2 h.1⟩) (fun o ho => hc'.res o ho.1)
          have hsem2 : apN P mu o (envOn (ρs i) (o.looksAt ops)) (stAt c nu zs sts L ops.size) (nu i) (fun v' s' => v' = vals i ∧ s' = stNext c nu zs sts i (stAt c nu zs sts L ops.size)) := by
            refine apN_congr hop ?_
            have hlk := Or.inl (b := c.tq.contains i = true ∧ c.lt.isEmpty = true) hwi
            have := hst.apn hapi ha
            rw [← hlook hlk] at this
            simp only [stNext, hwi, if_true]
            exact this
          have hRE2 : RE (g'.withRes fun p => g'.res p ∧ p ≠ nu i) n (envOn (ρs i) (o.looksAt ops)) a.tmps := ⟨hRE.size, fun s => (hRE.get s).withRes _⟩
          refine (apN_sound hsem2 hRE2 hcf hf.2.2 hf.1 hf.2.1 (fun h => h.2 rfl)).wp ?_
          rintro v w' ⟨g2, x, σ', h1, h2, h3, h4, h5⟩
          subst h4; subst h5
          refine next v w' g2 ⟨h1.w0.trans hle.w0, fun b o v hx => h1.imm _ _ _ (hle.imm _ _ _ hx), fun o x hx => h1.loc _ _ (hle.loc _ _ hx), fun o n v hx => h1.tipv _ _ _ (hle.tipv _ _ _ hx)⟩ h2 h3 (fun x u hx => (hx.withRes _).le h1) (fun p => ?_)
          rw [h1.res]
          constructor
          · rintro ⟨q1, q2⟩; exact ⟨q1, fun hh => q2 hh.2⟩
          · rintro ⟨q1, q2⟩; exact ⟨q1, fun e => q2 ⟨.inr hapi, e⟩⟩
        | false =>
        obtain ⟨b, hgd, hrun, hskip, hfree⟩ := hst.run ha hapi hfi
        have hnext : ∀ (v : Value) (w' : World) (g2 : Gh), g'.Le g2 → Conc g2 w' (stNext c nu zs sts i (stAt c nu zs sts L ops.size)) → R g2 (vals i) v → wpAny P .any ops (Lift g n Q) fuel (L.setIfInBounds i true) (a.put o.dst v) w' := by
          intro v w' g2 h1 h2 h3
          refine next v w' g2 (hle.then h1) h2 h3 (fun x u hx => hx.le h1) (fun p => ?_)
          rw [h1.res]
          constructor
          · intro q; exact ⟨q, fun hh => by rcases hh.1 with h | h; (rw [ha] at h; cases h); (rw [hapi] at h; cases h)⟩
          · exact fun q => q.1
        have hgs := guard_sound (k := fun c => c = b) (ops := ops) (ρ := envOn (ρs i) (o.looksAt ops)) (o := o) (g := g') (n := n) (t := a.tmps) (by
          unfold guardP at hgd ⊢
          cases hg : o.guard with
          | none => rw [hg] at hgd; exact hgd
          | some jw =>
            obtain ⟨j, want⟩ := jw
            rw [hg] at hgd
            simp only at hgd ⊢
            cases hdd : (ops[j]?).bind (·.dst) with
            | none => rw [hdd] at hgd; exact hgd
            | some s =>
              rw [hdd] at hgd
              simp only at hgd ⊢
              rw [envOn_get, if_pos (guard_reads hg hdd)]
              exact hgd) (fun _ _ _ s _ => hRE.get s)
        cases b with
        | true =>
          rw [hgs, if_pos rfl]
          refine .inl ?_
          have hsem2 : OpSem P mu o (envOn (ρs i) (o.looksAt ops)) (stAt c nu zs sts L ops.size) (fun v' s' => v' = vals i ∧ s' = stNext c nu zs sts i (stAt c nu zs sts L ops.size)) := by
            refine OpSem_congr hop ?_
            cases hw : c.wr.contains i with
            | true =>
              rw [hlook (.inl hw)]
              simp only [stNext, hw, if_true]
              exact hrun rfl
            | false =>
              simp only [stNext, hw, ha, Bool.false_eq_true, if_false]
              cases htq : c.tq.contains i with
              | true =>
                rcases hlate with hl0 | ⟨hl, q1, q3, hlo⟩
                · rw [hlook (.inr ⟨htq, hl0⟩)]
                  have := hrun rfl
                  rw [hst.keep ha hapi hw] at this
                  exact this
                · obtain ⟨x, hxy⟩ := late_off (nu := nu) (zs := zs) hA hp ht hl q1 hapw q3 hlo hL hdn ho hni hre htq
                  have hrb := hst.rob hl ha hapi hfi hw htq hgd x
                  rw [hxy] at hrb
                  exact hrb
              | false => exact hfree rfl hw htq _
          refine (OpSem_sound hsem2 hRE hc').wp ?_
          rintro v w' ⟨g2, x, σ', h1, h2, h3, h4, h5⟩
          subst h4; subst h5
          exact hnext v w' g2 h1 h2 h3
        | false =>
          rw [hgs, if_neg (by simp)]
          obtain ⟨hv, hk⟩ := hskip rfl
          refine hnext undef w g' (.refl g') ?_ (by rw [hv]; exact R_undef g')
          cases hw : c.wr.contains i with
          | true =>
            have := hlook (.inl hw)
            simp only [stNext, hw, if_true]
            rw [hk, ← this]; exact hc'
          | false =>
            simp only [stNext, hw, ha, Bool.false_eq_true, if_false]
            exact hc'
  refine main ops.size _ a _ ?_ (by simp) (fun i hi => ?_) (fun i _ => by simp [Array.getD]) ?_
  · unfold left
    exact Nat.le_trans (List.length_filter_le _ _) (by simp)
  · simp [Array.getD] at hi
  · have hst0 : ∀ m, stAt c nu zs sts (Array.replicate ops.size false) m = sts 0 := by
      intro m
      induction m with
      | zero => rfl
      | succ m ih => rw [stAt, ih, if_neg (by simp [Array.getD]), if_neg (by simp [Array.getD])]
    have hen0 : ∀ m s, envAt ops vals (ρs 0) (Array.replicate ops.size false) m s = (ρs 0).get s := by
      intro m s
      induction m with
      | zero => rfl
      | succ m ih => rw [envAt, ih, if_neg]; simp [Array.getD]
    rw [hInv]
    refine ⟨hd, he.size, g.withRes (fun p => g.res p ∨ ∃ m, (c.al.contains m = true ∨ c.ap.contains m = true) ∧ p = nu m), ⟨rfl, fun _ _ _ h => h, fun _ _ h => h, fun _ _ _ h => h⟩, ?_, fun s => ?_, fun p => ?_⟩
    · rw [hst0]
      refine hc.drew.withRes _ ⟨N + ops.size, fun o ho => ?_⟩ (fun o ho => ?_)
      · rintro (h1 | ⟨m, h1, h2⟩)
        · exact (hN o (by omega)).2.2.2 h1
        · have hm : m < ops.size := by rcases h1 with h1 | h1; exact (halo m h1).1; exact (hapo m h1).1
          rw [hnu] at h2; simp only at h2; omega
      · rcases ho with h1 | ⟨m, h1, rfl⟩
        · exact hc.res o h1
        · exact ⟨(hN _ (hnuN m)).1, (hN _ (hnuN m)).2.1, (hN _ (hnuN m)).2.2.1⟩
    · rw [hen0]
      exact (he.get s).withRes _
    · constructor
      · rintro (h1 | ⟨m, h1, h2⟩)
        · exact .inl h1
        · exact .inr ⟨m, h1, by simp [Array.getD], h2⟩
      · rintro (h1 | ⟨m, h1, _, h2⟩)
        · exact .inl h1
        · exact .inr ⟨m, h1, h2⟩
theorem W_region_any {P : Program} {n : Nat} (mu : List Nat) (c : Cl) {id : Nat} {ops : Array Oper} {Q : Post} {ρ : Env} {σ : Store} (hm : P.follows .mixedOrders = true) (hok : regOk c ops = true)
    (h : ∀ nu : Nat → Nat, (∀ i, i ∈ c.al ++ c.ap → σ (nu i) = none) → (∀ i j, i ∈ c.al ++ c.ap → j ∈ c.al ++ c.ap → nu i = nu j → i = j) → drun P n mu c nu ops ops.toList 0 ρ σ (Hold (fun ρ' σ' => Q .normal ρ' σ') .mk)) : W P n (.region id ops true) Q ρ σ := by
  simp only [regOk, Bool.and_eq_true] at hok
  exact W_region_gen mu c hm hok.2 (.inl hok.1) h
theorem W_region_late {P : Program} {n : Nat} (mu : List Nat) (c : Cl) {id : Nat} {ops : Array Oper} {Q : Post} {ρ : Env} {σ : Store} (hm : P.follows .mixedOrders = true) (hok : regOkLate c ops = true) (hlo : ∃ x, σ c.lo = some x)
    (h : ∀ nu : Nat → Nat, (∀ i, i ∈ c.al ++ c.ap → σ (nu i) = none) → (∀ i j, i ∈ c.al ++ c.ap → j ∈ c.al ++ c.ap → nu i = nu j → i = j) → drun P n mu c nu ops ops.toList 0 ρ σ (Hold (fun ρ' σ' => Q .normal ρ' σ') .mk)) : W P n (.region id ops true) Q ρ σ := by
  simp only [regOkLate, Bool.and_eq_true] at hok
  obtain ⟨⟨⟨⟨⟨h1, h2⟩, h4⟩, h5⟩, h5'⟩, h6⟩ := hok
  exact W_region_gen mu c hm h6 (.inr ⟨by simpa using h1, by simpa using h2, by simpa using h4, hlo⟩) h
end Go.Kern

namespace Go.Kern
open Go.RowKit
theorem wrap64_id {x : Int} (h1 : -9223372036854775808 ≤ x) (h2 : x ≤ 9223372036854775807) : IntKind.i64.wrap x = x := IntWalk.i64_in _ ⟨h1, h2⟩
theorem W_loop_st {P : Program} {n : Nat} {Q : Post} {ρ : Env} {σ : Store} {c : Code} {α : Type} (E : α → Env) (S : α → Store) (I : α → Prop) (m : α → Nat) (a0 : α) (hI : I a0) (hE : (E a0).Sub ρ) (hS : (S a0).Sub σ)
    (hr : ∀ a, I a → W P n c (Post.then (fun ρ' σ' => ∃ a', m a' < m a ∧ I a' ∧ (E a').Sub ρ' ∧ (S a').Sub σ') Q) (E a) (S a)) : W P n (.loop c) Q ρ σ := by
  refine W_loop (fun k ρ' σ' => ∃ a, m a = k ∧ I a ∧ (E a).Sub ρ' ∧ (S a).Sub σ') (m a0) ⟨a0, rfl, hI, hE, hS⟩ ?_
  rintro k ρ' σ' ⟨a, rfl, ha, hEa, hSa⟩
  refine W_weaken hEa hSa (W_mono (hr a ha) ?_)
  intro e ρ2 σ2 hq
  cases e with
  | normal =>
    obtain ⟨a', h1, h2, h3, h4⟩ := hq
    exact ⟨m a', h1, a', rfl, h2, h3, h4⟩
  | exit id => exact hq
  | goto l => exact hq
  | ret => exact hq
  | panic ch => exact hq
  | outgrown => exact hq
theorem PCall_q {P : Program} {f : FuncId} {fn : Func} {c : Code} (rl : List ResultVar) (nt : Nat) (hf : P.funcs[f]? = some fn) (hn : (fn.name == "runtime.NumGoroutine") = false) (hb : fn.body = some c) (hr : fn.results.toList = rl) (hnt : fn.ntmps = nt)
    {args : List AV} {σ : Store} {X : AV} (hsz : decide (args.length ≤ nt) = true) (h : W P nt c (fnPostL P rl (fun r s => r = X ∧ σ.Sub s)) (envOf 0 args) σ) : PCall P f args σ (fun r s => r = X ∧ s = σ) := by
  have := PCall_of_body rl nt hf hn hb hr hnt hsz h
  refine ⟨this.1, fun g w vs hl hr hc => (this.2 g w vs hl hr hc).mono ?_⟩
  rintro e w' ⟨v, he, g', r, σ', h1, h2, h3, h4, h5⟩
  exact ⟨v, he, g', r, σ, h1, h2.sub h5, h3, h4, rfl⟩
theorem PCall_w {P : Program} {f : FuncId} {fn : Func} {c : Code} (rl : List ResultVar) (nt : Nat) (hf : P.funcs[f]? = some fn) (hn : (fn.name == "runtime.NumGoroutine") = false) (hb : fn.body = some c) (hr : fn.results.toList = rl) (hnt : fn.ntmps = nt)
    {args : List AV} {σ : Store} {K : KK} (hsz : decide (args.length ≤ nt) = true) (h : W P nt c (fnPostL P rl (fun r s => ∃ s0 : Store, s0.Sub s ∧ K r s0)) (envOf 0 args) σ) : PCall P f args σ K := by
  have := PCall_of_body rl nt hf hn hb hr hnt hsz h
  refine ⟨this.1, fun g w vs hl hr hc => (this.2 g w vs hl hr hc).mono ?_⟩
  rintro e w' ⟨v, he, g', r, σ', h1, h2, h3, s0, h4, h5⟩
  exact ⟨v, he, g', r, s0, h1, h2.sub h4, h3, h5⟩
theorem PCall_use {P : Program} {f : FuncId} {args : List AV} {σ : Store} {K0 k : KK} {t : Tag k} (h : PCall P f args σ K0) (hk : ∀ r s, K0 r s → k r s) : PCall P f args σ (Hold k t) := h.mono hk
section
variable {K : Env → Store → Prop} {Q : Post} {ρ : Env} {σ : Store} {id id' : Nat}
theorem inBlock_exit (h : Q .normal ρ σ) : Post.inBlock id Q (.exit id) ρ σ := by simp only [Post.inBlock, if_true]; exact h
theorem inBlock_ne (hne : ¬ id' = id) (h : Q (.exit id') ρ σ) : Post.inBlock id Q (.exit id') ρ σ := by simp only [Post.inBlock, if_neg hne]; exact h
end
theorem put_same (s : Store) (o : Nat) (x : Ob) : (s.put o x) o = some x := by simp [Store.put]
theorem put_put (s : Store) (o : Nat) (x y : Ob) : (s.put o x).put o y = s.put o y := by
  funext p
  simp only [Store.put]
  split <;> rfl
theorem put_ne {s : Store} {o p : Nat} (h : p ≠ o) {x : Ob} : (s.put o x) p = s p := by simp [Store.put, h]
theorem fresh_ne {s : Store} {o p : Nat} {x : Ob} (h : (s.put o x) p = none) : o ≠ p := by
  rintro rfl
  simp [Store.put] at h
theorem fresh_old {s : Store} {o p : Nat} {x : Ob} (h : (s.put o x) p = none) : s p = none := by
  rwa [put_ne (fun e => fresh_ne h e.symm)] at h
theorem Sub_put {s t : Store} (h : s.Sub t) {o : Nat} (ho : s o = none) (x : Ob) : s.Sub (t.put o x) := fun p y hp => by
  simp only [Store.put]
  split
  · rename_i e; rw [e, ho] at hp; cases hp
  · exact h p y hp
theorem Store.Sub.refl (s : Store) : s.Sub s := fun _ _ h => h
def ints (l : List Int) : List AV := l.map fun n => .int .i64 n
theorem length_ints (l : List Int) : (ints l).length = l.length := by simp [ints]
theorem getD_ints {l : List Int} {i : Nat} (h : i < l.length) : (ints l).getD i .any = .int .i64 (l.getD i 0) := by
  simp [ints, List.getD_eq_getElem?_getD, h]
theorem getD_map {α : Type} (f : α → AV) {l : List α} {i : Nat} (d : α) (h : i < l.length) : (l.map f).getD i .any = f (l.getD i d) := by
  simp [List.getD_eq_getElem?_getD, h]
theorem ite_go {c : Prop} [Decidable c] {A B : Prop} (h1 : c → A) (h2 : ¬ c → B) : ite c A B := by
  by_cases h : c
  · rw [if_pos h]; exact h1 h
  · rw [if_neg h]; exact h2 h
theorem ite_goB {b : Bool} {A B : Prop} (h1 : b = true → A) (h2 : b = false → B) : ite (b = true) A B := by
  cases b
  · exact h2 rfl
  · exact h1 rfl
theorem forall_ints {l : List Int} {p : AV → Prop} : (∀ x, x ∈ ints l → p x) = ∀ n, n ∈ l → p (.int .i64 n) := by
  simp [ints]
theorem rowsOk_ints (l : List Int) : rowsOk 1 (ints l) = true := rowsOk_map 1 _ (fun _ => rfl) l
theorem Sub_drop {s t : Store} (h : s.Sub t) {o : Nat} (ho : s o = none) : s.Sub (t.drop o) := fun p y hp => by
  simp only [Store.drop]
  split
  · rename_i e; rw [e, ho] at hp; cases hp
  · exact h p y hp
theorem take_ints (l : List Int) (i : Nat) : (ints l).take i = ints (l.take i) := by simp [ints, List.map_take]
theorem drop_ints (l : List Int) (i : Nat) : (ints l).drop i = ints (l.drop i) := by simp [ints, List.map_drop]
theorem W_mid {P : Program} {n : Nat} {Q : Post} {ρ : Env} {σ : Store} {x y : Code} (E : Env) (S : Store) (hx : W P n x (Post.then (fun ρ' σ' => E.Sub ρ' ∧ S.Sub σ') Q) ρ σ) (hy : W P n y Q E S) : W P n (.seq x y) Q ρ σ := by
  refine W_seq (W_mono hx ?_)
  intro e ρ2 σ2 hq
  cases e with
  | normal => exact W_weaken hq.1 hq.2 hy
  | exit id => exact hq
  | goto l => exact hq
  | ret => exact hq
  | panic ch => exact hq
  | outgrown => exact hq
theorem sub_eq {s t : Store} (h : s = t) : s.Sub t := by rw [h]; exact Store.Sub.refl _
theorem W_midE {P : Program} {n : Nat} {Q : Post} {ρ : Env} {σ : Store} {x y : Code} {α : Type} (E : α → Env) (S : α → Store) (I : α → Prop) (hx : W P n x (Post.then (fun ρ' σ' => ∃ a, I a ∧ (E a).Sub ρ' ∧ (S a).Sub σ') Q) ρ σ) (hy : ∀ a, I a → W P n y Q (E a) (S a)) : W P n (.seq x y) Q ρ σ := by
  refine W_seq (W_mono hx ?_)
  intro e ρ2 σ2 hq
  cases e with
  | normal =>
    obtain ⟨a, h1, h2, h3⟩ := hq
    exact W_weaken h2 h3 (hy a h1)
  | exit id => exact hq
  | goto l => exact hq
  | ret => exact hq
  | panic ch => exact hq
  | outgrown => exact hq
theorem prun_go {P : Program} {n : Nat} {mu : List Nat} {ops : Array Oper} {l : List Oper} {ρ : Env} {σ : Store} {K : Env → Store → Prop} (h : prun P n mu ops l ρ σ K) : prun P n mu ops l ρ σ K := h
theorem drun_go {P : Program} {n : Nat} {mu : List Nat} {c : Cl} {nu : Nat → Nat} {ops : Array Oper} {l : List Oper} {i : Nat} {ρ : Env} {σ : Store} {K : Env → Store → Prop} (h : drun P n mu c nu ops l i ρ σ K) : drun P n mu c nu ops l i ρ σ K := h
end Go.Kern

namespace Go.Kern
open Go.RowKit Go.ChangeShapes
inductive Sh where
  | int (k : IntKind)
  | bool
  | str
  | sl (e : Sh) (ag : Bool)
  | nil
  | cons (f r : Sh)
def Sh.size : Sh → Nat
  | .int _ | .bool | .str | .sl _ _ => 1
  | .nil => 0
  | .cons f r => f.size + r.size
def Sh.isAgg : Sh → Bool
  | .nil | .cons _ _ => true
  | _ => false
def wrapV (ag : Bool) (l : List AV) : AV :=
  match ag with
  | true => .agg l
  | false => l.headD .any
def Sh.ok : Sh → List AV → Prop
  | .int k, l => ∃ n, l = [.int k n] ∧ (Lit.int k n).wf = true
  | .bool, l => ∃ b, l = [.bool b]
  | .str, l => ∃ s : ByteArray, l = [.str s] ∧ s.size ≤ maxLen
  | .sl e ag, l => ∃ (kd : SK) (ys : List (List AV)), l = [.sl kd (ys.map (wrapV ag))] ∧ ys.length ≤ maxLen ∧ ∀ y, y ∈ ys → e.ok y
  | .nil, l => l = []
  | .cons f r, l => ∃ a b, l = a ++ b ∧ f.ok a ∧ r.ok b
def Sh.chk (P : Program) : Sh → (TypeId → Bool) × (List Field → Nat → Bool)
  | .int k => (fun t => match P.underlying t with | some (.int q) => decide (q = k) | _ => false, fun _ _ => false)
  | .bool => (fun t => match P.underlying t with | some .bool => true | _ => false, fun _ _ => false)
  | .str => (fun t => match P.underlying t with | some .string => true | _ => false, fun _ _ => false)
  | .sl e ag => (fun t => match P.underlying t with
      | some (.slice et) => decide (P.cellsOf et = e.size) && decide (0 < e.size) && decide (e.isAgg = ag) && (e.chk P).1 et
      | _ => false, fun _ _ => false)
  | .nil => (fun t => match P.underlying t with | some (.struct fs) => fs.toList.isEmpty && decide (P.cellsOf t = 0) | _ => false, fun l _ => l.isEmpty)
  | .cons f r =>
    let F : List Field → Nat → Bool := fun l off => match l with
      | [] => false
      | fd :: l => decide (fd.offset = off) && decide (P.cellsOf fd.type = f.size) && (f.chk P).1 fd.type && (r.chk P).2 l (off + f.size)
    (fun t => match P.underlying t with | some (.struct fs) => decide (P.cellsOf t = f.size + r.size) && F fs.toList 0 | _ => false, F)
theorem Sh.ok_size : ∀ (s : Sh) {l : List AV}, s.ok l → l.length = s.size
  | .int k, l, ⟨n, h, _⟩ => by rw [h]; rfl
  | .bool, l, ⟨n, h⟩ => by rw [h]; rfl
  | .str, l, ⟨n, h, _⟩ => by rw [h]; rfl
  | .sl e ag, l, ⟨kd, ys, h, _⟩ => by rw [h]; rfl
  | .nil, l, h => by rw [show l = [] from h]; rfl
  | .cons f r, l, ⟨a, b, h, ha, hb⟩ => by rw [h, List.length_append, f.ok_size ha, r.ok_size hb]; rfl
theorem wrap_cells {e : Sh} {ag : Bool} (h : e.isAgg = ag) {y : List AV} (hy : e.ok y) : (wrapV ag y).cells = y := by
  subst h
  cases e with
  | int k => obtain ⟨n, rfl, _⟩ := hy; rfl
  | bool => obtain ⟨n, rfl⟩ := hy; rfl
  | str => obtain ⟨n, rfl, _⟩ := hy; rfl
  | sl e ag => obtain ⟨kd, ys, rfl, _⟩ := hy; rfl
  | nil => rfl
  | cons f r => rfl
def gh0 (W : World) : Gh := { w0 := W, imm := fun b o => W.cell? ⟨b, o, none⟩, loc := fun _ => none, tipv := fun _ _ => none, res := fun _ => False }
def st0 : Store := fun _ => none
theorem conc0 (W : World) : Conc (gh0 W) W st0 where
  below := Below.refl _ _
  imm b o v h := h
  loc o b sz n h := by cases h
  fresh := ⟨0, fun o _ => ⟨rfl, fun _ => rfl, rfl, id⟩⟩
  res o h := h.elim
  obj := ⟨fun _ => 0, ⟨nofun, nofun⟩⟩
def RC (W : World) (l : List AV) (cs : List Value) : Prop := l.length = cs.length ∧ ∀ (i : Nat) (c : AV) (v : Value), l[i]? = some c → cs[i]? = some v → R (gh0 W) c v
theorem RC.one {W : World} {c : AV} {v : Value} (h : R (gh0 W) c v) : RC W [c] [v] := ⟨rfl, fun i x u hx hu => by
  cases i with
  | zero => simp at hx hu; subst hx; subst hu; exact h
  | succ i => simp at hx⟩
theorem RC.append {W : World} {l m : List AV} {cs ds : List Value} (h : RC W l cs) (k : RC W m ds) : RC W (l ++ m) (cs ++ ds) := by
  refine ⟨by rw [List.length_append, List.length_append, h.1, k.1], fun i c v hc hv => ?_⟩
  rw [List.getElem?_append] at hc hv
  rw [h.1] at hc
  split at hc
  · rename_i hi
    rw [if_pos hi] at hv
    exact h.2 i c v hc hv
  · rename_i hi
    rw [if_neg hi] at hv
    exact k.2 _ c v hc hv
section
variable {H : Type} {enc : TypeId × Value → H} {P : Program} {W : World} {held : Bool} {sp : Nat → Bool}
theorem sl_read {e : Sh} {ag : Bool} (hag : e.isAgg = ag) (h0 : 0 < e.size) {a : Addr} {len cap : Nat} (hl : len ≤ cap)
    (f : Nat → List AV) (c : Nat → List Value) (hf : ∀ i, i < len → e.ok (f i) ∧ RC W (f i) (c i) ∧ W.cells? 0 (a.add (i * e.size)) e.size = some (c i)) :
    R (gh0 W) (.sl .imm (((List.range len).map f).map (wrapV ag))) (.slice (some a) len cap) := by
  have hcell : ∀ i, i < len → ∀ j, j < e.size → a.spot = none ∧ W.cell? ⟨a.block, a.off + (i * e.size + j), none⟩ = (c i)[j]? := fun i hi j hj => by
    obtain ⟨_, h2, h3⟩ := World.cells?_some (hf i hi).2.2
    have h4 := h3 j hj
    have hsp : a.spot = none := by
      obtain ⟨_, k2, k3⟩ := World.cells?_some (hf 0 (by omega)).2.2
      have k4 := k3 0 h0
      rw [List.getElem?_eq_getElem (by omega)] at k4
      have := World.cell?_spot k4
      simpa [Addr.add] using this
    refine ⟨hsp, ?_⟩
    rw [add_spot hsp, add_spot rfl] at h4
    rw [← h4]
    simp only [Nat.add_assoc]
  have hxs : ((List.range len).map f).map (wrapV ag) = (List.range len).map fun i => wrapV ag (f i) := by simp
  have hlen : (((List.range len).map f).map (wrapV ag)).length = len := by simp
  have hu : ∀ x, x ∈ ((List.range len).map f).map (wrapV ag) → x.cells.length = e.size := by
    intro x hx
    rw [hxs] at hx
    obtain ⟨i, hi, rfl⟩ := List.mem_map.1 hx
    rw [wrap_cells hag (hf i (List.mem_range.1 hi)).1]
    exact e.ok_size (hf i (List.mem_range.1 hi)).1
  have hcl := cellsL_length (((List.range len).map f).map (wrapV ag)) hu
  rw [hlen] at hcl
  have key : ∀ k, k < len * e.size → ∃ i j, i < len ∧ j < e.size ∧ k = i * e.size + j ∧ (cellsL (((List.range len).map f).map (wrapV ag)))[k]? = (f i)[j]? := fun k hk => by
    have hi : k / e.size < len := (Nat.div_lt_iff_lt_mul h0).2 hk
    refine ⟨k / e.size, k % e.size, hi, Nat.mod_lt _ h0, by rw [Nat.mul_comm]; exact (Nat.div_add_mod _ _).symm, ?_⟩
    rw [cellsL_get h0 _ hu, hxs, List.getElem?_map, List.getElem?_range hi]
    simp only [Option.map_some, Option.bind_some]
    rw [wrap_cells hag (hf _ hi).1]
  have hr := R.sl (g := gh0 W) (k := .imm) (xs := ((List.range len).map f).map (wrapV ag)) (a := a) (cap := cap) (sz := e.size) (vs := fun k => (W.cell? ⟨a.block, a.off + k, none⟩).getD undef)
    (by rw [hlen]; exact hl)
    (fun hne => by
      cases len with
      | zero => exact absurd rfl hne
      | succ n => exact (hcell 0 (by omega) 0 h0).1)
    hu
    (fun k hk => by
      rw [hcl] at hk
      obtain ⟨i, j, hi, hj, rfl, _⟩ := key k hk
      have h2 := (hcell i hi j hj).2
      have hlt : j < (c i).length := by have := (World.cells?_some (hf i hi).2.2).2.1; omega
      show W.cell? _ = some _
      rw [h2, List.getElem?_eq_getElem hlt]; rfl)
    (fun k x hx => by
      have hk : k < len * e.size := by
        have := (List.getElem?_eq_some_iff.1 hx).1
        omega
      obtain ⟨i, j, hi, hj, rfl, he⟩ := key k hk
      rw [he] at hx
      have hlt : j < (c i).length := by have := (World.cells?_some (hf i hi).2.2).2.1; omega
      have h2 := (hcell i hi j hj).2
      simp only [h2, List.getElem?_eq_getElem hlt, Option.getD_some]
      exact (hf i hi).2.1.2 j x _ hx (List.getElem?_eq_getElem hlt))
  rw [hlen] at hr
  exact hr
theorem Sh.read : ∀ (s : Sh),
    (∀ (t : TypeId) (fuel : Nat) (cs : List Value) (x : DataW H × List MemPlace), (s.chk P).1 t = true → DataW.trod enc P W 0 sp held fuel t cs = some x → ∃ l, s.ok l ∧ RC W l cs) ∧
    (∀ (fl : List Field) (off n : Nat) (cs : List Value), (s.chk P).2 fl off = true → off + s.size = cs.length →
      (∀ f, f ∈ fl → ∃ x, DataW.trod enc P W 0 sp held n f.type ((cs.drop f.offset).take (P.cellsOf f.type)) = some x) → ∃ l, s.ok l ∧ RC W l (cs.drop off))
  | .int k => by
    refine ⟨?_, ?_⟩
    · intro t fuel cs x hc h
      simp only [Sh.chk] at hc
      split at hc
      · rename_i q hq
        obtain rfl := of_decide_eq_true hc
        obtain ⟨n, rfl, _, hw⟩ := DataW.trod_int hq h
        exact ⟨_, ⟨n, rfl, hw⟩, .one (.int _ _)⟩
      · cases hc
    · intro fl off n cs hc
      simp [Sh.chk] at hc
  | .bool => by
    refine ⟨?_, ?_⟩
    · intro t fuel cs x hc h
      simp only [Sh.chk] at hc
      split at hc
      · rename_i hq
        obtain ⟨n, rfl, _⟩ := DataW.trod_bool hq h
        exact ⟨_, ⟨n, rfl⟩, .one (.bool _)⟩
      · cases hc
    · intro fl off n cs hc
      simp [Sh.chk] at hc
  | .str => by
    refine ⟨?_, ?_⟩
    · intro t fuel cs x hc h
      simp only [Sh.chk] at hc
      split at hc
      · rename_i hq
        obtain ⟨n, rfl, _, hw⟩ := DataW.trod_string hq h
        exact ⟨_, ⟨n, rfl, hw⟩, .one (.str _)⟩
      · cases hc
    · intro fl off n cs hc
      simp [Sh.chk] at hc
  | .sl e ag => by
    refine ⟨?_, ?_⟩
    · intro t fuel cs x hc h
      simp only [Sh.chk] at hc
      split at hc
      · rename_i et hq
        simp only [Bool.and_eq_true, decide_eq_true_eq] at hc
        obtain ⟨⟨⟨hsz, h0⟩, hag⟩, hce⟩ := hc
        rcases DataW.trod_slice hq h with ⟨rfl, _⟩ | ⟨a, len, cap, elems, rest, n, _, rfl, _, _, hlc, hcm, hel, hi, _⟩
        · exact ⟨[.sl .nil []], ⟨.nil, [], rfl, by simp, fun y hy => by cases hy⟩, .one .slnil⟩
        · have hex : ∀ i, ∃ (l : List AV) (c : List Value), i < len → e.ok l ∧ RC W l c ∧ W.cells? 0 (a.add (i * e.size)) e.size = some c := fun i => by
            by_cases hlt : i < len
            · have h1 := hi i hlt
              rw [List.getElem?_eq_getElem (by omega)] at h1
              rw [hsz] at h1
              cases hcs : W.cells? 0 (a.add (i * e.size)) e.size with
              | none => rw [hcs] at h1; cases h1
              | some c =>
                rw [hcs] at h1
                obtain ⟨l, h2, h3⟩ := (Sh.read e).1 et n c _ hce h1
                exact ⟨l, c, fun _ => ⟨h2, h3, rfl⟩⟩
            · exact ⟨[], [], fun h => absurd h hlt⟩
          have f := fun i => (hex i).choose
          refine ⟨[.sl .imm (((List.range len).map fun i => (hex i).choose).map (wrapV ag))], ⟨.imm, (List.range len).map fun i => (hex i).choose, rfl, by simp; omega, fun y hy => ?_⟩, .one ?_⟩
          · obtain ⟨i, hi', rfl⟩ := List.mem_map.1 hy
            exact ((hex i).choose_spec.choose_spec (List.mem_range.1 hi')).1
          · exact sl_read hag h0 hlc (fun i => (hex i).choose) (fun i => (hex i).choose_spec.choose) fun i hi' => (hex i).choose_spec.choose_spec hi'
      · cases hc
    · intro fl off n cs hc
      simp [Sh.chk] at hc
  | .nil => by
    refine ⟨?_, ?_⟩
    · intro t fuel cs x hc h
      simp only [Sh.chk] at hc
      split at hc
      · rename_i fs hq
        simp only [Bool.and_eq_true, decide_eq_true_eq] at hc
        obtain ⟨xs, n, _, _, hl, _⟩ := DataW.trod_struct hq h
        have : cs = [] := List.eq_nil_of_length_eq_zero (by omega)
        subst this
        exact ⟨[], rfl, rfl, fun i c v hc => by simp at hc⟩
      · cases hc
    · intro fl off n cs hc hl _
      have : cs.drop off = [] := List.drop_eq_nil_of_le (by simp only [Sh.size] at hl; omega)
      exact ⟨[], rfl, by rw [this]; exact ⟨rfl, fun i c v hc => by simp at hc⟩⟩
  | .cons f r => by
    have hF : ∀ (fl : List Field) (off n : Nat) (cs : List Value), ((Sh.cons f r).chk P).2 fl off = true → off + (f.size + r.size) = cs.length →
        (∀ f, f ∈ fl → ∃ x, DataW.trod enc P W 0 sp held n f.type ((cs.drop f.offset).take (P.cellsOf f.type)) = some x) → ∃ l, (Sh.cons f r).ok l ∧ RC W l (cs.drop off) := by
      intro fl off n cs hc hl hx
      simp only [Sh.chk] at hc
      cases fl with
      | nil => cases hc
      | cons fd fl =>
        simp only [Bool.and_eq_true, decide_eq_true_eq] at hc
        obtain ⟨⟨⟨ho, hs⟩, hcf⟩, hcr⟩ := hc
        obtain ⟨x, hx0⟩ := hx fd List.mem_cons_self
        obtain ⟨a, ha, hra⟩ := (Sh.read f).1 _ _ _ _ hcf hx0
        obtain ⟨b, hb, hrb⟩ := (Sh.read r).2 fl (off + f.size) n cs hcr (by omega) fun fd' hf' => hx fd' (List.mem_cons_of_mem _ hf')
        refine ⟨a ++ b, ⟨a, b, rfl, ha, hb⟩, ?_⟩
        have e : cs.drop off = (cs.drop off).take f.size ++ cs.drop (off + f.size) := by
          rw [← List.drop_drop, List.take_append_drop]
        rw [e]
        rw [ho, hs] at hra
        exact hra.append hrb
    refine ⟨fun t fuel cs x hc h => ?_, hF⟩
    simp only [Sh.chk] at hc
    split at hc
    · rename_i fs hq
      rw [Bool.and_eq_true, decide_eq_true_eq] at hc
      obtain ⟨xs, n, _, _, hl, hlen, hi⟩ := DataW.trod_struct hq h
      have := hF fs.toList 0 n cs hc.2 (by omega) fun fd hfd => by
        obtain ⟨i, hi', rfl⟩ := List.getElem_of_mem hfd
        have hi2 : i < fs.size := by simpa using hi'
        have := hi i fs[i] (by simp [hi2])
        exact ⟨xs[i]'(by omega), by simpa [List.getElem?_eq_getElem (show i < xs.length by omega)] using this⟩
      simpa using this
    · cases hc
end
end Go.Kern

namespace Go.Kern
open Go.RowKit Go.ChangeShapes
section
variable {H : Type} {enc : TypeId × Value → H} {P : Program}
theorem trodAll_keep {W W' : World} (hl : laidOutB P = true) (hb : Below W.heap.size W W') {sp : Nat → Bool} : ∀ (ts : List TypeId) (vs : List Value) (ds : List (DataW H)) (ps : List MemPlace),
    (∀ t, t ∈ ts → P.readableRec t = true ∧ t < P.types.size) → DataW.TrodAll enc P W 0 (fun _ => true) true ts vs ds ps → (∀ p, p ∈ ps → p.block < W.heap.size) → (∀ p, p ∈ ps → sp p.block = true) →
    DataW.TrodAll enc P W' 0 sp true ts vs ds ps
  | [], [], [], ps, _, h, _, _ => h
  | t :: ts, v :: vs, d :: ds, ps, hr, ⟨p, q, h1, h2, h3⟩, hlt, hs => by
    subst h3
    have ht := hr t List.mem_cons_self
    exact ⟨p, q, WideElems.Trod_stays hl ht.1 ht.2 h1 (fun x hx => hb.same (hlt x (List.mem_append_left _ hx))) (fun x hx => hs x (List.mem_append_left _ hx)),
      trodAll_keep hl hb ts vs ds q (fun t h => hr t (List.mem_cons_of_mem _ h)) h2 (fun x hx => hlt x (List.mem_append_right _ hx)) (fun x hx => hs x (List.mem_append_right _ hx)), rfl⟩
  | [], [], _ :: _, _, _, h, _, _ => h.elim
  | [], _ :: _, _, _, _, h, _, _ => h.elim
  | _ :: _, [], _, _, _, h, _, _ => h.elim
  | _ :: _, _ :: _, [], _, _, h, _, _ => h.elim
theorem law_row {fn : Func} {f : FuncId} {s : ChangeSpec} {tb : TypeId} {args : Array Value} {W : World} {ds gs : List (DataW H)} {before : List MemPlace}
    (hl : laidOutB P = true) (hr : ∀ t, t ∈ fn.params.toList → P.readableRec t = true ∧ t < P.types.size) (hres : fn.resultTypes = #[tb]) (htb : P.underlying tb = some .bool)
    (hvars : s.vars = []) (hspec : s.fn H ds = { results := [.lit (.bool true)], args := ds })
    (hW : DataW.Whole enc P fn.params.toList s.vars false W args.toList ds gs before)
    (xs : List AV) (hxl : xs.length = args.size) (hx : ∀ (i : Nat) (c : AV) (v : Value), xs[i]? = some c → args[i]? = some v → R (gh0 W) c v)
    (hp : PCall P f xs st0 (fun r s => r = .bool true ∧ s = st0)) :
    Calls P f args W fun e W' => ∃ v, e = .returned v ∧ s.post enc P fn false true false false W args v W' := by
  refine (hp.2 (gh0 W) W args hxl hx (conc0 W)).mono ?_
  rintro e W' ⟨v, he, g', r, σ', hle, hc, hrv, rfl, _⟩
  refine ⟨v, he, ?_⟩
  have hv : v = .bool true := by cases hrv; rfl
  subst hv
  have hb : Below W.heap.size W W' := by
    have h1 := hc.below
    rw [hle.w0] at h1
    exact h1
  have hlt : ∀ p, p ∈ before → p.block < W.heap.size := fun p h => hW.lt p h
  have hW2 := hW
  obtain ⟨p, q, hA, hV, hpq, hz, _⟩ := hW2
  rw [hvars] at hV
  obtain ⟨rfl, rfl⟩ := trodVars_none hV
  rw [List.append_nil] at hpq
  subst hpq
  have hfn : s.fn H (ds ++ []) = { results := [.lit (.bool true)], args := ds } := by rw [List.append_nil]; exact hspec
  have hargs : ∀ sp : Nat → Bool, (∀ x ∈ before, sp x.block = true) → DataW.TrodAll enc P W' 0 sp true fn.params.toList args.toList (s.fn H (ds ++ [])).args before := by
    intro sp hs
    rw [hfn]
    exact trodAll_keep hl hb _ _ _ _ hr hA hlt hs
  have hresT : ∀ (b : Nat) (sp : Nat → Bool) (hd : Bool), DataW.TrodAll enc P W' b sp hd fn.resultTypes.toList ((Value.bool true).resultList fn.resultTypes.size) (s.fn H (ds ++ [])).results [] := by
    intro b sp hd
    rw [hfn, hres]
    exact trodAll_cons_mk (shut_bool htb _) trodAll_mk0
  have hvarsT : ∀ sp : Nat → Bool, DataW.TrodVars enc P W' sp s.vars (s.fn H (ds ++ [])).vars [] := by
    intro sp
    rw [hfn, hvars]
    rfl
  refine ⟨ds, [], before, [], before, [], hW, hresT _ _ _, hargs _ fun x hx => ?_, hvarsT _, hb.frame _, fun _ => ?_⟩
  · simpa using hlt x hx
  · refine ⟨ok_one hres rfl (okWide_bool_mk htb _), _, _, ([] ++ before) ++ [], ⟨[] ++ before, [], trodAll_append (hargs _ fun _ _ => rfl) (hresT _ _ _), hvarsT _, rfl, ?_, nofun⟩, ?_⟩
    · intro b off h
      have h' : MemPlace.cell b off ∈ before := by simpa using h
      rw [hb.frozen (hlt _ h')]
      exact hz b off h'
    · intro x hx _
      simpa using hx
end
end Go.Kern

namespace Go.Kern
open Go.RowKit Go.ChangeShapes Go.WideShapes
def intSh : Sh := .int .i64
theorem sl_of {α : Type} {e : Sh} {ag : Bool} (f : α → AV) (hf : ∀ y, e.ok y → ∃ a, wrapV ag y = f a) : ∀ {l : List AV}, (Sh.sl e ag).ok l → ∃ (k : SK) (zs : List α), l = [.sl k (zs.map f)] ∧ zs.length ≤ maxLen := by
  have gen : ∀ ys : List (List AV), (∀ y, y ∈ ys → e.ok y) → ∃ zs : List α, ys.map (wrapV ag) = zs.map f ∧ zs.length = ys.length := by
    intro ys
    induction ys with
    | nil => exact fun _ => ⟨[], rfl, rfl⟩
    | cons y ys ih =>
      intro h
      obtain ⟨a, ha⟩ := hf y (h y List.mem_cons_self)
      obtain ⟨zs, h1, h2⟩ := ih fun y hy => h y (List.mem_cons_of_mem _ hy)
      exact ⟨a :: zs, by rw [List.map_cons, h1, ha]; rfl, by simp [h2]⟩
  rintro l ⟨k, ys, rfl, h1, h2⟩
  obtain ⟨zs, h3, h4⟩ := gen ys h2
  exact ⟨k, zs, by rw [h3], by omega⟩
theorem sl_ints {l : List AV} (h : (Sh.sl intSh false).ok l) : ∃ (k : SK) (zs : List Int), l = [.sl k (ints zs)] ∧ zs.length ≤ maxLen :=
  sl_of (e := intSh) (fun n => AV.int .i64 n) (fun y hy => by obtain ⟨n, rfl, _⟩ := hy; exact ⟨n, rfl⟩) h
inductive RS (W : World) : List AV → List Value → Prop
  | nil : RS W [] []
  | cons {x : AV} {v : Value} {xs : List AV} {vs : List Value} (h : R (gh0 W) x v) (hs : RS W xs vs) : RS W (x :: xs) (v :: vs)
theorem R_args {W : World} : ∀ (xs : List AV) (vs : List Value), RS W xs vs → xs.length = vs.toArray.size ∧ ∀ (i : Nat) (c : AV) (v : Value), xs[i]? = some c → vs.toArray[i]? = some v → R (gh0 W) c v
  | _, _, .nil => ⟨rfl, fun i c v h => by simp at h⟩
  | _, _, .cons h hs => by
    obtain ⟨h1, h2⟩ := R_args _ _ hs
    refine ⟨by simpa using h1, fun i c v hc hv => ?_⟩
    cases i with
    | zero => simp at hc hv; subst hc; subst hv; exact h
    | succ i => exact h2 i c v (by simpa using hc) (by simpa using hv)
end Go.Kern

namespace Go.Kern
open Go.RowKit
theorem Gh.Le_addFrz {g : Gh} {b : Nat} {cs : Array Value} {m : Nat} (hn : ∀ off, g.imm b off = none) : g.Le (g.addImm b cs m) :=
  ⟨rfl, fun b' o v hi => by
    simp only [Gh.addImm]
    by_cases e : b' = b
    · subst e; rw [hn] at hi; cases hi
    · rw [if_neg e]; exact hi, fun _ _ h => h, fun _ _ _ h => h, rfl⟩
theorem drop_some {s : Store} {o p : Nat} {x : Ob} (h : (s.drop o) p = some x) : p ≠ o ∧ s p = some x := by
  simp only [Store.drop] at h
  split at h
  · cases h
  · exact ⟨by assumption, h⟩
theorem Conc.freeze {g : Gh} {w : World} {s : Store} (h : Conc g w s) {o : Nat} {e : TypeId} {rows : List AV} (ho : s o = some (.arr e rows)) :
    ∃ g', g.Le g' ∧ Conc g' w (s.drop o) ∧
      (∀ sz st len v, st + len ≤ rows.length → R g (.ms o sz st len) v → R g' (.sl .imm ((rows.drop st).take len)) v) ∧
      (∀ i off x v, rows[i]? = some x → R g (.ptr o i off) v → R g' (.ip x off) v) := by
  obtain ⟨blk, h1, h2⟩ := h.obj
  obtain ⟨hb, sz, cells, ⟨n, hl, hsz⟩, hh, hrow, hfit, hcell, himm⟩ := h1 o _ ho
  have hle : g.Le (g.addImm (blk o) cells (rows.length * sz)) := Gh.Le_addFrz himm
  have hcl : (cellsL rows).length = rows.length * sz := cellsL_length rows hrow
  have hget : ∀ i, i < rows.length * sz → ∃ u, cells[i]? = some u := fun i hi => ⟨_, Array.getElem?_eq_getElem (by omega)⟩
  have hval : ∀ i c, (cellsL rows)[i]? = some c → R g c (cells.getD i undef) := fun i c hc => by
    have hi : i < rows.length * sz := by rw [← hcl]; exact (List.getElem?_eq_some_iff.1 hc).1
    obtain ⟨u, hu⟩ := hget i hi
    rw [Array.getD_eq_getD_getElem?, hu]
    exact hcell i c u hc hu
  have himm2 : ∀ i, i < rows.length * sz → (g.addImm (blk o) cells (rows.length * sz)).imm (blk o) i = some (cells.getD i undef) := fun i hi => by
    obtain ⟨u, hu⟩ := hget i hi
    simp only [Gh.addImm]
    rw [if_pos trivial, if_pos hi, Array.getD_eq_getD_getElem?, hu]
    rfl
  refine ⟨_, hle, ⟨h.below, fun b off v hi => ?_, h.loc, ?_, ?_, blk, fun p x hx => ?_, fun p q x y hx hy => ?_⟩, ?_, ?_⟩
  · simp only [Gh.addImm] at hi
    split at hi
    · rename_i eb
      subst eb
      split at hi
      · simp [World.cell?, hh, hi]
      · cases hi
    · exact h.imm b off v hi
  · obtain ⟨N, hN⟩ := h.fresh
    exact ⟨N, fun p hp => ⟨(hN p hp).1, (hN p hp).2.1, by simp only [Store.drop]; split; · rfl
                                                          · exact (hN p hp).2.2.1, (hN p hp).2.2.2⟩⟩
  · exact fun p hp => ⟨(h.res p hp).1, (h.res p hp).2.1, by simp only [Store.drop]; split; · rfl
                                                            · exact (h.res p hp).2.2⟩
  · obtain ⟨hne, hx⟩ := drop_some hx
    refine ⟨(h1 p x hx).1, (h1 p x hx).2.keep hle rfl (fun off => ?_) (fun _ => rfl)⟩
    simp only [Gh.addImm]
    rw [if_neg (fun eb => hne (h2 p o x _ hx ho eb))]
  · exact h2 p q x y (drop_some hx).2 (drop_some hy).2
  · intro sz' st len v hst hv
    cases hv with
    | ms hb' hc hlen ha =>
      rename_i b' n' cap a
      rw [hl] at hb'
      injection hb' with hb'
      injection hb' with e1 e2
      injection e2 with e2 e3
      subst e1; subst e2; subst e3
      have hlen2 : ((rows.drop st).take len).length = len := by rw [List.length_take, List.length_drop]; omega
      have hm : ∀ x, x ∈ (rows.drop st).take len → x.cells.length = sz := fun x hx => hrow x (List.mem_of_mem_drop (List.mem_of_mem_take hx))
      have hcl2 : (cellsL ((rows.drop st).take len)).length = len * sz := by rw [cellsL_length _ hm, hlen2]
      have hidx : ∀ i c, (cellsL ((rows.drop st).take len))[i]? = some c → (cellsL rows)[st * sz + i]? = some c := fun i c hc => by
        have hi : i < len * sz := by rw [← hcl2]; exact (List.getElem?_eq_some_iff.1 hc).1
        have hpos : 0 < sz := by
          rcases Nat.eq_zero_or_pos sz with e0 | e0
          · subst e0; omega
          · exact e0
        rw [cellsL_get hpos _ hm] at hc
        rw [cellsL_get hpos _ hrow]
        have q1 : (st * sz + i) / sz = st + i / sz := by rw [Nat.mul_comm, Nat.mul_add_div hpos]
        have q2 : (st * sz + i) % sz = i % sz := by rw [Nat.mul_comm, Nat.mul_add_mod]
        have hil : i / sz < len := Nat.div_lt_of_lt_mul (by rw [Nat.mul_comm]; exact hi)
        rw [q1, q2]
        rw [List.getElem?_take, if_pos hil, List.getElem?_drop] at hc
        exact hc
      have := R.sl (g := g.addImm (blk o) cells (rows.length * sz)) (k := .imm) (xs := (rows.drop st).take len) (a := a) (cap := cap) (sz := sz) (vs := fun i => cells.getD (st * sz + i) undef) (by show _ ≤ _; omega)
        (fun hne => by
          have hlp : 0 < len := by
            rcases Nat.eq_zero_or_pos len with e0 | e0
            · subst e0; simp at hne
            · exact e0
          rw [ha (by omega)])
        hm (fun i hi => ?_) (fun i c hc => (hval _ c (hidx i c hc)).le hle)
      · rw [hlen2] at this; exact this
      · rw [hcl2] at hi
        have hlp : 0 < len := by
          rcases Nat.eq_zero_or_pos len with e0 | e0
          · subst e0; omega
          · exact e0
        rw [ha (by omega)]
        refine himm2 _ ?_
        have : (st + len) * sz ≤ rows.length * sz := Nat.mul_le_mul_right _ hst
        rw [Nat.add_mul] at this
        show st * sz + i < _
        omega
  · intro i off x v hx hv
    cases hv with
    | ptr hb' =>
      rename_i b' sz' n'
      rw [hl] at hb'
      injection hb' with hb'
      injection hb' with e1 e2
      injection e2 with e2 e3
      subst e1; subst e2; subst e3
      have hil : i < rows.length := (List.getElem?_eq_some_iff.1 hx).1
      have hxs : x.cells.length = sz := hrow x (List.mem_of_getElem? hx)
      refine R.ip (base := i * sz) (vs := fun j => cells.getD (i * sz + j) undef) rfl rfl (fun j hj => himm2 _ ?_) (fun j c hc => (hval _ c ?_).le hle)
      · have : (i + 1) * sz ≤ rows.length * sz := Nat.mul_le_mul_right _ hil
        rw [Nat.add_mul, Nat.one_mul] at this
        omega
      · have hj : j < sz := by rw [← hxs]; exact (List.getElem?_eq_some_iff.1 hc).1
        rw [cellsL_row rows hrow i j x hx hj]
        exact hc
theorem R.tip_imm {g : Gh} {k : SK} {xs : List AV} {v : Value} (h : R g (.sl k xs) v) (hk : k.isNil = false) : R g (.sl .imm xs) v := by
  cases h with
  | slnil => cases hk
  | sl hk' hs hu hi h =>
    refine .sl ?_ hs hu hi h
    cases k with
    | nil => cases hk
    | imm => exact hk'
    | full => show _ ≤ _; rw [show _ = _ from hk']; exact Nat.le_refl _
    | tip o => exact hk'.1
inductive Fin (K : KK) (r : AV) (s : Store) : Prop where
  | as (h : K r s)
  | imm (k : SK) (xs : List AV) (hr : r = .sl k xs) (hk : k.isNil = false) (h : K (.sl .imm xs) s)
  | frz (o sz n : Nat) (e : TypeId) (rows : List AV) (hr : r = .ms o sz 0 n) (hs : s o = some (.arr e rows)) (hn : n ≤ rows.length) (h : K (.sl .imm (rows.take n)) (s.drop o))
theorem PCall_fin {P : Program} {f : FuncId} {args : List AV} {σ : Store} {K0 K : KK} (h : PCall P f args σ K0) (hk : ∀ r s, K0 r s → Fin (fun r s => ∃ s0 : Store, s0.Sub s ∧ K r s0) r s) : PCall P f args σ K :=
  ⟨h.1, fun g w vs hl hr hc => (h.2 g w vs hl hr hc).mono fun _ _ ⟨v, he, g', r, σ', h1, h2, h3, h4⟩ => by
    rcases hk _ _ h4 with ⟨s0, q1, q2⟩ | ⟨kd, xs, rfl, hkd, s0, q1, q2⟩ | ⟨o, sz, n, et, rows, rfl, hs, hn, s0, p1, p2⟩
    · exact ⟨v, he, g', _, _, h1, h2.sub q1, h3, q2⟩
    · exact ⟨v, he, g', _, _, h1, h2.sub q1, h3.tip_imm hkd, q2⟩
    · obtain ⟨g2, q1, q2, q3, _⟩ := h2.freeze hs
      have := q3 sz 0 n v (by omega) h3
      exact ⟨v, he, g2, _, _, h1.trans q1, q2.sub p1, by simpa using this, p2⟩⟩
def frz (o : Nat) (rows : List AV) : AV → AV
  | .ms p sz st len => if p = o then (if st + len ≤ rows.length then .sl .imm ((rows.drop st).take len) else .any) else .ms p sz st len
  | .ptr p i off => if p = o then (match rows[i]? with
    | some x => .ip x off
    | none => .any) else .ptr p i off
  | x => x
def Env.frz (o : Nat) (rows : List AV) (ρ : Env) : Env := ρ.map fun e => (e.1, Kern.frz o rows e.2)
theorem Env.frz_get (o : Nat) (rows : List AV) : ∀ (ρ : Env) (i : Nat), (ρ.frz o rows).get i = Kern.frz o rows (ρ.get i)
  | [], i => rfl
  | (j, v) :: r, i => by
    simp only [Env.frz, List.map_cons, Env.get]
    split
    · rfl
    · exact Env.frz_get o rows r i
theorem W_freeze {P : Program} {n : Nat} {c : Code} {Q : Post} {ρ : Env} {σ : Store} {o : Nat} {e : TypeId} {rows : List AV} (ho : σ o = some (.arr e rows)) (h : W P n c Q (ρ.frz o rows) (σ.drop o)) : W P n c Q ρ σ := by
  intro g a w hd he hc
  obtain ⟨g2, q1, q2, q3, q4⟩ := hc.freeze ho
  refine wp_mono (h g2 a w hd ⟨he.size, fun i => ?_⟩ q2) fun _ _ _ hl => hl.mono q1 (fun _ _ _ h => h)
  rw [Env.frz_get]
  have hi := he.get i
  generalize ρ.get i = x at hi
  generalize a.tmps.getD i undef = v at hi
  unfold frz
  split
  · rename_i p sz st len
    split
    · rename_i e
      subst e
      split
      · rename_i hst; exact q3 sz st len v hst hi
      · exact .any _
    · exact hi.le q1
  · rename_i p j off
    split
    · rename_i e
      subst e
      split
      · rename_i x hx; exact q4 j off x v hx hi
      · exact .any _
    · exact hi.le q1
  · exact hi.le q1
end Go.Kern

namespace Go.Kern
open Go.RowKit
theorem dltT {a b : Int} (h : a < b) : decide (a < b) = true := decide_eq_true h
theorem dltF {a b : Int} (h : b ≤ a) : decide (a < b) = false := decide_eq_false (by omega)
theorem dleT {a b : Int} (h : a ≤ b) : decide (a ≤ b) = true := decide_eq_true h
theorem dleF {a b : Int} (h : b < a) : decide (a ≤ b) = false := decide_eq_false (by omega)
theorem deqT {a b : Int} (h : a = b) : decide (a = b) = true := decide_eq_true h
theorem deqF {a b : Int} (h : a ≠ b) : decide (a = b) = false := decide_eq_false h
theorem pltT {a b : Int} (h : a < b) : (a < b) = True := eq_true h
theorem pleT {a b : Int} (h : a ≤ b) : (a ≤ b) = True := eq_true h
theorem nltT {a b : Nat} (h : a < b) : (a < b) = True := eq_true h
theorem nleT {a b : Nat} (h : a ≤ b) : (a ≤ b) = True := eq_true h
theorem wrI {x : Int} (h1 : -9223372036854775808 ≤ x) (h2 : x ≤ 9223372036854775807) : IntKind.i64.wrap x = x := wrap64_id h1 h2
section
variable {P : Program} {n : Nat} {Q : Post} {ρ : Env} {σ : Store} {K : Env → Store → Prop} {id id' : Nat}
theorem wt {c : Operand} {x y : Code} (hb : ev ρ c = .bool true) (h : W P n x Q ρ σ) : W P n (.cond c x y) Q ρ σ := W_cond hb (fun _ => h) (fun e => by cases e)
theorem wf {c : Operand} {x y : Code} (hb : ev ρ c = .bool false) (h : W P n y Q ρ σ) : W P n (.cond c x y) Q ρ σ := W_cond hb (fun e => by cases e) (fun _ => h)
theorem wc {c : Operand} {x y : Code} {b : Bool} (hb : ev ρ c = .bool b) (ht : b = true → W P n x Q ρ σ) (hf : b = false → W P n y Q ρ σ) : W P n (.cond c x y) Q ρ σ := W_cond hb ht hf
theorem s1 {x y : Code} (h : W P n x (Post.then (W P n y Q) Q) ρ σ) : W P n (.seq x y) Q ρ σ := W_seq h
theorem s2 {c : Code} (h : W P n c (Post.inBlock id Q) ρ σ) : W P n (.block id c) Q ρ σ := W_block h
theorem s3 {mu : List Nat} {ops : Array Oper} (h : prun P n mu ops ops.toList ρ σ (Hold (fun ρ' σ' => Q .normal ρ' σ') .mk)) : W P n (.region id ops false) Q ρ σ := W_region h
theorem e1 (h : Q .ret ρ σ) : W P n .ret Q ρ σ := W_ret h
theorem e2 (h : Q .normal ρ σ) : W P n .skip Q ρ σ := W_skip h
theorem e3 (h : Q (.exit id) ρ σ) : W P n (.exit id) Q ρ σ := W_exit h
theorem e4 (h : K ρ σ) : Post.then K Q .normal ρ σ := h
theorem e5 (h : Q .ret ρ σ) : Post.then K Q .ret ρ σ := h
theorem e6 (h : Q (.exit id) ρ σ) : Post.then K Q (.exit id) ρ σ := h
theorem e7 (h : Q .normal ρ σ) : Post.inBlock id Q .normal ρ σ := h
theorem e8 (h : Q .ret ρ σ) : Post.inBlock id Q .ret ρ σ := h
theorem e9 (h : Q .normal ρ σ) : Post.inBlock id Q (.exit id) ρ σ := inBlock_exit h
theorem e0 (hne : (id' == id) = false) (h : Q (.exit id') ρ σ) : Post.inBlock id Q (.exit id') ρ σ := inBlock_ne (by simpa using hne) h
theorem ea {t : Tag K} (h : K ρ σ) : Hold K t ρ σ := h
theorem s5 {rl : List ResultVar} {K : KK} (h : readRs P ρ σ rl fun vs => K (oneRes vs) σ) : fnPostL P rl K .ret ρ σ := h
theorem s6 {rl : List ResultVar} {K : KK} (h : readRs P ρ σ rl fun vs => K (oneRes vs) σ) : fnPostL P rl K .normal ρ σ := h
theorem s7 {p : Prop} {t : Tag p} (h : p) : Hold p t := h
end
abbrev c0 : Cl := ⟨[], [], [], [], [], [], 0⟩
abbrev cq (l : List Nat) : Cl := ⟨l, [], [], [], [], [], 0⟩
abbrev cw (l w a q z : List Nat) : Cl := ⟨l, w, a, q, z, [], 0⟩
theorem gb {b : Bool} {A B : Prop} (h1 : b = true → A) (h2 : b = false → B) : ite (b = true) A B := ite_goB h1 h2
theorem gf {b : Bool} {A B : Prop} (h1 : b = false → A) (h2 : b = true → B) : ite (b = false) A B := by
  cases b
  · exact h1 rfl
  · exact h2 rfl
theorem gn {c : Prop} [Decidable (¬ c)] {A B : Prop} (h1 : ¬ c → A) (h2 : c → B) : ite (¬ c) A B := by
  by_cases h : c
  · rw [if_neg (fun k => k h)]; exact h2 h
  · rw [if_pos h]; exact h1 h
theorem gp {c : Prop} [Decidable c] {A B : Prop} (h1 : c → A) (h2 : ¬ c → B) : ite c A B := ite_go h1 h2
def Pure (P : Program) (f : FuncId) (args : List AV) (v : AV) : Prop := ∀ s, PCall P f args s (fun r s' => r = v ∧ s' = s)
theorem cu {P : Program} {f : FuncId} {args : List AV} {σ : Store} {v : AV} {k : KK} {t : Tag k} (h : Pure P f args v) (hk : k v σ) : PCall P f args σ (Hold k t) :=
  (h σ).mono fun r s' ⟨h1, h2⟩ => by subst h1; subst h2; exact hk
theorem cv {P : Program} {f : FuncId} {args : List AV} {v : AV} {k : AV → Prop} (h : Pure P f args v) (hk : k v) : ∃ v, (∀ s, PCall P f args s (Hold (fun r s' => r = v ∧ s' = s) .mk)) ∧ k v := ⟨v, h, hk⟩
theorem cx {P : Program} {f : FuncId} {args : List AV} {v : AV} {k : AV → Prop} {σ : Store} (h : Pure P f args v) (hk : k v) : ∃ v, PCall P f args σ (Hold (fun r s' => r = v ∧ s' = σ) .mk) ∧ k v := ⟨v, h σ, hk⟩
theorem cy {P : Program} {f : FuncId} {args : List AV} {σ τ : Store} {v : AV} {k : KK} {t : Tag k} (h : PCall P f args σ (fun r s' => r = v ∧ s' = τ)) (hk : k v τ) : PCall P f args σ (Hold k t) :=
  h.mono fun r s' ⟨h1, h2⟩ => by subst h1; subst h2; exact hk
theorem cz {P : Program} {f : FuncId} {args : List AV} {σ τ : Store} {v : AV} {k : AV → Store → Prop} (h : PCall P f args σ (fun r s' => r = v ∧ s' = τ)) (hk : k v τ) : ∃ v τ, PCall P f args σ (Hold (fun r s' => r = v ∧ s' = τ) .mk) ∧ k v τ := ⟨v, τ, h, hk⟩
attribute [go_sem] Bool.not_eq_true' Bool.not_eq_false' decide_eq_false_iff_not Bool.not_not drun_nil drun_cons prun_nil prun_cons wrOk PutAt_self PutAt_put PutAt_same PutSome_self PutSome_put PutSome_same tqOk dstOk ev ofConst leafOf Env.putO Env.get envOf readRs_nil oneRes nilSide SK.isNil isMu fillA partsFit boundA SK.cut SK.cutFull SK.fresh rowOk rowsOk_nil rowsOk_cons rowsOk_append rowsOk_ints splice oneOf keyKind cellsKind cellKind cellsB cellB zeroFits TK.agg AV.cells AV.known AV.one xMu List.set_cons_zero List.set_cons_succ put_same put_put forall_const implies_true exists_eq_left exists_eq_left' exists_eq_right exists_eq Store.Sub.refl and_self Int.toNat_natCast length_ints List.length_map true_and and_true decide_true decide_false if_true if_false Bool.false_eq_true Bool.true_eq_false List.getElem?_cons_zero List.getElem?_cons_succ List.length_cons List.length_nil List.drop_zero List.drop_succ_cons List.take_succ_cons List.take_zero List.drop_nil List.take_nil List.append_nil List.map_cons List.map_nil List.cons_append List.nil_append beq_self_eq_true Bool.false_beq Bool.true_beq Bool.not_true Bool.not_false Option.map_some Option.map_none Option.bind_some ne_eq not_false_eq_true List.contains_cons List.contains_nil Bool.or_false Bool.or_true Bool.and_true Bool.and_false Bool.true_and Bool.false_and List.all_cons List.all_nil Nat.one_ne_zero Nat.zero_ne_one Option.isSome_some Option.isSome_none List.getElem?_toArray beq_true beq_false decide_eq_true_eq Int.toNat_zero forall_ints take_ints drop_ints Int.le_refl Int.natCast_nonneg Nat.zero_add Nat.add_zero or_true true_or false_or or_false unB_bytesA unB rowsOk_bytesA length_bytesA
attribute [go_sem ↓] allocN guardP OpSem callA readRs_cons readR binA intOpA strOpA nilOpA unA convA boxA allocA behind loadA buildA buildSliceA buildSliceM buildSliceN fieldAddrA fieldA indexAddrA indexA lenA sliceA extractA nilCheckA storeA lookupA mapSetA mapDelA makeSliceA appendA appendN apN appendS appendZ convX builtinX externA rangeA nextA entryA
def evPairs (ρ : Env) : List (Nat × Operand) → List (Nat × AV)
  | [] => []
  | (i, x) :: r => (i, ev ρ x) :: evPairs ρ r
theorem evPairs_map (ρ : Env) : ∀ l : List (Nat × Operand), List.map (fun p => (p.1, ev ρ p.2)) l = evPairs ρ l
  | [] => rfl
  | (i, x) :: r => by rw [List.map_cons, evPairs_map ρ r, evPairs]
theorem evPairs_arr (ρ : Env) (l : List (Nat × Operand)) : List.map (fun p => (p.1, ev ρ p.2)) l.toArray.toList = evPairs ρ l := evPairs_map ρ l
attribute [go_sem ↓] evPairs_arr evPairs_map
attribute [go_sem] evPairs
abbrev gpt : AV := .ip (.agg []) 0
theorem R.gpt {g : Gh} {o i off : Nat} {v : Value} (h : R g (.ptr o i off) v) : R g gpt v := by
  cases h with
  | ptr hb => exact .ip (base := _) (vs := fun _ => undef) rfl rfl (fun i hi => by simp [AV.cells] at hi) (fun i c hc => by simp [AV.cells] at hc)
theorem alloc_ne {σ : Store} {o c : Nat} {x : Ob} (h : (σ.put o x) c = none) : c ≠ o := fun e => by
  simp only [Store.put, e, if_true] at h; cases h
theorem put_swap {o c : Nat} (h : c ≠ o) (σ : Store) (x y : Ob) : (σ.put o x).put c y = (σ.put c y).put o x := put_comm (Ne.symm h) x y
theorem put_oth {o c : Nat} (h : c ≠ o) (σ : Store) (x : Ob) : (σ.put o x) c = σ c := by simp only [Store.put, if_neg h]
theorem Sub_new {σ : Store} {c : Nat} {y : Ob} (h : σ c = none) : σ.Sub (σ.put c y) := fun p z hz => by
  simp only [Store.put]
  split
  · rename_i e; rw [e, h] at hz; cases hz
  · exact hz
class St (p : Prop) (q : outParam Prop) : Prop where
  h : q → p
theorem gS {p q : Prop} [i : St p q] (h : q) : p := i.h h
section
variable {P : Program} {n : Nat} {Q : Post} {ρ : Env} {σ : Store} {K : Env → Store → Prop} {id : Nat} {c : Code}
instance : St (W P n (.block id c) Q ρ σ) (W P n c (Post.inBlock id Q) ρ σ) := ⟨s2⟩
instance : St (W P n .ret Q ρ σ) (Q .ret ρ σ) := ⟨e1⟩
instance : St (W P n .skip Q ρ σ) (Q .normal ρ σ) := ⟨e2⟩
instance : St (W P n (.exit id) Q ρ σ) (Q (.exit id) ρ σ) := ⟨e3⟩
instance : St (Post.then K Q .normal ρ σ) (K ρ σ) := ⟨e4⟩
instance : St (Post.then K Q .ret ρ σ) (Q .ret ρ σ) := ⟨e5⟩
instance : St (Post.then K Q (.exit id) ρ σ) (Q (.exit id) ρ σ) := ⟨e6⟩
instance : St (Post.inBlock id Q .normal ρ σ) (Q .normal ρ σ) := ⟨e7⟩
instance : St (Post.inBlock id Q .ret ρ σ) (Q .ret ρ σ) := ⟨e8⟩
instance : St (Post.inBlock id Q (.exit id) ρ σ) (Q .normal ρ σ) := ⟨e9⟩
instance {t : Tag K} : St (Hold K t ρ σ) (K ρ σ) := ⟨ea⟩
class Rd (p : Prop) (q : outParam Prop) : Prop where
  h : q → p
theorem rd {p q : Prop} [i : Rd p q] (h : q) : p := i.h h
instance {ops : Array Oper} : Rd (W P n (.region id ops false) Q ρ σ) (prun P n [] ops ops.toList ρ σ (Hold (fun ρ' σ' => Q .normal ρ' σ') .mk)) := ⟨s3⟩
instance {mu : List Nat} {ops : Array Oper} {l : List Oper} : Rd (prun P n mu ops l ρ σ K) (prun P n mu ops l ρ σ K) := ⟨prun_go⟩
instance {mu : List Nat} {cl : Cl} {nu : Nat → Nat} {ops : Array Oper} {l : List Oper} {i : Nat} : Rd (drun P n mu cl nu ops l i ρ σ K) (drun P n mu cl nu ops l i ρ σ K) := ⟨drun_go⟩
instance {rl : List ResultVar} {K : KK} : Rd (fnPostL P rl K .ret ρ σ) (readRs P ρ σ rl fun vs => K (oneRes vs) σ) := ⟨s5⟩
instance {rl : List ResultVar} {K : KK} : Rd (fnPostL P rl K .normal ρ σ) (readRs P ρ σ rl fun vs => K (oneRes vs) σ) := ⟨s6⟩
instance {p : Prop} {t : Tag p} : Rd (Hold p t) p := ⟨s7⟩
class Mx (P : Program) : Prop where
  h : P.follows .mixedOrders = true
theorem ry [i : Mx P] (mu : List Nat) (cl : Cl) {ops : Array Oper} (h : ∀ nu : Nat → Nat, (∀ i, i ∈ cl.al ++ cl.ap → σ (nu i) = none) → (∀ i j, i ∈ cl.al ++ cl.ap → j ∈ cl.al ++ cl.ap → nu i = nu j → i = j) → drun P n mu cl nu ops ops.toList 0 ρ σ (Hold (fun ρ' σ' => Q .normal ρ' σ') .mk)) (hok : regOk cl ops = true := by kernel_rfl) : W P n (.region id ops true) Q ρ σ := W_region_any mu cl i.h hok h
end
class Bc (b : Bool) (c d : outParam Prop) : Prop where
  t : b = true → c
  f : b = false → d
  t' : c → b = true
  f' : d → b = false
instance : Bc true True False := ⟨fun _ => trivial, nofun, fun _ => rfl, nofun⟩
instance : Bc false False True := ⟨nofun, fun _ => trivial, nofun, fun _ => rfl⟩
instance (priority := low) {b : Bool} : Bc b (b = true) (b = false) := ⟨id, id, id, id⟩
instance {p : Prop} [Decidable p] : Bc (decide p) p (¬ p) := ⟨of_decide_eq_true, of_decide_eq_false, decide_eq_true, decide_eq_false⟩
instance {b : Bool} {c d : Prop} [i : Bc b c d] : Bc (!b) d c := ⟨fun h => i.f (by simpa using h), fun h => i.t (by simpa using h), fun h => by simpa using i.f' h, fun h => by simpa using i.t' h⟩
section
variable {P : Program} {n : Nat} {Q : Post} {ρ : Env} {σ : Store} {b : Bool} {c d : Prop}
theorem wT [i : Bc b c d] {o : Operand} {x y : Code} (hb : ev ρ o = .bool b) (h : W P n x Q ρ σ) (hc : c := by first | exact True.intro | assumption | omega) : W P n (.cond o x y) Q ρ σ := W_cond hb (fun _ => h) (fun e => by rw [i.t' hc] at e; cases e)
theorem wF [i : Bc b c d] {o : Operand} {x y : Code} (hb : ev ρ o = .bool b) (h : W P n y Q ρ σ) (hc : d := by first | exact True.intro | assumption | omega) : W P n (.cond o x y) Q ρ σ := W_cond hb (fun e => by rw [i.f' hc] at e; cases e) (fun _ => h)
theorem wC [i : Bc b c d] {o : Operand} {x y : Code} (hb : ev ρ o = .bool b) (ht : c → W P n x Q ρ σ) (hf : d → W P n y Q ρ σ) : W P n (.cond o x y) Q ρ σ := W_cond hb (fun e => ht (i.t e)) (fun e => hf (i.f e))
end
class Sp (p : Prop) (c A d B : outParam Prop) : Prop where
  h : (c → A) → (d → B) → p
  t : c → A → p
  f : d → B → p
section
variable {A B : Prop}
instance (priority := low) {c : Prop} [Decidable c] : Sp (ite c A B) c A (¬ c) B := ⟨gp, fun h k => by rw [if_pos h]; exact k, fun h k => by rw [if_neg h]; exact k⟩
instance {c : Prop} [Decidable (¬ c)] : Sp (ite (¬ c) A B) (¬ c) A c B := ⟨gn, fun h k => by rw [if_pos h]; exact k, fun h k => by rw [if_neg (fun e => e h)]; exact k⟩
instance {b : Bool} : Sp (ite (b = true) A B) (b = true) A (b = false) B := ⟨gb, fun h k => by rw [if_pos h]; exact k, fun h k => by rw [if_neg (by rw [h]; decide)]; exact k⟩
instance {b : Bool} : Sp (ite (b = false) A B) (b = false) A (b = true) B := ⟨gf, fun h k => by rw [if_pos h]; exact k, fun h k => by rw [if_neg (by rw [h]; decide)]; exact k⟩
end
theorem gT {p c A d B : Prop} [i : Sp p c A d B] (h : A) (hc : c := by first | assumption | omega) : p := i.t hc h
theorem gF {p c A d B : Prop} [i : Sp p c A d B] (h : B) (hc : d := by first | assumption | omega) : p := i.f hc h
theorem gI {p c A d B : Prop} [i : Sp p c A d B] (h : c → A) (k : d → B) : p := i.h h k
class Us (p : Prop) (P : outParam Program) (f : outParam FuncId) (args : outParam (List AV)) (q : outParam (AV → Prop)) : Prop where
  h : ∀ v, Pure P f args v → q v → p
class Uw (p : Prop) (P : outParam Program) (f : outParam FuncId) (args : outParam (List AV)) (σ : outParam Store) (q : outParam (AV → Store → Prop)) : Prop where
  h : ∀ v τ, PCall P f args σ (fun r s' => r = v ∧ s' = τ) → q v τ → p
section
variable {P : Program} {f : FuncId} {args : List AV} {v : AV} {σ τ : Store}
instance {k : KK} {t : Tag k} : Us (PCall P f args σ (Hold k t)) P f args (fun v => k v σ) := ⟨fun _ => cu⟩
instance {k : AV → Prop} : Us (∃ v, (∀ s, PCall P f args s (Hold (fun r s' => r = v ∧ s' = s) .mk)) ∧ k v) P f args k := ⟨fun _ => cv⟩
instance {k : AV → Prop} : Us (∃ v, PCall P f args σ (Hold (fun r s' => r = v ∧ s' = σ) .mk) ∧ k v) P f args k := ⟨fun _ => cx⟩
instance {k : KK} {t : Tag k} : Uw (PCall P f args σ (Hold k t)) P f args σ k := ⟨fun _ _ => cy⟩
instance {k : AV → Store → Prop} : Uw (∃ v τ, PCall P f args σ (Hold (fun r s' => r = v ∧ s' = τ) .mk) ∧ k v τ) P f args σ k := ⟨fun _ _ => cz⟩
theorem us {p : Prop} {q : AV → Prop} [i : Us p P f args q] (h : Pure P f args v) (k : q v) : p := i.h v h k
theorem uw {p : Prop} {q : AV → Store → Prop} [i : Uw p P f args σ q] (h : PCall P f args σ (fun r s' => r = v ∧ s' = τ)) (k : q v τ) : p := i.h v τ h k
end
attribute [go_sem] Nat.reduceLT Nat.reduceLeDiff Nat.reduceEqDiff Nat.reduceAdd Nat.reduceMul Int.reduceNeg Nat.reduceBEq reduceCtorEq
attribute [go_sem ↓] reduceIte
end Go.Kern

namespace Go.Kern
open Go.RowKit
def joinT (sep : ByteArray) : List ByteArray → ByteArray
  | [] => ⟨#[]⟩
  | y :: r => sep ++ (y ++ joinT sep r)
def joinOf (sep : ByteArray) : List ByteArray → ByteArray
  | [] => ⟨#[]⟩
  | x :: r => x ++ joinT sep r
theorem data_append (a b : ByteArray) : (a ++ b).data.toList = a.data.toList ++ b.data.toList := by simp
theorem joinT_data (sep : ByteArray) : ∀ r : List ByteArray, (joinT sep r).data.toList = Lib.joinTail sep.data.toList (r.map (·.data.toList))
  | [] => rfl
  | y :: r => by
    have ih := joinT_data sep r
    simp only [joinT, data_append, ih, Lib.joinTail, List.map_cons, List.flatten_cons, List.append_assoc]
theorem joinOf_data (sep : ByteArray) : ∀ r : List ByteArray, (joinOf sep r).data.toList = Lib.join (r.map (·.data.toList)) sep.data.toList
  | [] => rfl
  | x :: r => by rw [joinOf, data_append, joinT_data, List.map_cons, Lib.join_cons]
theorem joinOf_eq (sep : ByteArray) (r : List ByteArray) : (⟨(Lib.join (r.map (·.data.toList)) sep.data.toList).toArray⟩ : ByteArray) = joinOf sep r := by
  rw [← joinOf_data]
structure JoinOk (P : Program) (f : FuncId) : Prop where
  fn : ∃ fn, P.funcs[f]? = some fn ∧ (fn.name == "runtime.NumGoroutine") = false ∧ fn.body.isNone = false
  none : ∀ (a : Option Addr) (c : Nat) (sep : ByteArray) (w : World), Calls P f #[.slice a 0 c, .string sep] w fun e w' => e = .returned (.string ⟨#[]⟩) ∧ w' = w
  some : ∀ (bk o c : Nat) (xs : List ByteArray) (sep : ByteArray) (w : World), (∀ (j : Nat) x, xs[j]? = Option.some x → w.cell? ⟨bk, o + j, Option.none⟩ = Option.some (.string x)) → bk < w.heap.size → xs.length ≤ 140737488355328 → xs.length ≤ c →
    (Lib.join (xs.map (·.data.toList)) sep.data.toList).length ≤ 140737488355328 →
    Calls P f #[.slice (Option.some ⟨bk, o, Option.none⟩) xs.length c, .string sep] w fun e w' => e = .returned (.string ⟨(Lib.join (xs.map (·.data.toList)) sep.data.toList).toArray⟩) ∧ Below w.heap.size w w'
theorem args2 {g : Gh} {a : AV} {s : ByteArray} {vs : Array Value} (hl : [a, AV.str s].length = vs.size) (hr : ∀ (i : Nat) (c : AV) (v : Value), [a, AV.str s][i]? = some c → vs[i]? = some v → R g c v) : ∃ u, vs = #[u, .string s] ∧ R g a u := by
  obtain ⟨l⟩ := vs
  match l, hl with
  | [u, x], _ =>
    have h1 := hr 1 _ _ rfl rfl
    cases h1
    exact ⟨u, rfl, hr 0 _ _ rfl rfl⟩
theorem cellsL_strs (xs : List ByteArray) : cellsL (xs.map AV.str) = xs.map AV.str := by
  induction xs with
  | nil => rfl
  | cons x l ih => simp only [cellsL, List.map_cons, List.flatMap_cons] at ih ⊢; rw [ih]; rfl
theorem join_sl {P : Program} {f : FuncId} (J : JoinOk P f) (k : SK) (xs : List ByteArray) (sep : ByteArray) (hN : xs.length ≤ 140737488355328) (hlen : (joinOf sep xs).size ≤ 140737488355328) :
    Pure P f [.sl k (xs.map AV.str), .str sep] (.str (joinOf sep xs)) := fun σ => by
  refine ⟨J.fn, fun g w vs hl hr hc => ?_⟩
  obtain ⟨u, rfl, hu⟩ := args2 hl hr
  have hj := joinOf_eq sep xs
  have hlen' : (Lib.join (xs.map (·.data.toList)) sep.data.toList).length ≤ 140737488355328 := by
    have : (joinOf sep xs).size = (joinOf sep xs).data.toList.length := by simp
    rw [← joinOf_data, ← this]; exact hlen
  generalize hq : xs.map AV.str = q at hu
  cases hu with
  | slnil =>
    have : xs = [] := List.map_eq_nil_iff.1 hq
    subst this
    exact (J.none none 0 sep w).mono fun e w' ⟨he, hw⟩ => ⟨_, he, g, _, σ, .refl g, hw ▸ hc, .str _, rfl, rfl⟩
  | sl hk hs hu hi h =>
    rename_i a cap sz us
    subst hq
    rw [List.length_map]
    by_cases h0 : xs = []
    · subst h0
      exact (J.none (some a) cap sep w).mono fun e w' ⟨he, hw⟩ => ⟨_, he, g, _, σ, .refl g, hw ▸ hc, .str _, rfl, rfl⟩
    · have hsp := hs (by simpa using h0)
      obtain ⟨bk, o, sp⟩ := a
      simp only at hsp; subst hsp
      rw [cellsL_strs] at hi h
      simp only at hi
      have hcell : ∀ (j : Nat) x, xs[j]? = some x → w.cell? ⟨bk, o + j, none⟩ = some (.string x) := fun j x hx => by
        have hj := (List.getElem?_eq_some_iff.1 hx).1
        have h1 := hc.imm _ _ _ (hi j (by simpa using hj))
        have h2 := h j (.str x) (by simp [hx])
        rw [h1]
        generalize us j = v at h2
        cases h2
        rfl
      have hbk : bk < w.heap.size := by
        obtain ⟨x, hx⟩ : ∃ x, xs[0]? = some x := by
          cases xs with
          | nil => exact absurd rfl h0
          | cons x l => exact ⟨x, rfl⟩
        exact hc.imm_lt (hi 0 (by simpa using (List.getElem?_eq_some_iff.1 hx).1))
      have hcap : xs.length ≤ cap := by
        cases k with
        | nil => exact hk.elim
        | imm => simpa [SKOk] using hk
        | full => simp [SKOk] at hk; omega
        | tip o => have := hk.1; simpa using this
      refine (J.some bk o cap xs sep w hcell hbk hN hcap hlen').mono fun e w' ⟨he, hw⟩ => ⟨_, he, g, _, σ, .refl g, hc.grow hw, .str _, ?_, rfl⟩
      rw [hj]
theorem join_ms {P : Program} {f : FuncId} (J : JoinOk P f) (o : Nat) (e : TypeId) (xs : List ByteArray) (sep : ByteArray) (hN : xs.length ≤ 140737488355328) (hlen : (joinOf sep xs).size ≤ 140737488355328) (hne : xs ≠ []) (σ : Store) (ho : σ o = some (.arr e (xs.map AV.str))) :
    PCall P f [.ms o 1 0 xs.length, .str sep] σ (fun r s => r = .str (joinOf sep xs) ∧ s = σ) := by
  refine ⟨J.fn, fun g w vs hl hr hc => ?_⟩
  obtain ⟨u, rfl, hu⟩ := args2 hl hr
  have hj := joinOf_eq sep xs
  have hlen' : (Lib.join (xs.map (·.data.toList)) sep.data.toList).length ≤ 140737488355328 := by
    have : (joinOf sep xs).size = (joinOf sep xs).data.toList.length := by simp
    rw [← joinOf_data, ← this]; exact hlen
  have hpos : 0 < xs.length := List.length_pos_iff.2 hne
  cases hu with
  | ms hb hcp hle ha =>
    rename_i b n cap a
    have ha := ha (by omega)
    subst ha
    obtain ⟨_, cells, hh, _, hcs, hrr, _⟩ := arr_at hc ho hb
    rw [cellsL_strs] at hrr
    simp only [List.length_map, Nat.mul_one] at hcs
    have hcell : ∀ (j : Nat) x, xs[j]? = some x → w.cell? ⟨b, 0 * 1 + j, none⟩ = some (.string x) := fun j x hx => by
      have hj := (List.getElem?_eq_some_iff.1 hx).1
      have hv : cells[j]? = some cells[j] := Array.getElem?_eq_getElem (by omega)
      have h2 := hrr j (.str x) _ (by simp [hx]) hv
      rw [Nat.zero_mul, Nat.zero_add]
      have h3 : w.cell? ⟨b, j, none⟩ = cells[j]? := by simp [World.cell?, hh]
      rw [h3, hv]
      generalize cells[j] = v at h2
      cases h2
      rfl
    refine (J.some b (0 * 1) cap xs sep w hcell (Array.getElem?_eq_some_iff.1 hh).1 hN hle hlen').mono fun e w' ⟨he, hw⟩ => ⟨_, he, g, _, σ, .refl g, hc.grow hw, .str _, ?_, rfl⟩
    rw [hj]
end Go.Kern

namespace Go.Kern
open Go.RowKit Go.MapKept
def bytesOf (s : ByteArray) : List UInt8 := s.data.toList
def leS (x y : List UInt8) : Bool := decide (x ≤ y)
def sortS (ks : List ByteArray) : List ByteArray := ((ks.map bytesOf).mergeSort leS).map fun b => ⟨b.toArray⟩
def keyBytes (x : MapEntry) : List UInt8 :=
  match x.key with
  | .string s => bytesOf s
  | _ => []
structure SortedOk (P : Program) (f g : FuncId) (T : TypeId) : Prop where
  fn : ∃ fn, P.funcs[f]? = some fn ∧ (fn.name == "runtime.NumGoroutine") = false ∧ fn.body.isNone = false
  sm : ∀ (Bm b : Nat) (es : Array MapEntry) (clock : Nat) (w : World), Bm < w.heap.size → w.cell? ⟨Bm, 0, none⟩ = some (.map (some b)) → w.heap[b]? = some (.map es clock) → Stamped es clock → (∀ x, x ∈ es.toList → ∃ s : ByteArray, x.key = .string s ∧ s.size ≤ maxLen) → es.size ≤ maxLen → es.size * 16 ≤ 140737488355328 →
    Calls P f #[.func (.func g) #[] #[.pointer (some ⟨Bm, 0, none⟩)]] w fun e w' => ∃ (v : Value) (ss : List (List UInt8)), e = .returned v ∧ ss.Perm (es.toList.map keyBytes) ∧ w'.ownsRow w.heap.size T 1 v ss.length ((ss.mergeSort leS).map Go.Proofs.encStr) ∧ (v = .slice none 0 0 ↔ ss = []) ∧ Below w.heap.size w w'
  nl : ∀ (Bm : Nat) (w : World), Bm < w.heap.size → w.cell? ⟨Bm, 0, none⟩ = some (.map none) →
    Calls P f #[.func (.func g) #[] #[.pointer (some ⟨Bm, 0, none⟩)]] w fun e w' => e = .returned (.slice none 0 0) ∧ Below w.heap.size w w'
theorem sortS_perm {ks : List ByteArray} {ss : List (List UInt8)} (h : ss.Perm (ks.map bytesOf)) : ss.mergeSort leS = (sortS ks).map bytesOf := by
  have h1 : ss.mergeSort leS = (ks.map bytesOf).mergeSort leS := Go.mergeSort_of_perm h
  rw [h1, sortS, List.map_map]
  have : (bytesOf ∘ fun b : List UInt8 => (⟨b.toArray⟩ : ByteArray)) = id := by funext b; simp [bytesOf]
  rw [this, List.map_id]
theorem Conc.addImmAt {g : Gh} {w w' : World} {s : Store} (h : Conc g w s) (hb : Below w.heap.size w w') {b : Nat} (hge : w.heap.size ≤ b) (cs : Array Value) (m : Nat)
    (hc : ∀ o v, o < m → cs[o]? = some v → w'.cell? ⟨b, o, none⟩ = some v) : g.Le (g.addImm b cs m) ∧ Conc (g.addImm b cs m) w' s := by
  have h' := h.grow hb
  have hle : g.Le (g.addImm b cs m) := ⟨rfl, fun b' o v hi => by
    have := h.imm_lt hi
    simp only [Gh.addImm]
    rw [if_neg (by omega)]; exact hi, fun _ _ h => h, fun _ _ _ h => h, rfl⟩
  refine ⟨hle, h'.below, fun b' o v hi => ?_, h'.loc, h'.fresh, h'.res, ?_⟩
  · simp only [Gh.addImm] at hi
    split at hi
    · rename_i e
      subst e
      split at hi
      · exact hc o v (by assumption) hi
      · cases hi
    · exact h'.imm b' o v hi
  · obtain ⟨blk0, h10, h20⟩ := h.obj
    refine ⟨blk0, fun o x hx => ⟨(h10 o x hx).1, ?_⟩, h20⟩
    have hlt := (h10 o x hx).2.lt
    exact (h10 o x hx).2.keep hle (hb.block _ hlt) (fun off => by simp only [Gh.addImm]; rw [if_neg (by omega)]) (fun _ => rfl)
theorem args1 {g : Gh} {a : AV} {vs : Array Value} (hl : [a].length = vs.size) (hr : ∀ (i : Nat) (c : AV) (v : Value), [a][i]? = some c → vs[i]? = some v → R g c v) : ∃ u, vs = #[u] ∧ R g a u := by
  obtain ⟨l⟩ := vs
  match l, hl with
  | [u], _ => exact ⟨u, rfl, hr 0 _ _ rfl rfl⟩
theorem box_at {g : Gh} {w : World} {σ : Store} (hc : Conc g w σ) {r : Nat} {T : TypeId} {x : AV} (hr : σ r = some (.arr T [x])) (h1 : x.cells = [x]) {b sz n : Nat} (hb : g.loc r = some (b, sz, n)) : ∃ v, w.cell? ⟨b, 0, none⟩ = some v ∧ R g x v ∧ b < w.heap.size := by
  obtain ⟨blk, h2, _⟩ := hc.obj
  obtain ⟨sz', cells, ⟨n', hl, hcs⟩, hh, hrow, hle, hcell, _⟩ := (h2 r _ hr).2
  rw [hb] at hl
  injection hl with hl
  injection hl with e1 e2
  injection e2 with e2 e3
  subst e1; subst e2; subst e3
  have hsz : sz = 1 := by have := hrow x (by simp); rw [h1] at this; simpa using this.symm
  subst hsz
  have hlt : 0 < cells.size := by simp at hle; omega
  refine ⟨cells[0], by simp [World.cell?, hh, hlt], hcell 0 x _ (by simp [cellsL, h1]) (Array.getElem?_eq_getElem hlt), (Array.getElem?_eq_some_iff.1 hh).1⟩
theorem sorted_keys {P : Program} {f g0 : FuncId} {T TB : TypeId} (J : SortedOk P f g0 T) {σ : Store} {r o : Nat} {l : List (ByteArray × AV)} (hr : σ r = some (.arr TB [.map o])) (ho : σ o = some (.map (l.map fun p => (.str p.1, p.2)))) (hlen : l.length ≤ 1000000) (hsz : ∀ p, p ∈ l → p.1.size ≤ 1000000) :
    PCall P f [.fn g0 [.ptr r 0 0]] σ (fun v s => (∃ k, v = .sl k ((sortS (l.map (·.1))).map AV.str)) ∧ s = σ) := by
  refine ⟨J.fn, fun g w vs hl hrr hc => ?_⟩
  obtain ⟨u, rfl, hu⟩ := args1 hl hrr
  cases hu with
  | fn hl2 h2 =>
    rename_i us
    obtain ⟨ul⟩ := us
    match ul, hl2 with
    | [p], _ =>
      have hp := h2 0 _ p rfl rfl
      cases hp with
      | ptr hb =>
        rename_i br sz n hl3
        rw [show 0 * sz + 0 = 0 by omega]
        obtain ⟨v, hv, hvr, hlt⟩ := box_at hc hr rfl hb
        cases hvr with
        | map hob =>
          rename_i b
          obtain ⟨en, ck, hh, hre, hst⟩ := map_at hc ho hob
          have hlen2 : l.length = en.size := by have := hre.1; simpa using this
          have hkeys : ∀ (i : Nat) (x : MapEntry), en.toList[i]? = some x → ∃ p, l[i]? = some p ∧ x.key = .string p.1 := fun i x hx => by
            have hi : i < l.length := by rw [hlen2]; have := (List.getElem?_eq_some_iff.1 hx).1; simpa using this
            have h3 := (hre.2 i (.str l[i].1, l[i].2) x (by rw [List.getElem?_map, List.getElem?_eq_getElem hi]; rfl) hx).1
            refine ⟨l[i], List.getElem?_eq_getElem hi, ?_⟩
            generalize x.key = kk at h3
            cases h3; rfl
          have hmem : ∀ x, x ∈ en.toList → ∃ p, p ∈ l ∧ x.key = .string p.1 := fun x hx => by
            obtain ⟨i, hi, he⟩ := List.getElem_of_mem hx
            obtain ⟨p, h3, h4⟩ := hkeys i x (by rw [List.getElem?_eq_getElem hi, he])
            exact ⟨p, List.mem_of_getElem? h3, h4⟩
          have hkb : en.toList.map keyBytes = (l.map (·.1)).map bytesOf := by
            apply List.ext_getElem?
            intro i
            simp only [List.getElem?_map]
            cases hx : en.toList[i]? with
            | none =>
              have : l[i]? = none := by rw [List.getElem?_eq_none_iff] at hx ⊢; simp at hx; omega
              simp [this]
            | some x =>
              obtain ⟨p, h3, h4⟩ := hkeys i x hx
              simp [h3, keyBytes, h4]
          have hcall := J.sm br b en ck w hlt hv hh hst (fun x hx => by
            obtain ⟨p, hp, h4⟩ := hmem x hx
            exact ⟨p.1, h4, by have := hsz p hp; unfold maxLen; omega⟩) (by unfold maxLen; omega) (by omega)
          refine hcall.mono ?_
          rintro e w' ⟨v, ss, rfl, hp, ⟨hrl, hrow⟩, hnil, hbel⟩
          rw [hkb] at hp
          have hso := sortS_perm hp
          rw [hso] at hrl hrow
          have hls : ss.length = (sortS (l.map (·.1))).length := by have := congrArg List.length hso; simpa using this
          rcases hrow with ⟨rfl, h0⟩ | ⟨gb, cap, cur, rfl, hge, hgb, hn, hcap, hcs, htk⟩
          · have hss : ss = [] := hnil.1 rfl
            have : sortS (l.map (·.1)) = [] := List.eq_nil_of_length_eq_zero (by rw [← hls, hss]; rfl)
            exact ⟨_, rfl, g, _, σ, .refl g, hc.grow hbel, .slnil, ⟨.nil, by rw [this]; rfl⟩, rfl⟩
          · obtain ⟨hle, hc2⟩ := hc.addImmAt hbel hge cur ss.length (fun o v ho hv => by simp [World.cell?, hgb, hv])
            refine ⟨_, rfl, _, _, σ, hle, hc2, ?_, ⟨.imm, rfl⟩, rfl⟩
            rw [hls]
            have hcell : ∀ i, i < (sortS (l.map (·.1))).length → cur[i]? = some (Value.string ((sortS (l.map (·.1))).getD i ⟨#[]⟩)) := fun i hi => by
              have e1 : (cur.toList.take (ss.length * 1))[i]? = cur[i]? := by
                rw [List.getElem?_take, if_pos (by omega), Array.getElem?_toList]
              rw [← e1, htk, List.getElem?_map, List.getElem?_map, List.getElem?_eq_getElem hi]
              simp [Go.Proofs.encStr, bytesOf, List.getD_eq_getElem?_getD, hi]
            have := R.sl (g := g.addImm gb cur ss.length) (k := .imm) (xs := (sortS (l.map (·.1))).map AV.str) (a := ⟨gb, 0, none⟩) (cap := cap) (sz := 1) (vs := fun i => Value.string ((sortS (l.map (·.1))).getD i ⟨#[]⟩)) (by simp only [SKOk, List.length_map]; omega) (fun _ => rfl) (fun x hx => by obtain ⟨s, _, rfl⟩ := List.mem_map.1 hx; rfl) (fun i hi => by
                rw [cellsL_strs, List.length_map] at hi
                simp only [Gh.addImm, if_pos, Nat.zero_add]
                rw [if_pos (by omega)]
                exact hcell i hi) (fun i c hc => by
                rw [cellsL_strs, List.getElem?_map] at hc
                obtain ⟨s, hs, rfl⟩ := Option.map_eq_some_iff.1 hc
                rw [List.getD_eq_getElem?_getD, hs]
                exact .str s)
            simp only [List.length_map, hls] at this
            exact this
end Go.Kern

namespace Go.Proofs.YtaealcimocpnnaaGreat
open Go.Kern Go.RowKit Go.MapKept
section
variable {α : Type} (nm : α → ByteArray)
def hasN (s : ByteArray) (l : List α) : Bool := l.any fun x => decide (nm x = s)
def addN (l : List α) (x : α) : List α := if hasN nm (nm x) l = true then l else l ++ [x]
def firsts (l : List α) : List α := l.foldl (addN nm) []
theorem firsts_succ [Inhabited α] {l : List α} {i : Nat} (h : i < l.length) : firsts nm (l.take (i + 1)) = addN nm (firsts nm (l.take i)) (l.getD i default) := by
  rw [List.take_succ_eq_append_getElem h, firsts, List.foldl_append]
  simp [firsts, List.getD_eq_getElem?_getD, h]
theorem firsts_length (l : List α) : (firsts nm l).length ≤ l.length := by
  have : ∀ (l acc : List α), (l.foldl (addN nm) acc).length ≤ acc.length + l.length := by
    intro l
    induction l with
    | nil => intro acc; simp
    | cons x l ih =>
      intro acc
      have := ih (addN nm acc x)
      have h2 : (addN nm acc x).length ≤ acc.length + 1 := by unfold addN; split <;> simp
      simp only [List.foldl_cons, List.length_cons]
      omega
  simpa [firsts] using this l []
theorem firsts_mem {l : List α} : ∀ x, x ∈ firsts nm l → x ∈ l := by
  have : ∀ (l acc : List α) (x : α), x ∈ l.foldl (addN nm) acc → x ∈ acc ∨ x ∈ l := by
    intro l
    induction l with
    | nil => intro acc x h; exact .inl h
    | cons y l ih =>
      intro acc x h
      simp only [List.foldl_cons] at h
      rcases ih _ x h with h | h
      · unfold addN at h
        split at h
        · exact .inl h
        · rcases List.mem_append.1 h with h | h
          · exact .inl h
          · rw [List.mem_singleton.1 h]; exact .inr (by simp)
      · exact .inr (List.mem_cons_of_mem _ h)
  intro x hx
  rcases this l [] x hx with h | h
  · simp at h
  · exact h
theorem hasN_iff {s : ByteArray} {l : List α} : hasN nm s l = true ↔ ∃ x, x ∈ l ∧ nm x = s := by simp [hasN]
theorem firsts_nodup (l : List α) : ((firsts nm l).map nm).Nodup := by
  have : ∀ (l acc : List α), (acc.map nm).Nodup → ((l.foldl (addN nm) acc).map nm).Nodup := by
    intro l
    induction l with
    | nil => intro acc h; exact h
    | cons x l ih =>
      intro acc h
      refine ih _ ?_
      unfold addN
      split
      · exact h
      · rename_i hn
        rw [List.map_append, List.nodup_append]
        refine ⟨h, by simp, fun a ha b hb e => ?_⟩
        simp at hb
        subst hb
        obtain ⟨y, hy, rfl⟩ := List.mem_map.1 ha
        exact hn ((hasN_iff nm).2 ⟨y, hy, e⟩)
  exact this l [] (by simp)
theorem firsts_find (l : List α) (s : ByteArray) : (firsts nm l).find? (fun x => decide (nm x = s)) = l.find? (fun x => decide (nm x = s)) := by
  have : ∀ (l acc : List α), (l.foldl (addN nm) acc).find? (fun x => decide (nm x = s)) = (acc ++ l).find? (fun x => decide (nm x = s)) := by
    intro l
    induction l with
    | nil => intro acc; simp
    | cons x l ih =>
      intro acc
      rw [List.foldl_cons, ih]
      unfold addN
      split
      · rename_i hh
        obtain ⟨y, hy, he⟩ := (hasN_iff nm).1 hh
        rw [List.find?_append, List.find?_append, List.find?_cons]
        by_cases hx : nm x = s
        · have : ∃ z, acc.find? (fun x => decide (nm x = s)) = some z := by
            cases hf : acc.find? (fun x => decide (nm x = s)) with
            | some z => exact ⟨z, rfl⟩
            | none => rw [List.find?_eq_none] at hf; have := hf y hy; simp [he, hx] at this
          obtain ⟨z, hz⟩ := this
          rw [hz]; rfl
        · simp [hx]
      · rw [List.append_assoc]; rfl
  have h2 := this l []
  simpa [firsts] using h2
variable (E : α → AV)
def entN (l : List α) : List (AV × AV) := l.map fun x => (AV.str (nm x), E x)
theorem entN_find (l : List α) (s : ByteArray) : (entN nm E l).find? (fun e => keyB (.str s) e.1) = (l.find? fun x => decide (nm x = s)).map fun x => (AV.str (nm x), E x) := by
  induction l with
  | nil => rfl
  | cons x l ih =>
    simp only [entN, List.map_cons, List.find?_cons, keyB] at ih ⊢
    by_cases h : nm x = s
    · subst h; simp
    · have h2 : ¬ s = nm x := fun e => h e.symm
      simp only [h, h2, decide_false]
      exact ih
theorem entN_set : ∀ (l : List α) (s : ByteArray) (v : AV), hasN nm s l = false → asetA (.str s) v (entN nm E l) = entN nm E l ++ [(.str s, v)]
  | [], s, v, _ => rfl
  | t :: l, s, v, h => by
    simp only [hasN, List.any_cons, Bool.or_eq_false_iff, decide_eq_false_iff_not] at h
    have ih := entN_set l s v h.2
    have h1 : keyB (.str s) (AV.str (nm t)) = false := decide_eq_false (fun e => h.1 e.symm)
    simp only [entN, List.map_cons, List.cons_append, asetA, h1] at ih ⊢
    simp [ih]
theorem entN_keys (l : List α) : keysOk .str (entN nm E l) = true := by
  simp [keysOk, entN, keyKind]
theorem entN_length (l : List α) : (entN nm E l).length = l.length := by simp [entN]
theorem entN_get (l : List α) (i : Nat) (kv : AV × AV) (h : (entN nm E l)[i]? = some kv) : ∃ x, l[i]? = some x ∧ kv = (.str (nm x), E x) := by
  simp only [entN, List.getElem?_map] at h
  obtain ⟨x, h1, h2⟩ := Option.map_eq_some_iff.1 h
  exact ⟨x, h1, h2.symm⟩
theorem find_has (l : List α) (s : ByteArray) : hasN nm s l = (l.find? fun x => decide (nm x = s)).isSome := by
  rw [Bool.eq_iff_iff, List.find?_isSome]
  simp [hasN]
end
def bornsOf (en : Array MapEntry) (vs : List Nat) : Array Nat := (vs.map fun i => ((en[i]?).map (·.born)).getD 0).toArray
theorem borns_push (en : Array MapEntry) (vs : List Nat) {i : Nat} {e : MapEntry} (h : en[i]? = some e) : (bornsOf en vs).push e.born = bornsOf en (vs ++ [i]) := by
  simp [bornsOf, h]
theorem borns_has {en : Array MapEntry} {ck : Nat} (hs : Stamped en ck) {vs : List Nat} (hv : ∀ i, i ∈ vs → i < en.size) {i : Nat} {e : MapEntry} (h : en[i]? = some e) : (bornsOf en vs).contains e.born = true ↔ i ∈ vs := by
  have hi : i < en.size := (Array.getElem?_eq_some_iff.1 h).1
  have hmm : (bornsOf en vs).contains e.born = true ↔ ∃ j, j ∈ vs ∧ ((en[j]?).map (·.born)).getD 0 = e.born := by
    rw [Array.contains_iff_mem, bornsOf, List.mem_toArray, List.mem_map]
  rw [hmm]
  constructor
  · rintro ⟨j, hj, hb⟩
    have hjl := hv j hj
    have hje : en[j]? = some en[j] := Array.getElem?_eq_getElem hjl
    rw [hje] at hb
    simp only [Option.map_some, Option.getD_some] at hb
    have hnd := hs.2.1
    have e1 : (en.toList.map (·.born))[i]? = some e.born := by simp [h]
    have e2 : (en.toList.map (·.born))[j]? = some e.born := by simp [hje, hb]
    have hij : i = j := by
      have hl : i < (en.toList.map (·.born)).length := by simpa using hi
      exact (List.getElem?_inj hl hnd).1 (e1.trans e2.symm)
    rw [hij]; exact hj
  · intro hj
    exact ⟨i, hj, by simp [h]⟩
def lessV (n : Nat) (vs : List Nat) : Nat := ((List.range n).filter fun i => !vs.contains i).length
theorem lessV_lt {n : Nat} {vs : List Nat} {i : Nat} (hi : i < n) (h : i ∉ vs) : lessV n (vs ++ [i]) < lessV n vs := by
  unfold lessV
  have : ((List.range n).filter fun j => !(vs ++ [i]).contains j) = ((List.range n).filter fun j => !vs.contains j).filter (fun j => !decide (j = i)) := by
    rw [List.filter_filter]
    apply List.filter_congr
    intro j _
    by_cases hj : j = i
    · subst hj; simp
    · simp [hj]
  rw [this, List.length_filter_lt_length_iff_exists]
  exact ⟨i, by simp [hi, h], by simp⟩
theorem all_perm {n : Nat} {vs : List Nat} (hn : vs.Nodup) (hv : ∀ i, i ∈ vs → i < n) (ha : ∀ i, i < n → i ∈ vs) : vs.Perm (List.range n) :=
  (List.perm_ext_iff_of_nodup hn List.nodup_range).2 fun i => ⟨fun h => List.mem_range.2 (hv i h), fun h => ha i (List.mem_range.1 h)⟩
theorem map_range {α β : Type} [Inhabited α] (f : α → β) (l : List α) : (List.range l.length).map (fun i => f (l.getD i default)) = l.map f := by
  apply List.ext_getElem?
  intro i
  rw [List.getElem?_map, List.getElem?_map]
  by_cases h : i < l.length
  · simp [List.getElem?_range, h, List.getD_eq_getElem?_getD]
  · simp [h]
end Go.Proofs.YtaealcimocpnnaaGreat

namespace Go.Proofs.YtaealcimocpnnaaGreat
open Go.Kern Go.RowKit Go.MapKept
section
variable {α : Type} (nm : α → ByteArray) (q : α → α → Bool)
def dX (Y : List α) (v : α) : Bool :=
  match Y.find? (fun x => decide (nm x = nm v)) with
  | none => true
  | some w => !q v w
def difD (X Y : List α) : List (ByteArray × Bool) := X.map (fun v => (nm v, dX nm q Y v)) ++ (Y.filter fun v => !hasN nm (nm v) X).map fun v => (nm v, true)
def lookD (D : List (ByteArray × Bool)) (s : ByteArray) : Bool := ((D.find? fun p => decide (p.1 = s)).map (·.2)).getD false
def difS (word : ByteArray) (a b : List α) : List ByteArray := ((sortS ((difD nm q (firsts nm a) (firsts nm b)).map (·.1))).filter fun s => lookD (difD nm q (firsts nm a) (firsts nm b)) s).map fun s => (word ++ ⟨#[32]⟩) ++ s
theorem difD_nodup {X Y : List α} (hx : (X.map nm).Nodup) (hy : (Y.map nm).Nodup) : ((difD nm q X Y).map (·.1)).Nodup := by
  rw [difD, List.map_append, List.map_map, List.map_map, List.nodup_append]
  refine ⟨hx, ?_, ?_⟩
  · have : ((Y.filter fun v => !hasN nm (nm v) X).map nm).Sublist (Y.map nm) := List.Sublist.map _ List.filter_sublist
    exact this.nodup hy
  · intro a ha b hb e
    subst e
    obtain ⟨x, h1, rfl⟩ := List.mem_map.1 ha
    obtain ⟨y, h2, h3⟩ := List.mem_map.1 hb
    have h4 := (List.mem_filter.1 h2).2
    simp only [Bool.not_eq_true', hasN, List.any_eq_false, decide_eq_true_eq] at h4
    exact h4 x h1 h3.symm
end
theorem sortS_of_perm {a b : List ByteArray} (h : a.Perm b) : sortS a = sortS b := by
  unfold sortS
  have : (a.map bytesOf).mergeSort leS = (b.map bytesOf).mergeSort leS := Go.mergeSort_of_perm (h.map bytesOf)
  rw [this]
theorem find_perm {l m : List (ByteArray × Bool)} (h : l.Perm m) (hn : (l.map (·.1)).Nodup) (s : ByteArray) : l.find? (fun p => decide (p.1 = s)) = m.find? (fun p => decide (p.1 = s)) := by
  have uniq : ∀ {l : List (ByteArray × Bool)}, (l.map (·.1)).Nodup → ∀ {p : ByteArray × Bool}, p ∈ l → p.1 = s → l.find? (fun p => decide (p.1 = s)) = some p := by
    intro l
    induction l with
    | nil => intro _ p hp; simp at hp
    | cons x l ih =>
      intro hn p hp hs
      rw [List.map_cons, List.nodup_cons] at hn
      rw [List.find?_cons]
      rcases List.mem_cons.1 hp with rfl | hp
      · simp [hs]
      · have hx : ¬ x.1 = s := fun e => hn.1 (by rw [e, ← hs]; exact List.mem_map.2 ⟨p, hp, rfl⟩)
        simp only [hx, decide_false]
        exact ih hn.2 hp hs
  have hm : (m.map (·.1)).Nodup := (h.map _).nodup_iff.1 hn
  cases hl : l.find? (fun p => decide (p.1 = s)) with
  | some p =>
    have h1 := List.mem_of_find?_eq_some hl
    have h2 := List.find?_some hl
    exact (uniq hm (h.mem_iff.1 h1) (by simpa using h2)).symm
  | none =>
    cases hm2 : m.find? (fun p => decide (p.1 = s)) with
    | none => rfl
    | some p =>
      have h1 := List.mem_of_find?_eq_some hm2
      have h2 := List.find?_some hm2
      rw [List.find?_eq_none] at hl
      exact absurd h2 (hl p (h.mem_iff.2 h1))
abbrev eD (p : ByteArray × Bool) : AV := .bool p.2
abbrev entD (D : List (ByteArray × Bool)) : List (AV × AV) := entN (fun p : ByteArray × Bool => p.1) eD D
theorem entD_find (D : List (ByteArray × Bool)) (s : ByteArray) : (entD D).find? (fun e => keyB (.str s) e.1) = (D.find? fun p => decide (p.1 = s)).map fun p => (AV.str p.1, eD p) := entN_find (fun p : ByteArray × Bool => p.1) eD D s
theorem entD_stay : ∀ (D : List (ByteArray × Bool)) (s : ByteArray) (b : Bool), (D.find? fun p => decide (p.1 = s)) = some (s, b) → asetA (.str s) (.bool b) (entD D) = entD D
  | [], s, b, h => by simp at h
  | p :: D, s, b, h => by
    rw [List.find?_cons] at h
    simp only [entD, entN, List.map_cons, asetA, keyB]
    by_cases hp : p.1 = s
    · simp only [hp, decide_true] at h ⊢
      injection h with h
      subst h
      simp
    · have hp2 : ¬ s = p.1 := fun e => hp e.symm
      simp only [hp, decide_false] at h
      have ih := entD_stay D s b h
      simp only [entD, entN] at ih
      simp only [hp2, decide_false, Bool.false_eq_true, if_false, ih]
theorem find_key {D : List (ByteArray × Bool)} {s : ByteArray} {p : ByteArray × Bool} (h : (D.find? fun p => decide (p.1 = s)) = some p) : p = (s, p.2) := by
  have := List.find?_some h
  simp at this
  rw [← this]
end Go.Proofs.YtaealcimocpnnaaGreat

namespace Go.Proofs.YtaealcimocpnnaaGreat
open Go.Kern Go.RowKit Go.MapKept
section
variable {α : Type} [Inhabited α] (nm : α → ByteArray) (q : α → α → Bool)
def dl1 (X Y : List α) (vs : List Nat) : List (ByteArray × Bool) := vs.map fun i => (nm (X.getD i default), dX nm q Y (X.getD i default))
def dl2 (X Y : List α) (L : List (ByteArray × Bool)) (ws : List Nat) : List (ByteArray × Bool) := L ++ (ws.filter fun j => !hasN nm (nm (Y.getD j default)) X).map fun j => (nm (Y.getD j default), true)
theorem name_inj {X : List α} (hn : (X.map nm).Nodup) {i j : Nat} (hi : i < X.length) (hj : j < X.length) (h : nm (X.getD i default) = nm (X.getD j default)) : i = j := by
  have e1 : (X.map nm)[i]? = some (nm (X.getD i default)) := by simp [List.getD_eq_getElem?_getD, hi]
  have e2 : (X.map nm)[j]? = some (nm (X.getD i default)) := by rw [h]; simp [List.getD_eq_getElem?_getD, hj]
  exact (List.getElem?_inj (by simpa using hi) hn).1 (e1.trans e2.symm)
theorem dl1_new {X Y : List α} (hn : (X.map nm).Nodup) {vs : List Nat} (hv : ∀ i, i ∈ vs → i < X.length) {i : Nat} (hi : i < X.length) (h : i ∉ vs) : hasN (fun p : ByteArray × Bool => p.1) (nm (X.getD i default)) (dl1 nm q X Y vs) = false := by
  simp only [hasN, dl1, List.any_eq_false, decide_eq_true_eq]
  intro p hp e
  obtain ⟨j, hj, rfl⟩ := List.mem_map.1 hp
  have := name_inj nm hn (hv j hj) hi e
  subst this
  exact h hj
theorem dl1_succ (X Y : List α) (vs : List Nat) (i : Nat) : entD (dl1 nm q X Y (vs ++ [i])) = entD (dl1 nm q X Y vs) ++ [(.str (nm (X.getD i default)), .bool (dX nm q Y (X.getD i default)))] := by
  simp [dl1, entD, entN]
theorem dl1_perm {X Y : List α} {vs : List Nat} (hp : vs.Perm (List.range X.length)) : (dl1 nm q X Y vs).Perm (X.map fun v => (nm v, dX nm q Y v)) := by
  have := hp.map fun i => (nm (X.getD i default), dX nm q Y (X.getD i default))
  rw [map_range (fun v => (nm v, dX nm q Y v)) X] at this
  exact this
theorem dl2_perm {X Y : List α} {L : List (ByteArray × Bool)} (hL : L.Perm (X.map fun v => (nm v, dX nm q Y v))) {ws : List Nat} (hp : ws.Perm (List.range Y.length)) : (dl2 nm X Y L ws).Perm (difD nm q X Y) := by
  unfold dl2 difD
  refine hL.append ?_
  have h1 := (hp.filter fun j => !hasN nm (nm (Y.getD j default)) X).map fun j => (nm (Y.getD j default), true)
  refine h1.trans (List.Perm.of_eq ?_)
  have h2 : ∀ (Y : List α) (f : α → Bool), ((List.range Y.length).filter fun j => f (Y.getD j default)).map (fun j => (nm (Y.getD j default), true)) = (Y.filter f).map fun v => (nm v, true) := by
    intro Y f
    have h3 : (List.range Y.length).map (fun j => Y.getD j default) = Y := by
      have := map_range (fun v : α => v) Y
      simpa using this
    have h4 : (Y.filter f) = ((List.range Y.length).filter fun j => f (Y.getD j default)).map fun j => Y.getD j default := by
      conv => lhs; rw [← h3]
      rw [List.filter_map]; rfl
    rw [h4, List.map_map]; rfl
  exact h2 Y fun v => !hasN nm (nm v) X
theorem dl2_stay {X Y : List α} (hn : (X.map nm).Nodup) {L : List (ByteArray × Bool)} (hL : L.Perm (X.map fun v => (nm v, dX nm q Y v))) {ws : List Nat} {j : Nat} (hh : hasN nm (nm (Y.getD j default)) X = true) :
    dl2 nm X Y L (ws ++ [j]) = dl2 nm X Y L ws ∧ ∃ b, (dl2 nm X Y L ws).find? (fun p => decide (p.1 = nm (Y.getD j default))) = some (nm (Y.getD j default), b) := by
  refine ⟨by simp only [dl2, List.filter_append, List.filter_cons, List.filter_nil, hh, Bool.not_true, Bool.false_eq_true, if_false, List.append_nil], ?_⟩
  obtain ⟨x, hx, he⟩ := (hasN_iff nm).1 hh
  have hm : (nm x, dX nm q Y x) ∈ L := hL.mem_iff.2 (List.mem_map.2 ⟨x, hx, rfl⟩)
  cases hf : L.find? (fun p => decide (p.1 = nm (Y.getD j default))) with
  | some p =>
    refine ⟨p.2, ?_⟩
    rw [dl2, List.find?_append, hf]
    have := find_key hf
    simp only [Option.some_or]
    rw [← this]
  | none =>
    rw [List.find?_eq_none] at hf
    exact absurd (decide_eq_true he) (hf _ hm)
theorem dl2_new {X Y : List α} (hy : (Y.map nm).Nodup) {L : List (ByteArray × Bool)} (hL : L.Perm (X.map fun v => (nm v, dX nm q Y v))) {ws : List Nat} (hw : ∀ i, i ∈ ws → i < Y.length) {j : Nat} (hj : j < Y.length) (h : j ∉ ws) (hh : hasN nm (nm (Y.getD j default)) X = false) :
    hasN (fun p : ByteArray × Bool => p.1) (nm (Y.getD j default)) (dl2 nm X Y L ws) = false ∧ entD (dl2 nm X Y L (ws ++ [j])) = entD (dl2 nm X Y L ws) ++ [(.str (nm (Y.getD j default)), .bool true)] := by
  refine ⟨?_, by simp only [dl2, List.filter_append, List.filter_cons, List.filter_nil, hh, Bool.not_false, if_true, List.map_append, List.map_cons, List.map_nil, entD, entN, List.append_assoc]⟩
  simp only [hasN, dl2, List.any_eq_false, decide_eq_true_eq]
  intro p hp e
  rcases List.mem_append.1 hp with hp | hp
  · obtain ⟨x, hx, rfl⟩ := List.mem_map.1 (hL.mem_iff.1 hp)
    simp only [hasN, List.any_eq_false, decide_eq_true_eq] at hh
    exact hh x hx e
  · obtain ⟨i, hi, rfl⟩ := List.mem_map.1 hp
    have hi := (List.mem_filter.1 hi).1
    have := name_inj nm hy (hw i hi) hj e
    subst this
    exact h hi
theorem has_find {l : List α} {s : ByteArray} (h : hasN nm s l = true) : ∃ y, l.find? (fun x => decide (nm x = s)) = some y := by
  rw [find_has] at h; exact Option.isSome_iff_exists.1 h
theorem no_find {l : List α} {s : ByteArray} (h : hasN nm s l = false) : l.find? (fun x => decide (nm x = s)) = none := by
  rw [find_has] at h
  cases hf : l.find? (fun x => decide (nm x = s)) with
  | none => rfl
  | some y => rw [hf] at h; cases h
end
theorem sortS_perm' (ks : List ByteArray) : (sortS ks).Perm ks := by
  unfold sortS
  have h := (List.mergeSort_perm (ks.map bytesOf) leS).map fun b : List UInt8 => (⟨b.toArray⟩ : ByteArray)
  refine h.trans (List.Perm.of_eq ?_)
  rw [List.map_map]
  have : ((fun b : List UInt8 => (⟨b.toArray⟩ : ByteArray)) ∘ bytesOf) = id := by funext b; simp [bytesOf]
  rw [this, List.map_id]
end Go.Proofs.YtaealcimocpnnaaGreat

namespace Go.Proofs.YtaealcimocpnnaaGreat
open Go.Kern
theorem ty1 : tyOf Tryz.prog 1 = { ok := true, kind := .func, size := 1, bytes := 8, elem := 0, key := 0, fields := [], zero := some (.nilfn), kk := .func } := by kernel_rfl
theorem ty2 : tyOf Tryz.prog 2 = { ok := true, kind := (.int .i64), size := 1, bytes := 8, elem := 0, key := 0, fields := [], zero := some (.int .i64 0), kk := (.int .i64) } := by kernel_rfl
theorem ty3 : tyOf Tryz.prog 3 = { ok := true, kind := (.int .i64), size := 1, bytes := 8, elem := 0, key := 0, fields := [], zero := some (.int .i64 0), kk := (.int .i64) } := by kernel_rfl
theorem ty4 : tyOf Tryz.prog 4 = { ok := true, kind := .bool, size := 1, bytes := 1, elem := 0, key := 0, fields := [], zero := some (.bool false), kk := .bool } := by kernel_rfl
theorem ty5 : tyOf Tryz.prog 5 = { ok := true, kind := (.int .u8), size := 1, bytes := 1, elem := 0, key := 0, fields := [], zero := some (.int .u8 0), kk := (.int .u8) } := by kernel_rfl
theorem ty9 : tyOf Tryz.prog 9 = { ok := true, kind := .str, size := 1, bytes := 16, elem := 0, key := 0, fields := [], zero := some (.str ⟨#[]⟩), kk := .str } := by kernel_rfl
theorem ty12 : tyOf Tryz.prog 12 = { ok := true, kind := (.int .u64), size := 1, bytes := 8, elem := 0, key := 0, fields := [], zero := some (.int .u64 0), kk := (.int .u64) } := by kernel_rfl
theorem ty21 : tyOf Tryz.prog 21 = { ok := true, kind := (.int .i32), size := 1, bytes := 4, elem := 0, key := 0, fields := [], zero := some (.int .i32 0), kk := (.int .i32) } := by kernel_rfl
theorem ty22 : tyOf Tryz.prog 22 = { ok := true, kind := .slice, size := 1, bytes := 24, elem := 41, key := 0, fields := [], zero := some (.sl .nil []), kk := .slice } := by kernel_rfl
theorem ty23 : tyOf Tryz.prog 23 = { ok := true, kind := .slice, size := 1, bytes := 24, elem := 44, key := 0, fields := [], zero := some (.sl .nil []), kk := .slice } := by kernel_rfl
theorem ty24 : tyOf Tryz.prog 24 = { ok := true, kind := .slice, size := 1, bytes := 24, elem := 59, key := 0, fields := [], zero := some (.sl .nil []), kk := .slice } := by kernel_rfl
theorem ty25 : tyOf Tryz.prog 25 = { ok := true, kind := .struct, size := 3, bytes := 72, elem := 0, key := 0, fields := [(0, 1, false, 22), (1, 1, false, 23), (2, 1, false, 24)], zero := some (.agg [.sl .nil [], .sl .nil [], .sl .nil []]), kk := .struct } := by kernel_rfl
theorem ty26 : tyOf Tryz.prog 26 = { ok := true, kind := .struct, size := 3, bytes := 72, elem := 0, key := 0, fields := [(0, 1, false, 22), (1, 1, false, 23), (2, 1, false, 24)], zero := some (.agg [.sl .nil [], .sl .nil [], .sl .nil []]), kk := .struct } := by kernel_rfl
theorem ty27 : tyOf Tryz.prog 27 = { ok := true, kind := .func, size := 1, bytes := 8, elem := 0, key := 0, fields := [], zero := some (.nilfn), kk := .func } := by kernel_rfl
theorem ty28 : tyOf Tryz.prog 28 = { ok := true, kind := .func, size := 1, bytes := 8, elem := 0, key := 0, fields := [], zero := some (.nilfn), kk := .func } := by kernel_rfl
theorem ty29 : tyOf Tryz.prog 29 = { ok := true, kind := (.int .i64), size := 1, bytes := 8, elem := 0, key := 0, fields := [], zero := some (.int .i64 0), kk := (.int .i64) } := by kernel_rfl
theorem ty31 : tyOf Tryz.prog 31 = { ok := true, kind := .func, size := 1, bytes := 8, elem := 0, key := 0, fields := [], zero := some (.nilfn), kk := .func } := by kernel_rfl
theorem ty32 : tyOf Tryz.prog 32 = { ok := true, kind := .func, size := 1, bytes := 8, elem := 0, key := 0, fields := [], zero := some (.nilfn), kk := .func } := by kernel_rfl
theorem ty33 : tyOf Tryz.prog 33 = { ok := true, kind := .slice, size := 1, bytes := 24, elem := 9, key := 0, fields := [], zero := some (.sl .nil []), kk := .slice } := by kernel_rfl
theorem ty34 : tyOf Tryz.prog 34 = { ok := true, kind := .func, size := 1, bytes := 8, elem := 0, key := 0, fields := [], zero := some (.nilfn), kk := .func } := by kernel_rfl
theorem ty35 : tyOf Tryz.prog 35 = { ok := true, kind := .func, size := 1, bytes := 8, elem := 0, key := 0, fields := [], zero := some (.nilfn), kk := .func } := by kernel_rfl
theorem ty36 : tyOf Tryz.prog 36 = { ok := true, kind := .func, size := 1, bytes := 8, elem := 0, key := 0, fields := [], zero := some (.nilfn), kk := .func } := by kernel_rfl
theorem ty37 : tyOf Tryz.prog 37 = { ok := true, kind := .func, size := 1, bytes := 8, elem := 0, key := 0, fields := [], zero := some (.nilfn), kk := .func } := by kernel_rfl
theorem ty38 : tyOf Tryz.prog 38 = { ok := true, kind := .func, size := 1, bytes := 8, elem := 0, key := 0, fields := [], zero := some (.nilfn), kk := .func } := by kernel_rfl
theorem ty39 : tyOf Tryz.prog 39 = { ok := true, kind := .slice, size := 1, bytes := 24, elem := 96, key := 0, fields := [], zero := some (.sl .nil []), kk := .slice } := by kernel_rfl
theorem ty40 : tyOf Tryz.prog 40 = { ok := true, kind := .struct, size := 2, bytes := 40, elem := 0, key := 0, fields := [(0, 1, false, 9), (1, 1, false, 39)], zero := some (.agg [.str ⟨#[]⟩, .sl .nil []]), kk := .struct } := by kernel_rfl
theorem ty41 : tyOf Tryz.prog 41 = { ok := true, kind := .struct, size := 2, bytes := 40, elem := 0, key := 0, fields := [(0, 1, false, 9), (1, 1, false, 39)], zero := some (.agg [.str ⟨#[]⟩, .sl .nil []]), kk := .struct } := by kernel_rfl
theorem ty42 : tyOf Tryz.prog 42 = { ok := true, kind := .slice, size := 1, bytes := 24, elem := 54, key := 0, fields := [], zero := some (.sl .nil []), kk := .slice } := by kernel_rfl
theorem ty43 : tyOf Tryz.prog 43 = { ok := true, kind := .struct, size := 2, bytes := 40, elem := 0, key := 0, fields := [(0, 1, false, 9), (1, 1, false, 42)], zero := some (.agg [.str ⟨#[]⟩, .sl .nil []]), kk := .struct } := by kernel_rfl
theorem ty44 : tyOf Tryz.prog 44 = { ok := true, kind := .struct, size := 2, bytes := 40, elem := 0, key := 0, fields := [(0, 1, false, 9), (1, 1, false, 42)], zero := some (.agg [.str ⟨#[]⟩, .sl .nil []]), kk := .struct } := by kernel_rfl
theorem ty45 : tyOf Tryz.prog 45 = { ok := true, kind := .struct, size := 2, bytes := 16, elem := 0, key := 0, fields := [(0, 1, false, 3), (1, 1, false, 3)], zero := some (.agg [.int .i64 0, .int .i64 0]), kk := .wide [.int .i64, .int .i64] } := by kernel_rfl
theorem ty46 : tyOf Tryz.prog 46 = { ok := true, kind := .struct, size := 2, bytes := 16, elem := 0, key := 0, fields := [(0, 1, false, 3), (1, 1, false, 3)], zero := some (.agg [.int .i64 0, .int .i64 0]), kk := .wide [.int .i64, .int .i64] } := by kernel_rfl
theorem ty47 : tyOf Tryz.prog 47 = { ok := true, kind := .struct, size := 4, bytes := 48, elem := 0, key := 0, fields := [(0, 1, false, 9), (1, 1, false, 9), (2, 2, true, 46)], zero := some (.agg [.str ⟨#[]⟩, .str ⟨#[]⟩, .int .i64 0, .int .i64 0]), kk := .wide [.str, .str, .int .i64, .int .i64] } := by kernel_rfl
theorem ty48 : tyOf Tryz.prog 48 = { ok := true, kind := .struct, size := 4, bytes := 48, elem := 0, key := 0, fields := [(0, 1, false, 9), (1, 1, false, 9), (2, 2, true, 46)], zero := some (.agg [.str ⟨#[]⟩, .str ⟨#[]⟩, .int .i64 0, .int .i64 0]), kk := .wide [.str, .str, .int .i64, .int .i64] } := by kernel_rfl
theorem ty49 : tyOf Tryz.prog 49 = { ok := true, kind := .slice, size := 1, bytes := 24, elem := 46, key := 0, fields := [], zero := some (.sl .nil []), kk := .slice } := by kernel_rfl
theorem ty50 : tyOf Tryz.prog 50 = { ok := true, kind := .slice, size := 1, bytes := 24, elem := 3, key := 0, fields := [], zero := some (.sl .nil []), kk := .slice } := by kernel_rfl
theorem ty51 : tyOf Tryz.prog 51 = { ok := true, kind := .struct, size := 7, bytes := 104, elem := 0, key := 0, fields := [(0, 1, false, 3), (1, 1, false, 3), (2, 1, false, 3), (3, 1, false, 49), (4, 1, false, 49), (5, 1, false, 4), (6, 1, false, 50)], zero := some (.agg [.int .i64 0, .int .i64 0, .int .i64 0, .sl .nil [], .sl .nil [], .bool false, .sl .nil []]), kk := .struct } := by kernel_rfl
theorem ty52 : tyOf Tryz.prog 52 = { ok := true, kind := .struct, size := 7, bytes := 104, elem := 0, key := 0, fields := [(0, 1, false, 3), (1, 1, false, 3), (2, 1, false, 3), (3, 1, false, 49), (4, 1, false, 49), (5, 1, false, 4), (6, 1, false, 50)], zero := some (.agg [.int .i64 0, .int .i64 0, .int .i64 0, .sl .nil [], .sl .nil [], .bool false, .sl .nil []]), kk := .struct } := by kernel_rfl
theorem ty53 : tyOf Tryz.prog 53 = { ok := true, kind := .struct, size := 13, bytes := 168, elem := 0, key := 0, fields := [(0, 1, false, 3), (1, 1, false, 4), (2, 4, true, 48), (6, 7, true, 52)], zero := some (.agg [.int .i64 0, .bool false, .str ⟨#[]⟩, .str ⟨#[]⟩, .int .i64 0, .int .i64 0, .int .i64 0, .int .i64 0, .int .i64 0, .sl .nil [], .sl .nil [], .bool false, .sl .nil []]), kk := .struct } := by kernel_rfl
theorem ty54 : tyOf Tryz.prog 54 = { ok := true, kind := .struct, size := 13, bytes := 168, elem := 0, key := 0, fields := [(0, 1, false, 3), (1, 1, false, 4), (2, 4, true, 48), (6, 7, true, 52)], zero := some (.agg [.int .i64 0, .bool false, .str ⟨#[]⟩, .str ⟨#[]⟩, .int .i64 0, .int .i64 0, .int .i64 0, .int .i64 0, .int .i64 0, .sl .nil [], .sl .nil [], .bool false, .sl .nil []]), kk := .struct } := by kernel_rfl
theorem ty55 : tyOf Tryz.prog 55 = { ok := true, kind := .slice, size := 1, bytes := 24, elem := 94, key := 0, fields := [], zero := some (.sl .nil []), kk := .slice } := by kernel_rfl
theorem ty56 : tyOf Tryz.prog 56 = { ok := true, kind := .slice, size := 1, bytes := 24, elem := 61, key := 0, fields := [], zero := some (.sl .nil []), kk := .slice } := by kernel_rfl
theorem ty57 : tyOf Tryz.prog 57 = { ok := true, kind := .slice, size := 1, bytes := 24, elem := 63, key := 0, fields := [], zero := some (.sl .nil []), kk := .slice } := by kernel_rfl
theorem ty58 : tyOf Tryz.prog 58 = { ok := true, kind := .struct, size := 6, bytes := 104, elem := 0, key := 0, fields := [(0, 1, false, 9), (1, 1, false, 3), (2, 1, false, 3), (3, 1, false, 55), (4, 1, false, 56), (5, 1, false, 57)], zero := some (.agg [.str ⟨#[]⟩, .int .i64 0, .int .i64 0, .sl .nil [], .sl .nil [], .sl .nil []]), kk := .struct } := by kernel_rfl
theorem ty59 : tyOf Tryz.prog 59 = { ok := true, kind := .struct, size := 6, bytes := 104, elem := 0, key := 0, fields := [(0, 1, false, 9), (1, 1, false, 3), (2, 1, false, 3), (3, 1, false, 55), (4, 1, false, 56), (5, 1, false, 57)], zero := some (.agg [.str ⟨#[]⟩, .int .i64 0, .int .i64 0, .sl .nil [], .sl .nil [], .sl .nil []]), kk := .struct } := by kernel_rfl
theorem ty60 : tyOf Tryz.prog 60 = { ok := true, kind := .struct, size := 4, bytes := 56, elem := 0, key := 0, fields := [(0, 1, false, 9), (1, 1, false, 9), (2, 1, false, 9), (3, 1, false, 4)], zero := some (.agg [.str ⟨#[]⟩, .str ⟨#[]⟩, .str ⟨#[]⟩, .bool false]), kk := .wide [.str, .str, .str, .bool] } := by kernel_rfl
theorem ty61 : tyOf Tryz.prog 61 = { ok := true, kind := .struct, size := 4, bytes := 56, elem := 0, key := 0, fields := [(0, 1, false, 9), (1, 1, false, 9), (2, 1, false, 9), (3, 1, false, 4)], zero := some (.agg [.str ⟨#[]⟩, .str ⟨#[]⟩, .str ⟨#[]⟩, .bool false]), kk := .wide [.str, .str, .str, .bool] } := by kernel_rfl
theorem ty62 : tyOf Tryz.prog 62 = { ok := true, kind := .struct, size := 2, bytes := 24, elem := 0, key := 0, fields := [(0, 1, false, 9), (1, 1, false, 3)], zero := some (.agg [.str ⟨#[]⟩, .int .i64 0]), kk := .wide [.str, .int .i64] } := by kernel_rfl
theorem ty63 : tyOf Tryz.prog 63 = { ok := true, kind := .struct, size := 2, bytes := 24, elem := 0, key := 0, fields := [(0, 1, false, 9), (1, 1, false, 3)], zero := some (.agg [.str ⟨#[]⟩, .int .i64 0]), kk := .wide [.str, .int .i64] } := by kernel_rfl
theorem ty64 : tyOf Tryz.prog 64 = { ok := true, kind := .ptr, size := 1, bytes := 8, elem := 70, key := 0, fields := [], zero := some (.nilp), kk := .ptr } := by kernel_rfl
theorem ty65 : tyOf Tryz.prog 65 = { ok := true, kind := .ptr, size := 1, bytes := 8, elem := 68, key := 0, fields := [], zero := some (.nilp), kk := .ptr } := by kernel_rfl
theorem ty66 : tyOf Tryz.prog 66 = { ok := true, kind := .slice, size := 1, bytes := 24, elem := 5, key := 0, fields := [], zero := some (.sl .nil []), kk := .slice } := by kernel_rfl
theorem ty67 : tyOf Tryz.prog 67 = { ok := true, kind := .struct, size := 2, bytes := 32, elem := 0, key := 0, fields := [(0, 1, false, 65), (1, 1, false, 66)], zero := some (.agg [.nilp, .sl .nil []]), kk := .struct } := by kernel_rfl
theorem ty68 : tyOf Tryz.prog 68 = { ok := true, kind := .struct, size := 2, bytes := 32, elem := 0, key := 0, fields := [(0, 1, false, 65), (1, 1, false, 66)], zero := some (.agg [.nilp, .sl .nil []]), kk := .struct } := by kernel_rfl
theorem ty69 : tyOf Tryz.prog 69 = { ok := true, kind := .struct, size := 2, bytes := 32, elem := 0, key := 0, fields := [(0, 2, true, 68)], zero := some (.agg [.nilp, .sl .nil []]), kk := .struct } := by kernel_rfl
theorem ty70 : tyOf Tryz.prog 70 = { ok := true, kind := .struct, size := 2, bytes := 32, elem := 0, key := 0, fields := [(0, 2, true, 68)], zero := some (.agg [.nilp, .sl .nil []]), kk := .struct } := by kernel_rfl
theorem ty71 : tyOf Tryz.prog 71 = { ok := true, kind := .func, size := 1, bytes := 8, elem := 0, key := 0, fields := [], zero := some (.nilfn), kk := .func } := by kernel_rfl
theorem ty72 : tyOf Tryz.prog 72 = { ok := true, kind := .func, size := 1, bytes := 8, elem := 0, key := 0, fields := [], zero := some (.nilfn), kk := .func } := by kernel_rfl
theorem ty73 : tyOf Tryz.prog 73 = { ok := true, kind := .func, size := 1, bytes := 8, elem := 0, key := 0, fields := [], zero := some (.nilfn), kk := .func } := by kernel_rfl
theorem ty74 : tyOf Tryz.prog 74 = { ok := true, kind := .func, size := 1, bytes := 8, elem := 0, key := 0, fields := [], zero := some (.nilfn), kk := .func } := by kernel_rfl
theorem ty75 : tyOf Tryz.prog 75 = { ok := true, kind := .func, size := 1, bytes := 8, elem := 0, key := 0, fields := [], zero := some (.nilfn), kk := .func } := by kernel_rfl
theorem ty76 : tyOf Tryz.prog 76 = { ok := true, kind := .func, size := 1, bytes := 8, elem := 0, key := 0, fields := [], zero := some (.nilfn), kk := .func } := by kernel_rfl
theorem ty77 : tyOf Tryz.prog 77 = { ok := true, kind := .func, size := 1, bytes := 8, elem := 0, key := 0, fields := [], zero := some (.nilfn), kk := .func } := by kernel_rfl
theorem ty78 : tyOf Tryz.prog 78 = { ok := true, kind := .func, size := 1, bytes := 8, elem := 0, key := 0, fields := [], zero := some (.nilfn), kk := .func } := by kernel_rfl
theorem ty79 : tyOf Tryz.prog 79 = { ok := true, kind := .func, size := 1, bytes := 8, elem := 0, key := 0, fields := [], zero := some (.nilfn), kk := .func } := by kernel_rfl
theorem ty80 : tyOf Tryz.prog 80 = { ok := true, kind := .func, size := 1, bytes := 8, elem := 0, key := 0, fields := [], zero := some (.nilfn), kk := .func } := by kernel_rfl
theorem ty81 : tyOf Tryz.prog 81 = { ok := true, kind := .func, size := 1, bytes := 8, elem := 0, key := 0, fields := [], zero := some (.nilfn), kk := .func } := by kernel_rfl
theorem ty82 : tyOf Tryz.prog 82 = { ok := true, kind := .func, size := 1, bytes := 8, elem := 0, key := 0, fields := [], zero := some (.nilfn), kk := .func } := by kernel_rfl
theorem ty83 : tyOf Tryz.prog 83 = { ok := true, kind := .func, size := 1, bytes := 8, elem := 0, key := 0, fields := [], zero := some (.nilfn), kk := .func } := by kernel_rfl
theorem ty84 : tyOf Tryz.prog 84 = { ok := true, kind := .func, size := 1, bytes := 8, elem := 0, key := 0, fields := [], zero := some (.nilfn), kk := .func } := by kernel_rfl
theorem ty85 : tyOf Tryz.prog 85 = { ok := true, kind := .func, size := 1, bytes := 8, elem := 0, key := 0, fields := [], zero := some (.nilfn), kk := .func } := by kernel_rfl
theorem ty86 : tyOf Tryz.prog 86 = { ok := true, kind := .func, size := 1, bytes := 8, elem := 0, key := 0, fields := [], zero := some (.nilfn), kk := .func } := by kernel_rfl
theorem ty87 : tyOf Tryz.prog 87 = { ok := true, kind := .func, size := 1, bytes := 8, elem := 0, key := 0, fields := [], zero := some (.nilfn), kk := .func } := by kernel_rfl
theorem ty88 : tyOf Tryz.prog 88 = { ok := true, kind := .func, size := 1, bytes := 8, elem := 0, key := 0, fields := [], zero := some (.nilfn), kk := .func } := by kernel_rfl
theorem ty89 : tyOf Tryz.prog 89 = { ok := true, kind := .func, size := 1, bytes := 8, elem := 0, key := 0, fields := [], zero := some (.nilfn), kk := .func } := by kernel_rfl
theorem ty90 : tyOf Tryz.prog 90 = { ok := true, kind := .func, size := 1, bytes := 8, elem := 0, key := 0, fields := [], zero := some (.nilfn), kk := .func } := by kernel_rfl
theorem ty91 : tyOf Tryz.prog 91 = { ok := true, kind := .func, size := 1, bytes := 8, elem := 0, key := 0, fields := [], zero := some (.nilfn), kk := .func } := by kernel_rfl
theorem ty92 : tyOf Tryz.prog 92 = { ok := true, kind := (.int .u32), size := 1, bytes := 4, elem := 0, key := 0, fields := [], zero := some (.int .u32 0), kk := (.int .u32) } := by kernel_rfl
theorem ty93 : tyOf Tryz.prog 93 = { ok := true, kind := .struct, size := 2, bytes := 16, elem := 0, key := 0, fields := [(0, 1, false, 92), (1, 1, false, 3)], zero := some (.agg [.int .u32 0, .int .i64 0]), kk := .wide [.int .u32, .int .i64] } := by kernel_rfl
theorem ty94 : tyOf Tryz.prog 94 = { ok := true, kind := .struct, size := 2, bytes := 16, elem := 0, key := 0, fields := [(0, 1, false, 92), (1, 1, false, 3)], zero := some (.agg [.int .u32 0, .int .i64 0]), kk := .wide [.int .u32, .int .i64] } := by kernel_rfl
theorem ty95 : tyOf Tryz.prog 95 = { ok := true, kind := .struct, size := 5, bytes := 40, elem := 0, key := 0, fields := [(0, 2, true, 94), (2, 1, false, 3), (3, 1, false, 3), (4, 1, false, 4)], zero := some (.agg [.int .u32 0, .int .i64 0, .int .i64 0, .int .i64 0, .bool false]), kk := .wide [.int .u32, .int .i64, .int .i64, .int .i64, .bool] } := by kernel_rfl
theorem ty96 : tyOf Tryz.prog 96 = { ok := true, kind := .struct, size := 5, bytes := 40, elem := 0, key := 0, fields := [(0, 2, true, 94), (2, 1, false, 3), (3, 1, false, 3), (4, 1, false, 4)], zero := some (.agg [.int .u32 0, .int .i64 0, .int .i64 0, .int .i64 0, .bool false]), kk := .wide [.int .u32, .int .i64, .int .i64, .int .i64, .bool] } := by kernel_rfl
theorem ty97 : tyOf Tryz.prog 97 = { ok := true, kind := .func, size := 1, bytes := 8, elem := 0, key := 0, fields := [], zero := some (.nilfn), kk := .func } := by kernel_rfl
theorem ty98 : tyOf Tryz.prog 98 = { ok := true, kind := .func, size := 1, bytes := 8, elem := 0, key := 0, fields := [], zero := some (.nilfn), kk := .func } := by kernel_rfl
theorem ty99 : tyOf Tryz.prog 99 = { ok := true, kind := .func, size := 1, bytes := 8, elem := 0, key := 0, fields := [], zero := some (.nilfn), kk := .func } := by kernel_rfl
theorem ty100 : tyOf Tryz.prog 100 = { ok := true, kind := .func, size := 1, bytes := 8, elem := 0, key := 0, fields := [], zero := some (.nilfn), kk := .func } := by kernel_rfl
theorem ty101 : tyOf Tryz.prog 101 = { ok := true, kind := .func, size := 1, bytes := 8, elem := 0, key := 0, fields := [], zero := some (.nilfn), kk := .func } := by kernel_rfl
theorem ty102 : tyOf Tryz.prog 102 = { ok := true, kind := .func, size := 1, bytes := 8, elem := 0, key := 0, fields := [], zero := some (.nilfn), kk := .func } := by kernel_rfl
theorem ty103 : tyOf Tryz.prog 103 = { ok := true, kind := .func, size := 1, bytes := 8, elem := 0, key := 0, fields := [], zero := some (.nilfn), kk := .func } := by kernel_rfl
theorem ty104 : tyOf Tryz.prog 104 = { ok := true, kind := .func, size := 1, bytes := 8, elem := 0, key := 0, fields := [], zero := some (.nilfn), kk := .func } := by kernel_rfl
theorem ty105 : tyOf Tryz.prog 105 = { ok := true, kind := .func, size := 1, bytes := 8, elem := 0, key := 0, fields := [], zero := some (.nilfn), kk := .func } := by kernel_rfl
theorem ty106 : tyOf Tryz.prog 106 = { ok := true, kind := .func, size := 1, bytes := 8, elem := 0, key := 0, fields := [], zero := some (.nilfn), kk := .func } := by kernel_rfl
theorem ty107 : tyOf Tryz.prog 107 = { ok := true, kind := .func, size := 1, bytes := 8, elem := 0, key := 0, fields := [], zero := some (.nilfn), kk := .func } := by kernel_rfl
theorem ty108 : tyOf Tryz.prog 108 = { ok := true, kind := .func, size := 1, bytes := 8, elem := 0, key := 0, fields := [], zero := some (.nilfn), kk := .func } := by kernel_rfl
theorem ty109 : tyOf Tryz.prog 109 = { ok := true, kind := .func, size := 1, bytes := 8, elem := 0, key := 0, fields := [], zero := some (.nilfn), kk := .func } := by kernel_rfl
theorem ty110 : tyOf Tryz.prog 110 = { ok := true, kind := .func, size := 1, bytes := 8, elem := 0, key := 0, fields := [], zero := some (.nilfn), kk := .func } := by kernel_rfl
theorem ty111 : tyOf Tryz.prog 111 = { ok := true, kind := .func, size := 1, bytes := 8, elem := 0, key := 0, fields := [], zero := some (.nilfn), kk := .func } := by kernel_rfl
theorem ty112 : tyOf Tryz.prog 112 = { ok := true, kind := .func, size := 1, bytes := 8, elem := 0, key := 0, fields := [], zero := some (.nilfn), kk := .func } := by kernel_rfl
theorem ty113 : tyOf Tryz.prog 113 = { ok := true, kind := .func, size := 1, bytes := 8, elem := 0, key := 0, fields := [], zero := some (.nilfn), kk := .func } := by kernel_rfl
theorem ty114 : tyOf Tryz.prog 114 = { ok := true, kind := .ptr, size := 1, bytes := 8, elem := 5, key := 0, fields := [], zero := some (.nilp), kk := .ptr } := by kernel_rfl
theorem ty115 : tyOf Tryz.prog 115 = { ok := true, kind := .func, size := 1, bytes := 8, elem := 0, key := 0, fields := [], zero := some (.nilfn), kk := .func } := by kernel_rfl
theorem ty116 : tyOf Tryz.prog 116 = { ok := true, kind := .func, size := 1, bytes := 8, elem := 0, key := 0, fields := [], zero := some (.nilfn), kk := .func } := by kernel_rfl
theorem ty117 : tyOf Tryz.prog 117 = { ok := true, kind := .func, size := 1, bytes := 8, elem := 0, key := 0, fields := [], zero := some (.nilfn), kk := .func } := by kernel_rfl
theorem ty118 : tyOf Tryz.prog 118 = { ok := true, kind := .func, size := 1, bytes := 8, elem := 0, key := 0, fields := [], zero := some (.nilfn), kk := .func } := by kernel_rfl
theorem ty119 : tyOf Tryz.prog 119 = { ok := true, kind := .func, size := 1, bytes := 8, elem := 0, key := 0, fields := [], zero := some (.nilfn), kk := .func } := by kernel_rfl
theorem ty120 : tyOf Tryz.prog 120 = { ok := true, kind := .func, size := 1, bytes := 8, elem := 0, key := 0, fields := [], zero := some (.nilfn), kk := .func } := by kernel_rfl
theorem ty121 : tyOf Tryz.prog 121 = { ok := true, kind := .func, size := 1, bytes := 8, elem := 0, key := 0, fields := [], zero := some (.nilfn), kk := .func } := by kernel_rfl
theorem ty122 : tyOf Tryz.prog 122 = { ok := true, kind := .func, size := 1, bytes := 8, elem := 0, key := 0, fields := [], zero := some (.nilfn), kk := .func } := by kernel_rfl
theorem ty123 : tyOf Tryz.prog 123 = { ok := true, kind := .func, size := 1, bytes := 8, elem := 0, key := 0, fields := [], zero := some (.nilfn), kk := .func } := by kernel_rfl
theorem ty124 : tyOf Tryz.prog 124 = { ok := true, kind := .func, size := 1, bytes := 8, elem := 0, key := 0, fields := [], zero := some (.nilfn), kk := .func } := by kernel_rfl
theorem ty125 : tyOf Tryz.prog 125 = { ok := true, kind := .func, size := 1, bytes := 8, elem := 0, key := 0, fields := [], zero := some (.nilfn), kk := .func } := by kernel_rfl
theorem ty126 : tyOf Tryz.prog 126 = { ok := true, kind := .func, size := 1, bytes := 8, elem := 0, key := 0, fields := [], zero := some (.nilfn), kk := .func } := by kernel_rfl
theorem ty127 : tyOf Tryz.prog 127 = { ok := true, kind := .func, size := 1, bytes := 8, elem := 0, key := 0, fields := [], zero := some (.nilfn), kk := .func } := by kernel_rfl
theorem ty128 : tyOf Tryz.prog 128 = { ok := true, kind := .func, size := 1, bytes := 8, elem := 0, key := 0, fields := [], zero := some (.nilfn), kk := .func } := by kernel_rfl
theorem ty129 : tyOf Tryz.prog 129 = { ok := true, kind := .func, size := 1, bytes := 8, elem := 0, key := 0, fields := [], zero := some (.nilfn), kk := .func } := by kernel_rfl
theorem ty130 : tyOf Tryz.prog 130 = { ok := true, kind := .func, size := 1, bytes := 8, elem := 0, key := 0, fields := [], zero := some (.nilfn), kk := .func } := by kernel_rfl
theorem ty131 : tyOf Tryz.prog 131 = { ok := true, kind := .func, size := 1, bytes := 8, elem := 0, key := 0, fields := [], zero := some (.nilfn), kk := .func } := by kernel_rfl
theorem ty132 : tyOf Tryz.prog 132 = { ok := true, kind := .func, size := 1, bytes := 8, elem := 0, key := 0, fields := [], zero := some (.nilfn), kk := .func } := by kernel_rfl
theorem ty133 : tyOf Tryz.prog 133 = { ok := true, kind := .func, size := 1, bytes := 8, elem := 0, key := 0, fields := [], zero := some (.nilfn), kk := .func } := by kernel_rfl
theorem ty134 : tyOf Tryz.prog 134 = { ok := true, kind := .func, size := 1, bytes := 8, elem := 0, key := 0, fields := [], zero := some (.nilfn), kk := .func } := by kernel_rfl
theorem ty135 : tyOf Tryz.prog 135 = { ok := true, kind := .func, size := 1, bytes := 8, elem := 0, key := 0, fields := [], zero := some (.nilfn), kk := .func } := by kernel_rfl
theorem ty136 : tyOf Tryz.prog 136 = { ok := true, kind := .func, size := 1, bytes := 8, elem := 0, key := 0, fields := [], zero := some (.nilfn), kk := .func } := by kernel_rfl
theorem ty137 : tyOf Tryz.prog 137 = { ok := true, kind := .func, size := 1, bytes := 8, elem := 0, key := 0, fields := [], zero := some (.nilfn), kk := .func } := by kernel_rfl
theorem ty138 : tyOf Tryz.prog 138 = { ok := true, kind := .func, size := 1, bytes := 8, elem := 0, key := 0, fields := [], zero := some (.nilfn), kk := .func } := by kernel_rfl
theorem ty139 : tyOf Tryz.prog 139 = { ok := true, kind := .func, size := 1, bytes := 8, elem := 0, key := 0, fields := [], zero := some (.nilfn), kk := .func } := by kernel_rfl
theorem ty140 : tyOf Tryz.prog 140 = { ok := true, kind := .func, size := 1, bytes := 8, elem := 0, key := 0, fields := [], zero := some (.nilfn), kk := .func } := by kernel_rfl
theorem ty141 : tyOf Tryz.prog 141 = { ok := true, kind := .map, size := 1, bytes := 8, elem := 4, key := 9, fields := [], zero := some (.nilmap), kk := .map } := by kernel_rfl
theorem ty142 : tyOf Tryz.prog 142 = { ok := true, kind := .func, size := 1, bytes := 8, elem := 0, key := 0, fields := [], zero := some (.nilfn), kk := .func } := by kernel_rfl
theorem ty143 : tyOf Tryz.prog 143 = { ok := true, kind := .func, size := 1, bytes := 8, elem := 0, key := 0, fields := [], zero := some (.nilfn), kk := .func } := by kernel_rfl
theorem ty144 : tyOf Tryz.prog 144 = { ok := true, kind := .func, size := 1, bytes := 8, elem := 0, key := 0, fields := [], zero := some (.nilfn), kk := .func } := by kernel_rfl
theorem ty145 : tyOf Tryz.prog 145 = { ok := true, kind := .func, size := 1, bytes := 8, elem := 0, key := 0, fields := [], zero := some (.nilfn), kk := .func } := by kernel_rfl
theorem ty146 : tyOf Tryz.prog 146 = { ok := true, kind := .slice, size := 1, bytes := 24, elem := 33, key := 0, fields := [], zero := some (.sl .nil []), kk := .slice } := by kernel_rfl
theorem ty147 : tyOf Tryz.prog 147 = { ok := true, kind := .func, size := 1, bytes := 8, elem := 0, key := 0, fields := [], zero := some (.nilfn), kk := .func } := by kernel_rfl
theorem ty148 : tyOf Tryz.prog 148 = { ok := true, kind := .map, size := 1, bytes := 8, elem := 41, key := 9, fields := [], zero := some (.nilmap), kk := .map } := by kernel_rfl
theorem ty150 : tyOf Tryz.prog 150 = { ok := true, kind := .func, size := 1, bytes := 8, elem := 0, key := 0, fields := [], zero := some (.nilfn), kk := .func } := by kernel_rfl
theorem ty151 : tyOf Tryz.prog 151 = { ok := true, kind := .func, size := 1, bytes := 8, elem := 0, key := 0, fields := [], zero := some (.nilfn), kk := .func } := by kernel_rfl
theorem ty152 : tyOf Tryz.prog 152 = { ok := true, kind := .func, size := 1, bytes := 8, elem := 0, key := 0, fields := [], zero := some (.nilfn), kk := .func } := by kernel_rfl
theorem ty153 : tyOf Tryz.prog 153 = { ok := true, kind := .func, size := 1, bytes := 8, elem := 0, key := 0, fields := [], zero := some (.nilfn), kk := .func } := by kernel_rfl
theorem ty154 : tyOf Tryz.prog 154 = { ok := true, kind := .func, size := 1, bytes := 8, elem := 0, key := 0, fields := [], zero := some (.nilfn), kk := .func } := by kernel_rfl
theorem ty155 : tyOf Tryz.prog 155 = { ok := true, kind := .map, size := 1, bytes := 8, elem := 44, key := 9, fields := [], zero := some (.nilmap), kk := .map } := by kernel_rfl
theorem ty157 : tyOf Tryz.prog 157 = { ok := true, kind := .func, size := 1, bytes := 8, elem := 0, key := 0, fields := [], zero := some (.nilfn), kk := .func } := by kernel_rfl
theorem ty158 : tyOf Tryz.prog 158 = { ok := true, kind := .func, size := 1, bytes := 8, elem := 0, key := 0, fields := [], zero := some (.nilfn), kk := .func } := by kernel_rfl
theorem ty159 : tyOf Tryz.prog 159 = { ok := true, kind := .func, size := 1, bytes := 8, elem := 0, key := 0, fields := [], zero := some (.nilfn), kk := .func } := by kernel_rfl
theorem ty160 : tyOf Tryz.prog 160 = { ok := true, kind := .map, size := 1, bytes := 8, elem := 59, key := 9, fields := [], zero := some (.nilmap), kk := .map } := by kernel_rfl
theorem ty162 : tyOf Tryz.prog 162 = { ok := true, kind := .func, size := 1, bytes := 8, elem := 0, key := 0, fields := [], zero := some (.nilfn), kk := .func } := by kernel_rfl
theorem ty163 : tyOf Tryz.prog 163 = { ok := true, kind := .func, size := 1, bytes := 8, elem := 0, key := 0, fields := [], zero := some (.nilfn), kk := .func } := by kernel_rfl
theorem ty164 : tyOf Tryz.prog 164 = { ok := true, kind := .func, size := 1, bytes := 8, elem := 0, key := 0, fields := [], zero := some (.nilfn), kk := .func } := by kernel_rfl
theorem ty166 : tyOf Tryz.prog 166 = { ok := true, kind := .iface, size := 1, bytes := 16, elem := 0, key := 0, fields := [], zero := some (.nilifc), kk := .iface } := by kernel_rfl
theorem ty168 : tyOf Tryz.prog 168 = { ok := true, kind := .func, size := 1, bytes := 8, elem := 0, key := 0, fields := [], zero := some (.nilfn), kk := .func } := by kernel_rfl
theorem ty169 : tyOf Tryz.prog 169 = { ok := true, kind := .func, size := 1, bytes := 8, elem := 0, key := 0, fields := [], zero := some (.nilfn), kk := .func } := by kernel_rfl
theorem ty170 : tyOf Tryz.prog 170 = { ok := true, kind := .func, size := 1, bytes := 8, elem := 0, key := 0, fields := [], zero := some (.nilfn), kk := .func } := by kernel_rfl
theorem ty171 : tyOf Tryz.prog 171 = { ok := true, kind := .func, size := 1, bytes := 8, elem := 0, key := 0, fields := [], zero := some (.nilfn), kk := .func } := by kernel_rfl
theorem ty172 : tyOf Tryz.prog 172 = { ok := true, kind := .func, size := 1, bytes := 8, elem := 0, key := 0, fields := [], zero := some (.nilfn), kk := .func } := by kernel_rfl
theorem ty173 : tyOf Tryz.prog 173 = { ok := true, kind := .func, size := 1, bytes := 8, elem := 0, key := 0, fields := [], zero := some (.nilfn), kk := .func } := by kernel_rfl
theorem ty174 : tyOf Tryz.prog 174 = { ok := true, kind := .func, size := 1, bytes := 8, elem := 0, key := 0, fields := [], zero := some (.nilfn), kk := .func } := by kernel_rfl
theorem ty175 : tyOf Tryz.prog 175 = { ok := true, kind := .func, size := 1, bytes := 8, elem := 0, key := 0, fields := [], zero := some (.nilfn), kk := .func } := by kernel_rfl
theorem ty176 : tyOf Tryz.prog 176 = { ok := true, kind := .slice, size := 1, bytes := 24, elem := 178, key := 0, fields := [], zero := some (.sl .nil []), kk := .slice } := by kernel_rfl
theorem ty177 : tyOf Tryz.prog 177 = { ok := true, kind := .struct, size := 6, bytes := 88, elem := 0, key := 0, fields := [(0, 1, false, 3), (1, 1, false, 4), (2, 1, false, 4), (3, 1, false, 50), (4, 1, false, 50), (5, 1, false, 176)], zero := some (.agg [.int .i64 0, .bool false, .bool false, .sl .nil [], .sl .nil [], .sl .nil []]), kk := .struct } := by kernel_rfl
theorem ty178 : tyOf Tryz.prog 178 = { ok := true, kind := .struct, size := 6, bytes := 88, elem := 0, key := 0, fields := [(0, 1, false, 3), (1, 1, false, 4), (2, 1, false, 4), (3, 1, false, 50), (4, 1, false, 50), (5, 1, false, 176)], zero := some (.agg [.int .i64 0, .bool false, .bool false, .sl .nil [], .sl .nil [], .sl .nil []]), kk := .struct } := by kernel_rfl
theorem ty179 : tyOf Tryz.prog 179 = { ok := true, kind := .struct, size := 8, bytes := 96, elem := 0, key := 0, fields := [(0, 1, false, 4), (1, 1, false, 4), (2, 6, true, 178)], zero := some (.agg [.bool false, .bool false, .int .i64 0, .bool false, .bool false, .sl .nil [], .sl .nil [], .sl .nil []]), kk := .struct } := by kernel_rfl
theorem ty180 : tyOf Tryz.prog 180 = { ok := true, kind := .struct, size := 8, bytes := 96, elem := 0, key := 0, fields := [(0, 1, false, 4), (1, 1, false, 4), (2, 6, true, 178)], zero := some (.agg [.bool false, .bool false, .int .i64 0, .bool false, .bool false, .sl .nil [], .sl .nil [], .sl .nil []]), kk := .struct } := by kernel_rfl
theorem ty182 : tyOf Tryz.prog 182 = { ok := true, kind := .func, size := 1, bytes := 8, elem := 0, key := 0, fields := [], zero := some (.nilfn), kk := .func } := by kernel_rfl
theorem ty183 : tyOf Tryz.prog 183 = { ok := true, kind := .func, size := 1, bytes := 8, elem := 0, key := 0, fields := [], zero := some (.nilfn), kk := .func } := by kernel_rfl
theorem ty184 : tyOf Tryz.prog 184 = { ok := true, kind := .func, size := 1, bytes := 8, elem := 0, key := 0, fields := [], zero := some (.nilfn), kk := .func } := by kernel_rfl
theorem ty185 : tyOf Tryz.prog 185 = { ok := true, kind := .func, size := 1, bytes := 8, elem := 0, key := 0, fields := [], zero := some (.nilfn), kk := .func } := by kernel_rfl
theorem ty186 : tyOf Tryz.prog 186 = { ok := true, kind := .func, size := 1, bytes := 8, elem := 0, key := 0, fields := [], zero := some (.nilfn), kk := .func } := by kernel_rfl
theorem ty187 : tyOf Tryz.prog 187 = { ok := true, kind := .ptr, size := 1, bytes := 8, elem := 217, key := 0, fields := [], zero := some (.nilp), kk := .ptr } := by kernel_rfl
theorem ty189 : tyOf Tryz.prog 189 = { ok := true, kind := .func, size := 1, bytes := 8, elem := 0, key := 0, fields := [], zero := some (.nilfn), kk := .func } := by kernel_rfl
theorem ty190 : tyOf Tryz.prog 190 = { ok := true, kind := .func, size := 1, bytes := 8, elem := 0, key := 0, fields := [], zero := some (.nilfn), kk := .func } := by kernel_rfl
theorem ty191 : tyOf Tryz.prog 191 = { ok := true, kind := .func, size := 1, bytes := 8, elem := 0, key := 0, fields := [], zero := some (.nilfn), kk := .func } := by kernel_rfl
theorem ty192 : tyOf Tryz.prog 192 = { ok := true, kind := .func, size := 1, bytes := 8, elem := 0, key := 0, fields := [], zero := some (.nilfn), kk := .func } := by kernel_rfl
theorem ty193 : tyOf Tryz.prog 193 = { ok := true, kind := .func, size := 1, bytes := 8, elem := 0, key := 0, fields := [], zero := some (.nilfn), kk := .func } := by kernel_rfl
theorem ty194 : tyOf Tryz.prog 194 = { ok := true, kind := .func, size := 1, bytes := 8, elem := 0, key := 0, fields := [], zero := some (.nilfn), kk := .func } := by kernel_rfl
theorem ty195 : tyOf Tryz.prog 195 = { ok := true, kind := .func, size := 1, bytes := 8, elem := 0, key := 0, fields := [], zero := some (.nilfn), kk := .func } := by kernel_rfl
theorem ty196 : tyOf Tryz.prog 196 = { ok := true, kind := .func, size := 1, bytes := 8, elem := 0, key := 0, fields := [], zero := some (.nilfn), kk := .func } := by kernel_rfl
theorem ty197 : tyOf Tryz.prog 197 = { ok := true, kind := .func, size := 1, bytes := 8, elem := 0, key := 0, fields := [], zero := some (.nilfn), kk := .func } := by kernel_rfl
theorem ty198 : tyOf Tryz.prog 198 = { ok := true, kind := .func, size := 1, bytes := 8, elem := 0, key := 0, fields := [], zero := some (.nilfn), kk := .func } := by kernel_rfl
theorem ty199 : tyOf Tryz.prog 199 = { ok := true, kind := .func, size := 1, bytes := 8, elem := 0, key := 0, fields := [], zero := some (.nilfn), kk := .func } := by kernel_rfl
theorem ty200 : tyOf Tryz.prog 200 = { ok := true, kind := (.int .u64), size := 1, bytes := 8, elem := 0, key := 0, fields := [], zero := some (.int .u64 0), kk := (.int .u64) } := by kernel_rfl
theorem ty202 : tyOf Tryz.prog 202 = { ok := true, kind := .func, size := 1, bytes := 8, elem := 0, key := 0, fields := [], zero := some (.nilfn), kk := .func } := by kernel_rfl
theorem ty203 : tyOf Tryz.prog 203 = { ok := true, kind := .func, size := 1, bytes := 8, elem := 0, key := 0, fields := [], zero := some (.nilfn), kk := .func } := by kernel_rfl
theorem ty204 : tyOf Tryz.prog 204 = { ok := true, kind := .func, size := 1, bytes := 8, elem := 0, key := 0, fields := [], zero := some (.nilfn), kk := .func } := by kernel_rfl
theorem ty205 : tyOf Tryz.prog 205 = { ok := true, kind := .func, size := 1, bytes := 8, elem := 0, key := 0, fields := [], zero := some (.nilfn), kk := .func } := by kernel_rfl
theorem ty206 : tyOf Tryz.prog 206 = { ok := true, kind := .func, size := 1, bytes := 8, elem := 0, key := 0, fields := [], zero := some (.nilfn), kk := .func } := by kernel_rfl
theorem ty207 : tyOf Tryz.prog 207 = { ok := true, kind := .func, size := 1, bytes := 8, elem := 0, key := 0, fields := [], zero := some (.nilfn), kk := .func } := by kernel_rfl
theorem ty209 : tyOf Tryz.prog 209 = { ok := true, kind := .func, size := 1, bytes := 8, elem := 0, key := 0, fields := [], zero := some (.nilfn), kk := .func } := by kernel_rfl
theorem ty210 : tyOf Tryz.prog 210 = { ok := true, kind := .func, size := 1, bytes := 8, elem := 0, key := 0, fields := [], zero := some (.nilfn), kk := .func } := by kernel_rfl
theorem ty211 : tyOf Tryz.prog 211 = { ok := true, kind := .ptr, size := 1, bytes := 8, elem := 213, key := 0, fields := [], zero := some (.nilp), kk := .ptr } := by kernel_rfl
theorem ty212 : tyOf Tryz.prog 212 = { ok := true, kind := .struct, size := 3, bytes := 32, elem := 0, key := 0, fields := [(0, 1, false, 9), (1, 1, false, 3), (2, 1, false, 29)], zero := some (.agg [.str ⟨#[]⟩, .int .i64 0, .int .i64 0]), kk := .wide [.str, .int .i64, .int .i64] } := by kernel_rfl
theorem ty213 : tyOf Tryz.prog 213 = { ok := true, kind := .struct, size := 3, bytes := 32, elem := 0, key := 0, fields := [(0, 1, false, 9), (1, 1, false, 3), (2, 1, false, 29)], zero := some (.agg [.str ⟨#[]⟩, .int .i64 0, .int .i64 0]), kk := .wide [.str, .int .i64, .int .i64] } := by kernel_rfl
theorem ty214 : tyOf Tryz.prog 214 = { ok := true, kind := .func, size := 1, bytes := 8, elem := 0, key := 0, fields := [], zero := some (.nilfn), kk := .func } := by kernel_rfl
theorem ty215 : tyOf Tryz.prog 215 = { ok := true, kind := .ptr, size := 1, bytes := 8, elem := 240, key := 0, fields := [], zero := some (.nilp), kk := .ptr } := by kernel_rfl
theorem ty216 : tyOf Tryz.prog 216 = { ok := true, kind := .struct, size := 3, bytes := 16, elem := 0, key := 0, fields := [(0, 1, false, 4), (1, 1, false, 4), (2, 1, false, 215)], zero := some (.agg [.bool false, .bool false, .nilp]), kk := .struct } := by kernel_rfl
theorem ty217 : tyOf Tryz.prog 217 = { ok := true, kind := .struct, size := 3, bytes := 16, elem := 0, key := 0, fields := [(0, 1, false, 4), (1, 1, false, 4), (2, 1, false, 215)], zero := some (.agg [.bool false, .bool false, .nilp]), kk := .struct } := by kernel_rfl
theorem ty218 : tyOf Tryz.prog 218 = { ok := true, kind := .func, size := 1, bytes := 8, elem := 0, key := 0, fields := [], zero := some (.nilfn), kk := .func } := by kernel_rfl
theorem ty219 : tyOf Tryz.prog 219 = { ok := true, kind := .func, size := 1, bytes := 8, elem := 0, key := 0, fields := [], zero := some (.nilfn), kk := .func } := by kernel_rfl
theorem ty220 : tyOf Tryz.prog 220 = { ok := true, kind := .func, size := 1, bytes := 8, elem := 0, key := 0, fields := [], zero := some (.nilfn), kk := .func } := by kernel_rfl
theorem ty221 : tyOf Tryz.prog 221 = { ok := true, kind := .func, size := 1, bytes := 8, elem := 0, key := 0, fields := [], zero := some (.nilfn), kk := .func } := by kernel_rfl
theorem ty222 : tyOf Tryz.prog 222 = { ok := true, kind := .func, size := 1, bytes := 8, elem := 0, key := 0, fields := [], zero := some (.nilfn), kk := .func } := by kernel_rfl
theorem ty223 : tyOf Tryz.prog 223 = { ok := true, kind := .func, size := 1, bytes := 8, elem := 0, key := 0, fields := [], zero := some (.nilfn), kk := .func } := by kernel_rfl
theorem ty224 : tyOf Tryz.prog 224 = { ok := true, kind := .func, size := 1, bytes := 8, elem := 0, key := 0, fields := [], zero := some (.nilfn), kk := .func } := by kernel_rfl
theorem ty225 : tyOf Tryz.prog 225 = { ok := true, kind := .func, size := 1, bytes := 8, elem := 0, key := 0, fields := [], zero := some (.nilfn), kk := .func } := by kernel_rfl
theorem ty226 : tyOf Tryz.prog 226 = { ok := true, kind := .func, size := 1, bytes := 8, elem := 0, key := 0, fields := [], zero := some (.nilfn), kk := .func } := by kernel_rfl
theorem ty227 : tyOf Tryz.prog 227 = { ok := true, kind := .func, size := 1, bytes := 8, elem := 0, key := 0, fields := [], zero := some (.nilfn), kk := .func } := by kernel_rfl
theorem ty228 : tyOf Tryz.prog 228 = { ok := true, kind := .func, size := 1, bytes := 8, elem := 0, key := 0, fields := [], zero := some (.nilfn), kk := .func } := by kernel_rfl
theorem ty229 : tyOf Tryz.prog 229 = { ok := true, kind := .func, size := 1, bytes := 8, elem := 0, key := 0, fields := [], zero := some (.nilfn), kk := .func } := by kernel_rfl
theorem ty230 : tyOf Tryz.prog 230 = { ok := true, kind := .uptr, size := 1, bytes := 8, elem := 0, key := 0, fields := [], zero := some (.nilp), kk := .uptr } := by kernel_rfl
theorem ty231 : tyOf Tryz.prog 231 = { ok := true, kind := .func, size := 1, bytes := 8, elem := 0, key := 0, fields := [], zero := some (.nilfn), kk := .func } := by kernel_rfl
theorem ty233 : tyOf Tryz.prog 233 = { ok := true, kind := .func, size := 1, bytes := 8, elem := 0, key := 0, fields := [], zero := some (.nilfn), kk := .func } := by kernel_rfl
theorem ty234 : tyOf Tryz.prog 234 = { ok := true, kind := (.int .u64), size := 1, bytes := 8, elem := 0, key := 0, fields := [], zero := some (.int .u64 0), kk := (.int .u64) } := by kernel_rfl
theorem ty236 : tyOf Tryz.prog 236 = { ok := true, kind := .func, size := 1, bytes := 8, elem := 0, key := 0, fields := [], zero := some (.nilfn), kk := .func } := by kernel_rfl
theorem ty237 : tyOf Tryz.prog 237 = { ok := true, kind := .slice, size := 1, bytes := 24, elem := 265, key := 0, fields := [], zero := some (.sl .nil []), kk := .slice } := by kernel_rfl
theorem ty238 : tyOf Tryz.prog 238 = { ok := true, kind := .slice, size := 1, bytes := 24, elem := 215, key := 0, fields := [], zero := some (.sl .nil []), kk := .slice } := by kernel_rfl
theorem ty239 : tyOf Tryz.prog 239 = { ok := true, kind := .struct, size := 5, bytes := 64, elem := 0, key := 0, fields := [(0, 1, false, 3), (1, 1, false, 4), (2, 1, false, 4), (3, 1, false, 237), (4, 1, false, 238)], zero := some (.agg [.int .i64 0, .bool false, .bool false, .sl .nil [], .sl .nil []]), kk := .struct } := by kernel_rfl
theorem ty240 : tyOf Tryz.prog 240 = { ok := true, kind := .struct, size := 5, bytes := 64, elem := 0, key := 0, fields := [(0, 1, false, 3), (1, 1, false, 4), (2, 1, false, 4), (3, 1, false, 237), (4, 1, false, 238)], zero := some (.agg [.int .i64 0, .bool false, .bool false, .sl .nil [], .sl .nil []]), kk := .struct } := by kernel_rfl
theorem ty241 : tyOf Tryz.prog 241 = { ok := true, kind := .func, size := 1, bytes := 8, elem := 0, key := 0, fields := [], zero := some (.nilfn), kk := .func } := by kernel_rfl
theorem ty242 : tyOf Tryz.prog 242 = { ok := true, kind := .func, size := 1, bytes := 8, elem := 0, key := 0, fields := [], zero := some (.nilfn), kk := .func } := by kernel_rfl
theorem ty243 : tyOf Tryz.prog 243 = { ok := true, kind := .func, size := 1, bytes := 8, elem := 0, key := 0, fields := [], zero := some (.nilfn), kk := .func } := by kernel_rfl
theorem ty244 : tyOf Tryz.prog 244 = { ok := true, kind := .func, size := 1, bytes := 8, elem := 0, key := 0, fields := [], zero := some (.nilfn), kk := .func } := by kernel_rfl
theorem ty245 : tyOf Tryz.prog 245 = { ok := true, kind := (.int .i64), size := 1, bytes := 8, elem := 0, key := 0, fields := [], zero := some (.int .i64 0), kk := (.int .i64) } := by kernel_rfl
theorem ty247 : tyOf Tryz.prog 247 = { ok := true, kind := .func, size := 1, bytes := 8, elem := 0, key := 0, fields := [], zero := some (.nilfn), kk := .func } := by kernel_rfl
theorem ty248 : tyOf Tryz.prog 248 = { ok := true, kind := .func, size := 1, bytes := 8, elem := 0, key := 0, fields := [], zero := some (.nilfn), kk := .func } := by kernel_rfl
theorem ty249 : tyOf Tryz.prog 249 = { ok := true, kind := .func, size := 1, bytes := 8, elem := 0, key := 0, fields := [], zero := some (.nilfn), kk := .func } := by kernel_rfl
theorem ty251 : tyOf Tryz.prog 251 = { ok := true, kind := .func, size := 1, bytes := 8, elem := 0, key := 0, fields := [], zero := some (.nilfn), kk := .func } := by kernel_rfl
theorem ty252 : tyOf Tryz.prog 252 = { ok := true, kind := .func, size := 1, bytes := 8, elem := 0, key := 0, fields := [], zero := some (.nilfn), kk := .func } := by kernel_rfl
theorem ty253 : tyOf Tryz.prog 253 = { ok := true, kind := .func, size := 1, bytes := 8, elem := 0, key := 0, fields := [], zero := some (.nilfn), kk := .func } := by kernel_rfl
theorem ty254 : tyOf Tryz.prog 254 = { ok := true, kind := .func, size := 1, bytes := 8, elem := 0, key := 0, fields := [], zero := some (.nilfn), kk := .func } := by kernel_rfl
theorem ty255 : tyOf Tryz.prog 255 = { ok := true, kind := .func, size := 1, bytes := 8, elem := 0, key := 0, fields := [], zero := some (.nilfn), kk := .func } := by kernel_rfl
theorem ty257 : tyOf Tryz.prog 257 = { ok := true, kind := .func, size := 1, bytes := 8, elem := 0, key := 0, fields := [], zero := some (.nilfn), kk := .func } := by kernel_rfl
theorem ty258 : tyOf Tryz.prog 258 = { ok := true, kind := (.int .u64), size := 1, bytes := 8, elem := 0, key := 0, fields := [], zero := some (.int .u64 0), kk := (.int .u64) } := by kernel_rfl
theorem ty259 : tyOf Tryz.prog 259 = { ok := true, kind := .func, size := 1, bytes := 8, elem := 0, key := 0, fields := [], zero := some (.nilfn), kk := .func } := by kernel_rfl
theorem ty260 : tyOf Tryz.prog 260 = { ok := true, kind := .func, size := 1, bytes := 8, elem := 0, key := 0, fields := [], zero := some (.nilfn), kk := .func } := by kernel_rfl
theorem ty261 : tyOf Tryz.prog 261 = { ok := true, kind := .func, size := 1, bytes := 8, elem := 0, key := 0, fields := [], zero := some (.nilfn), kk := .func } := by kernel_rfl
theorem ty262 : tyOf Tryz.prog 262 = { ok := true, kind := .ptr, size := 1, bytes := 8, elem := 3, key := 0, fields := [], zero := some (.nilp), kk := .ptr } := by kernel_rfl
theorem ty263 : tyOf Tryz.prog 263 = { ok := true, kind := .func, size := 1, bytes := 8, elem := 0, key := 0, fields := [], zero := some (.nilfn), kk := .func } := by kernel_rfl
theorem ty264 : tyOf Tryz.prog 264 = { ok := true, kind := .struct, size := 2, bytes := 16, elem := 0, key := 0, fields := [(0, 1, false, 3), (1, 1, false, 3)], zero := some (.agg [.int .i64 0, .int .i64 0]), kk := .wide [.int .i64, .int .i64] } := by kernel_rfl
theorem ty265 : tyOf Tryz.prog 265 = { ok := true, kind := .struct, size := 2, bytes := 16, elem := 0, key := 0, fields := [(0, 1, false, 3), (1, 1, false, 3)], zero := some (.agg [.int .i64 0, .int .i64 0]), kk := .wide [.int .i64, .int .i64] } := by kernel_rfl
theorem ty266 : tyOf Tryz.prog 266 = { ok := true, kind := .func, size := 1, bytes := 8, elem := 0, key := 0, fields := [], zero := some (.nilfn), kk := .func } := by kernel_rfl
theorem ty267 : tyOf Tryz.prog 267 = { ok := true, kind := .ptr, size := 1, bytes := 8, elem := 258, key := 0, fields := [], zero := some (.nilp), kk := .ptr } := by kernel_rfl
theorem ty269 : tyOf Tryz.prog 269 = { ok := true, kind := .func, size := 1, bytes := 8, elem := 0, key := 0, fields := [], zero := some (.nilfn), kk := .func } := by kernel_rfl
theorem ty277 : tyOf Tryz.prog 277 = { ok := true, kind := .func, size := 1, bytes := 8, elem := 0, key := 0, fields := [], zero := some (.nilfn), kk := .func } := by kernel_rfl
attribute [go_sem] ty1 ty2 ty3 ty4 ty5 ty9 ty12 ty21 ty22 ty23 ty24 ty25 ty26 ty27 ty28 ty29 ty31 ty32 ty33 ty34 ty35 ty36 ty37 ty38 ty39 ty40 ty41 ty42 ty43 ty44 ty45 ty46 ty47 ty48 ty49 ty50 ty51 ty52 ty53 ty54 ty55 ty56 ty57 ty58 ty59 ty60 ty61 ty62 ty63 ty64 ty65 ty66 ty67 ty68 ty69 ty70 ty71 ty72 ty73 ty74 ty75 ty76 ty77 ty78 ty79 ty80 ty81 ty82 ty83 ty84 ty85 ty86 ty87 ty88 ty89 ty90 ty91 ty92 ty93 ty94 ty95 ty96 ty97 ty98 ty99 ty100 ty101 ty102 ty103 ty104 ty105 ty106 ty107 ty108 ty109 ty110 ty111 ty112 ty113 ty114 ty115 ty116 ty117 ty118 ty119 ty120 ty121 ty122 ty123 ty124 ty125 ty126 ty127 ty128 ty129 ty130 ty131 ty132 ty133 ty134 ty135 ty136 ty137 ty138 ty139 ty140 ty141 ty142 ty143 ty144 ty145 ty146 ty147 ty148 ty150 ty151 ty152 ty153 ty154 ty155 ty157 ty158 ty159 ty160 ty162 ty163 ty164 ty166 ty168 ty169 ty170 ty171 ty172 ty173 ty174 ty175 ty176 ty177 ty178 ty179 ty180 ty182 ty183 ty184 ty185 ty186 ty187 ty189 ty190 ty191 ty192 ty193 ty194 ty195 ty196 ty197 ty198 ty199 ty200 ty202 ty203 ty204 ty205 ty206 ty207 ty209 ty210 ty211 ty212 ty213 ty214 ty215 ty216 ty217 ty218 ty219 ty220 ty221 ty222 ty223 ty224 ty225 ty226 ty227 ty228 ty229 ty230 ty231 ty233 ty234 ty236 ty237 ty238 ty239 ty240 ty241 ty242 ty243 ty244 ty245 ty247 ty248 ty249 ty251 ty252 ty253 ty254 ty255 ty257 ty258 ty259 ty260 ty261 ty262 ty263 ty264 ty265 ty266 ty267 ty269 ty277
theorem mixedOrders_ok : Tryz.prog.follows .mixedOrders = true := by kernel_rfl
theorem mx : Tryz.prog.follows .mixedOrders = true := mixedOrders_ok
instance : Mx Tryz.prog := ⟨mx⟩
end Go.Proofs.YtaealcimocpnnaaGreat

namespace Go.Proofs.YtaealcimocpnnaaGreat
open Go.Kern
def encL {α : Type} (E : α → AV) (l : List α) : List AV := l.map E
theorem length_encL {α : Type} (E : α → AV) (l : List α) : (encL E l).length = l.length := by simp [encL]
theorem getD_encL {α : Type} [Inhabited α] (E : α → AV) {l : List α} {i : Nat} (h : i < l.length) : (encL E l).getD i .any = E (l.getD i default) := getD_map E default h
theorem take_encL {α : Type} (E : α → AV) (l : List α) (i : Nat) : (encL E l).take i = encL E (l.take i) := by simp [encL, List.map_take]
theorem drop_encL {α : Type} (E : α → AV) (l : List α) (i : Nat) : (encL E l).drop i = encL E (l.drop i) := by simp [encL, List.map_drop]
theorem app_encL {α : Type} (E : α → AV) (a b : List α) : encL E a ++ encL E b = encL E (a ++ b) := by simp [encL]
theorem nil_encL {α : Type} (E : α → AV) (l : List α) : (encL E l = []) = (l = []) := by simp [encL]
theorem ok_encL {α : Type} (n : Nat) (E : α → AV) (h : ∀ x, rowOk n (E x) = true) (l : List α) : rowsOk n (encL E l) = true := rowsOk_map n E h l
theorem getD_intsD {l : List Int} {i : Nat} (h : i < l.length) : (ints l).getD i .any = .int .i64 (l.getD i default) := getD_ints h
structure Pfx where
  a : Int
  b : Int
instance : Inhabited Pfx := ⟨⟨0, 0⟩⟩
structure Rng where
  p : Pfx
  ge : Int
  le : Int
  permit : Bool
instance : Inhabited Rng := ⟨⟨default, 0, 0, false⟩⟩
structure Com where
  asn : Int
  n : Int
instance : Inhabited Com := ⟨⟨0, 0⟩⟩
structure Mat where
  list : ByteArray
  path : ByteArray
  c : Com
instance : Inhabited Mat := ⟨⟨.empty, .empty, default⟩⟩
structure Chg where
  pref : Int
  med : Int
  origin : Int
  kA : SK
  add : List Com
  kD : SK
  del : List Com
  clear : Bool
  kP : SK
  pre : List Int
instance : Inhabited Chg := ⟨⟨0, 0, 0, .nil, [], .nil, [], false, .nil, []⟩⟩
structure Cls where
  n : Int
  permit : Bool
  m : Mat
  s : Chg
instance : Inhabited Cls := ⟨⟨0, false, default, default⟩⟩
structure MapD where
  name : ByteArray
  k : SK
  l : List Cls
instance : Inhabited MapD := ⟨⟨.empty, .nil, []⟩⟩
structure LstD where
  name : ByteArray
  k : SK
  l : List Rng
instance : Inhabited LstD := ⟨⟨.empty, .nil, []⟩⟩
structure Nbr where
  name : ByteArray
  imp : ByteArray
  exp : ByteArray
  client : Bool
instance : Inhabited Nbr := ⟨⟨.empty, .empty, .empty, false⟩⟩
structure Lnk where
  name : ByteArray
  cost : Int
instance : Inhabited Lnk := ⟨⟨.empty, 0⟩⟩
structure Rtr where
  name : ByteArray
  asn : Int
  id : Int
  kN : SK
  nets : List Pfx
  kB : SK
  nbrs : List Nbr
  kL : SK
  links : List Lnk
instance : Inhabited Rtr := ⟨⟨.empty, 0, 0, .nil, [], .nil, [], .nil, []⟩⟩
structure Cfg where
  kL : SK
  lists : List LstD
  kM : SK
  maps : List MapD
  kR : SK
  routers : List Rtr
def ePfx (x : Pfx) : AV := .agg [.int .u32 x.a, .int .i64 x.b]
def eRng (x : Rng) : AV := .agg [.int .u32 x.p.a, .int .i64 x.p.b, .int .i64 x.ge, .int .i64 x.le, .bool x.permit]
def eCom (x : Com) : AV := .agg [.int .i64 x.asn, .int .i64 x.n]
def eMat (x : Mat) : AV := .agg [.str x.list, .str x.path, .int .i64 x.c.asn, .int .i64 x.c.n]
def eChg (x : Chg) : AV := .agg [.int .i64 x.pref, .int .i64 x.med, .int .i64 x.origin, .sl x.kA (encL eCom x.add), .sl x.kD (encL eCom x.del), .bool x.clear, .sl x.kP (ints x.pre)]
def eCls (x : Cls) : AV := .agg [.int .i64 x.n, .bool x.permit, .str x.m.list, .str x.m.path, .int .i64 x.m.c.asn, .int .i64 x.m.c.n,
  .int .i64 x.s.pref, .int .i64 x.s.med, .int .i64 x.s.origin, .sl x.s.kA (encL eCom x.s.add), .sl x.s.kD (encL eCom x.s.del), .bool x.s.clear, .sl x.s.kP (ints x.s.pre)]
def eMap (x : MapD) : AV := .agg [.str x.name, .sl x.k (encL eCls x.l)]
def eLst (x : LstD) : AV := .agg [.str x.name, .sl x.k (encL eRng x.l)]
def eNbr (x : Nbr) : AV := .agg [.str x.name, .str x.imp, .str x.exp, .bool x.client]
def eLnk (x : Lnk) : AV := .agg [.str x.name, .int .i64 x.cost]
def eRtr (x : Rtr) : AV := .agg [.str x.name, .int .i64 x.asn, .int .i64 x.id, .sl x.kN (encL ePfx x.nets), .sl x.kB (encL eNbr x.nbrs), .sl x.kL (encL eLnk x.links)]
def eCfg (x : Cfg) : AV := .agg [.sl x.kL (encL eLst x.lists), .sl x.kM (encL eMap x.maps), .sl x.kR (encL eRtr x.routers)]
def eI (n : Int) : AV := .int .i64 n
def eB (b : UInt8) : AV := .int .u8 b.toNat
theorem unB_enc (l : List UInt8) : unB (encL eB l) = some ⟨l.toArray⟩ := unB_list l
def idxS {α τ : Type} (step : τ → α → Bool × τ) : τ → Int → List α → Int × τ
  | st, _, [] => (-1, st)
  | st, i, x :: l => if (step st x).1 = true then (i, (step st x).2) else idxS step (step st x).2 (i + 1) l
theorem idxS_drop {α τ : Type} [Inhabited α] (step : τ → α → Bool × τ) (st : τ) (l : List α) (i : Nat) (h : i < l.length) (k : Int) : idxS step st k (l.drop i) = if (step st (l.getD i default)).1 = true then (k, (step st (l.getD i default)).2) else idxS step (step st (l.getD i default)).2 (k + 1) (l.drop (i + 1)) := by
  rw [List.drop_eq_getElem_cons h, idxS]
  simp [List.getD_eq_getElem?_getD, h]
def anyS {α τ : Type} (step : τ → α → Bool × τ) : τ → List α → Bool × τ
  | st, [] => (false, st)
  | st, x :: l => if (step st x).1 = true then (true, (step st x).2) else anyS step (step st x).2 l
theorem idxS_any {α τ : Type} (step : τ → α → Bool × τ) : ∀ (l : List α) (st : τ) (k : Int), 0 ≤ k → (decide (0 ≤ (idxS step st k l).1), (idxS step st k l).2) = anyS step st l
  | [], st, k, _ => rfl
  | x :: l, st, k, h => by
    have ih := idxS_any step l (step st x).2 (k + 1) (by omega)
    by_cases hx : (step st x).1 = true
    · simp only [idxS, anyS, hx, if_true, h, decide_true]
    · simp only [idxS, anyS, hx, if_false]; exact ih
theorem anyS_pure {α : Type} (q : α → Bool) : ∀ l : List α, (anyS (fun (_ : Unit) x => (q x, ())) () l).1 = l.any q
  | [] => rfl
  | x :: l => by
    simp only [anyS, List.any_cons]
    by_cases hx : q x = true
    · rw [if_pos hx, hx]; rfl
    · rw [if_neg hx, anyS_pure q l]; simp [hx]
def eachS {α τ : Type} (most : Int) (step : τ → α → Bool × τ) (st : τ) (l : List α) : Bool × τ :=
  if (l.length : Int) ≤ most then (!(anyS (fun st x => (!(step st x).1, (step st x).2)) st l).1, (anyS (fun st x => (!(step st x).1, (step st x).2)) st l).2) else (false, st)
def eachP {α : Type} (most : Int) (q : α → Bool) (l : List α) : Bool := decide ((l.length : Int) ≤ most) && l.all q
theorem eachS_pure {α : Type} (most : Int) (q : α → Bool) (l : List α) : (eachS most (fun (_ : Unit) x => (q x, ())) () l).1 = eachP most q l := by
  unfold eachS eachP
  split
  · rename_i h
    simp only [anyS_pure (fun x => !q x) l, decide_eq_true h, Bool.true_and]
    rw [List.all_eq_not_any_not]
  · rename_i h
    simp [h]
def B (s : ByteArray) : List UInt8 := s.data.toList
theorem bytesA_enc (s : ByteArray) : bytesA s = encL eB (B s) := rfl
theorem length_B (s : ByteArray) : (B s).length = s.size := by simp [B]
theorem at_B (s : ByteArray) (i : Nat) : s.data.getD i 0 = (B s).getD i default := by
  simp [B, List.getD_eq_getElem?_getD, Array.getD_eq_getD_getElem?]; rfl
theorem B_inj {s t : ByteArray} : B s = B t ↔ s = t := by
  constructor
  · intro h
    cases s; cases t
    simp only [B] at h
    congr 1
    exact Array.toList_inj.1 h
  · rintro rfl; rfl
theorem all_drop {α : Type} [Inhabited α] (q : α → Bool) {l : List α} {i : Nat} (h : i < l.length) : (l.drop i).all q = (q (l.getD i default) && (l.drop (i + 1)).all q) := by
  rw [List.drop_eq_getElem_cons h, List.all_cons]
  simp [List.getD_eq_getElem?_getD, h]
attribute [go_sem] at_B bytesA_enc unB_enc ePfx eRng eCom eMat eChg eCls eMap eLst eNbr eLnk eRtr eCfg eI eB length_encL getD_encL getD_intsD dltT dltF dleT dleF deqT deqF pltT pleT nltT nleT wrI Int.toNat_natCast
end Go.Proofs.YtaealcimocpnnaaGreat

