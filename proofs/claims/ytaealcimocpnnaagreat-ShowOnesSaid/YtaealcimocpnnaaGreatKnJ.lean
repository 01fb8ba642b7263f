/- The abstract layer, tenth part: maps, make, append. Conditions: none. -/
import Derived.Test.YtaealcimocpnnaaGreatKnI
import Derived.Test.YtaealcimocpnnaaGreatKnT
set_option linter.unusedVariables false
set_option linter.unusedSimpArgs false
namespace Go.Kern
open Go.RowKit Go.MapKept

/-! ### Maps -/
/-- A value that may be a key of the type. -/
def KeyV (P : Program) (t : TypeId) (v : Value) : Prop :=
  (∃ d, P.underlying t = some d ∧ IsKey d v) ∨ ((∃ d, P.underlying t = some d ∧ (kindOf d).agg = true) ∧ ∃ ks, flatOf P 6 t = some ks ∧ whole P t v = true ∧ fits ks v.cells.toList = true)

theorem cellsKind_fits {g : Gh} : ∀ {ks : List PK} {cs : List AV} {vs : List Value}, cs.length = vs.length → (∀ (i : Nat) (c : AV) (v : Value), cs[i]? = some c → vs[i]? = some v → R g c v) → cellsKind ks cs = true → fits ks vs = true
  | [], [], [], _, _, _ => rfl
  | [], [], _ :: _, hl, _, _ => by simp at hl
  | [], _ :: _, _, _, _, h => by simp [cellsKind] at h
  | _ :: _, [], _, _, _, h => by simp [cellsKind] at h
  | _ :: _, _ :: _, [], hl, _, _ => by simp at hl
  | k :: ks, c :: cs, v :: vs, hl, hr, h => by
    simp only [cellsKind, Bool.and_eq_true] at h
    have h0 := hr 0 c v rfl rfl
    have ih := cellsKind_fits (ks := ks) (cs := cs) (vs := vs) (by simpa using hl) (fun i c v h1 h2 => hr (i + 1) c v (by simpa using h1) (by simpa using h2)) h.2
    simp only [fits, ih, Bool.and_true]
    have h1 := h.1
    cases k <;> cases c <;> simp [cellKind] at h1 <;> cases h0 <;> simp [PK.of, h1]
theorem cellB_iff {k : PK} {g : Gh} {a b : AV} {u v : Value} (h1 : R g a u) (h2 : R g b v) (k1 : cellKind k a = true) (k2 : cellKind k b = true) : cellB a b = true ↔ u = v := by
  cases k <;> cases a <;> simp [cellKind] at k1 <;> cases b <;> simp [cellKind] at k2 <;> cases h1 <;> cases h2 <;> simp [cellB]
  subst k1; subst k2
  simp
theorem cellsB_iff {g : Gh} : ∀ {ks : List PK} {as bs : List AV} {us vs : List Value}, as.length = us.length → bs.length = vs.length → (∀ (i : Nat) (c : AV) (v : Value), as[i]? = some c → us[i]? = some v → R g c v) → (∀ (i : Nat) (c : AV) (v : Value), bs[i]? = some c → vs[i]? = some v → R g c v) →
    cellsKind ks as = true → cellsKind ks bs = true → (cellsB as bs = true ↔ us = vs)
  | [], [], [], [], [], _, _, _, _, _, _ => by simp [cellsB]
  | [], _ :: _, _, _, _, _, _, _, _, h, _ => by simp [cellsKind] at h
  | [], _, _ :: _, _, _, _, _, _, _, _, h => by simp [cellsKind] at h
  | [], [], _, _ :: _, _, hl, _, _, _, _, _ => by simp at hl
  | [], _, [], _, _ :: _, _, hl, _, _, _, _ => by simp at hl
  | _ :: _, [], _, _, _, _, _, _, _, h, _ => by simp [cellsKind] at h
  | _ :: _, _, [], _, _, _, _, _, _, _, h => by simp [cellsKind] at h
  | _ :: _, _ :: _, _, [], _, hl, _, _, _, _, _ => by simp at hl
  | _ :: _, _, _ :: _, _, [], _, hl, _, _, _, _ => by simp at hl
  | k :: ks, a :: as, b :: bs, u :: us, v :: vs, l1, l2, r1, r2, h1, h2 => by
    simp only [cellsKind, Bool.and_eq_true] at h1 h2
    have ih := cellsB_iff (ks := ks) (as := as) (bs := bs) (us := us) (vs := vs) (by simpa using l1) (by simpa using l2) (fun i c v h1 h2 => r1 (i + 1) c v (by simpa using h1) (by simpa using h2)) (fun i c v h1 h2 => r2 (i + 1) c v (by simpa using h1) (by simpa using h2)) h1.2 h2.2
    have h0 := cellB_iff (r1 0 a u rfl rfl) (r2 0 b v rfl rfl) h1.1 h2.1
    simp only [cellsB, Bool.and_eq_true, ih, h0, List.cons.injEq]

theorem wide_ty {P : Program} {t : TypeId} {ks : List PK} (h : (tyOf P t).kk = .wide ks) : flatOf P 6 t = some ks ∧ P.eqGuardType P.depth t = false ∧ ∃ d, P.underlying t = some d ∧ (kindOf d).agg = true := by
  unfold tyOf at h
  split at h
  · rename_i i d h1 h2
    simp only at h
    unfold keyTK at h
    rw [h2] at h
    cases d
    case array n e =>
      simp only at h
      split at h
      · cases h
      · rename_i hg
        split at h
        · rename_i ks' hk; cases h; exact ⟨hk, by simpa using hg, _, h2, rfl⟩
        · cases h
    case struct fs =>
      simp only at h
      split at h
      · cases h
      · rename_i hg
        split at h
        · rename_i ks' hk; cases h; exact ⟨hk, by simpa using hg, _, h2, rfl⟩
        · cases h
    all_goals (simp [kindOf] at h; done)
  · cases h
theorem plain_ty {P : Program} {t : TypeId} {a : AV} (h : keyKind (tyOf P t).kk a = true) (hw : ∀ ks, (tyOf P t).kk ≠ .wide ks) : ∃ d, P.underlying t = some d ∧ (tyOf P t).kk = kindOf d := by
  unfold tyOf at h hw ⊢
  split
  · rename_i i d h1 h2
    simp only [h1, h2] at h hw ⊢
    refine ⟨d, rfl, ?_⟩
    unfold keyTK at h hw ⊢
    rw [h2] at h hw ⊢
    cases d <;> simp only [kindOf] <;> simp only at h hw
    all_goals (split at h; · cases a <;> simp [keyKind] at h)
    all_goals (split at h; · rename_i hg _ ks hk; exact absurd (by rw [if_neg hg, hk]) (hw ks))
    all_goals (cases a <;> simp [keyKind] at h)
  · rename_i h1
    cases hi : P.info? t with
    | none => simp [hi] at h; cases a <;> simp [keyKind] at h
    | some i => cases hd : P.underlying t with
      | none => simp [hi, hd] at h; cases a <;> simp [keyKind] at h
      | some d => exact absurd hd (h1 i d hi)

theorem agg_whole {P : Program} {t : TypeId} {d : TypeDesc} (hu : P.underlying t = some d) (hd : (kindOf d).agg = true) (vs : Array Value) : whole P t (.agg vs) = true := by
  cases d <;> simp [kindOf, TK.agg] at hd <;> simp [whole, hu]

theorem keyKind_V {P : Program} {t : TypeId} {g : Gh} {a : AV} {v : Value} (h : R g a v) (hk : keyKind (tyOf P t).kk a = true) : KeyV P t v := by
  by_cases hw : ∃ ks, (tyOf P t).kk = .wide ks
  · obtain ⟨ks, hw⟩ := hw
    obtain ⟨h1, _, d, h2, h3⟩ := wide_ty hw
    rw [hw] at hk
    cases a <;> simp [keyKind] at hk
    cases h with
    | agg hl hr =>
      rename_i cs vs
      exact .inr ⟨⟨d, h2, h3⟩, ks, h1, agg_whole h2 h3 _, cellsKind_fits (by simpa [Value.cells] using hl) (fun i c v h1 h2 => hr i c v h1 (by simpa [Value.cells] using h2)) hk⟩
  · obtain ⟨d, hu, hd⟩ := plain_ty hk fun ks e => hw ⟨ks, e⟩
    rw [hd] at hk
    refine .inl ⟨d, hu, ?_⟩
    cases d <;> cases a <;> simp [kindOf, keyKind] at hk <;> cases h <;> simp [IsKey, hk]

theorem keyB_iff {K : TK} {g : Gh} {a b : AV} {u v : Value} (h1 : R g a u) (h2 : R g b v) (k1 : keyKind K a = true) (k2 : keyKind K b = true) : keyB a b = true ↔ u = v := by
  by_cases hw : ∃ ks, K = .wide ks
  · obtain ⟨ks, rfl⟩ := hw
    cases a <;> simp [keyKind] at k1
    cases b <;> simp [keyKind] at k2
    cases h1 with
    | agg l1 r1 =>
      cases h2 with
      | agg l2 r2 =>
        rename_i as bs us vs
        have := cellsB_iff (g := g) (ks := ks) (as := as) (bs := bs) (us := us.toList) (vs := vs.toList) (by simpa using l1) (by simpa using l2) (fun i c v h1 h2 => r1 i c v h1 (by simpa using h2)) (fun i c v h1 h2 => r2 i c v h1 (by simpa using h2)) k1 k2
        simp only [keyB, this, Value.agg.injEq]
        exact ⟨fun e => Array.ext' e, fun e => by rw [e]⟩
  · cases K
    case wide ks => exact absurd ⟨ks, rfl⟩ hw
    all_goals
      cases a <;> simp [keyKind] at k1
    all_goals
      cases b <;> simp [keyKind] at k2
    all_goals
      cases h1
    all_goals
      cases h2
    all_goals
      first
        | (simp [keyB]; done)
        | (subst k1; subst k2; simp [keyB]; done)

open Classical in
/-- Where a key is. -/
noncomputable def findV (k : Value) : List MapEntry → Nat → Option (Nat × Value)
  | [], _ => none
  | e :: es, i => if e.key = k then some (i, e.val) else findV k es (i + 1)

theorem run_findV {P : Program} {w : World} {t : TypeId} {k : Value} (hk : KeyV P t k) {en : List MapEntry} (hall : ∀ e ∈ en, KeyV P t e.key) : (Instr.findKey t k en).run P w = .ok (findV k en 0) w := by
  rcases hk with ⟨d, hu, hk⟩ | ⟨⟨d, hu, hd⟩, ks, hf, hwk, hfk⟩
  · have : ∀ (en : List MapEntry) (i : Nat), (∀ e ∈ en, KeyV P t e.key) → Instr.findNow d k en i = some (findV k en i) := by
      intro en
      induction en with
      | nil => intro i _; rfl
      | cons e es ih =>
        intro i hall
        have he : IsKey d e.key := by
          rcases hall e List.mem_cons_self with ⟨d', hu', h'⟩ | ⟨⟨d', hu', h'⟩, _⟩
          · rw [hu] at hu'; injection hu' with hu'; rw [hu']; exact h'
          · rw [hu] at hu'; injection hu' with hu'
            subst hu'
            cases d <;> simp [kindOf, TK.agg] at h' <;> cases k <;> simp [IsKey] at hk
        obtain ⟨r, hr, hiff⟩ := sameNow_of_keys hk he
        have ih' := ih (i + 1) fun e he => hall e (List.mem_cons_of_mem _ he)
        unfold Instr.findNow findV
        rw [hr]
        cases r with
        | true => simp only; rw [if_pos (hiff.1 rfl).symm]
        | false => simp only; rw [if_neg (fun e => by have := hiff.2 e.symm; cases this), ih']
    simp [Instr.findKey, run_underlying hu, this en 0 hall]
  · have hwide : (match P.underlying t with | some (.array _ _) | some (.struct _) => true | _ => false) = true := by
      rw [hu]; cases d <;> simp [kindOf, TK.agg] at hd <;> rfl
    rw [run_findKey_eq w hwide]
    have : ∀ (en : List MapEntry) (i : Nat), (∀ e ∈ en, KeyV P t e.key) → (Instr.findAsking t k en i).run P w = .ok (findV k en i) w := by
      intro en
      induction en with
      | nil => intro i _; simp [Instr.findAsking, findV]
      | cons e es ih =>
        intro i hall
        obtain ⟨hwe, hfe⟩ : whole P t e.key = true ∧ fits ks e.key.cells.toList = true := by
          rcases hall e List.mem_cons_self with ⟨d', hu', h'⟩ | ⟨_, ks', hf', h1, h2⟩
          · rw [hu] at hu'; injection hu' with hu'
            subst hu'
            cases d <;> simp [kindOf, TK.agg] at hd <;> cases hq : e.key <;> simp [IsKey, hq] at h'
          · rw [hf] at hf'; injection hf' with hf'; subst hf'; exact ⟨h1, h2⟩
        obtain ⟨r, hr, hiff⟩ := equal_flat 9994 6 t ks hf w k e.key hwk hwe hfk hfe
        have heq : (Op.equal t k e.key).run P w = .ok r w := hr
        have hag : ∀ v, whole P t v = true → ∃ xs, v = .agg xs := by
          intro v hv
          unfold whole at hv
          rw [hu] at hv
          cases d <;> simp [kindOf, TK.agg] at hd <;> cases v <;> simp at hv <;> exact ⟨_, rfl⟩
        have hiff2 : r = true ↔ e.key = k := by
          rw [hiff]
          obtain ⟨xs, hx⟩ := hag _ hwk
          obtain ⟨ys, hy⟩ := hag _ hwe
          rw [hx, hy]
          simp only [Value.cells, Value.agg.injEq]
          exact ⟨fun e => (Array.ext' e).symm, fun e => by rw [e]⟩
        have ih' := ih (i + 1) fun e he => hall e (List.mem_cons_of_mem _ he)
        unfold Instr.findAsking findV
        simp only [Sem.run_bind, heq, Result.andThen_ok]
        cases r with
        | true => rw [if_pos rfl, if_pos (hiff2.1 rfl)]; rfl
        | false => rw [if_neg (by simp), if_neg (fun e => by have := hiff2.2 e; cases this), ih']
    exact this en 0 hall

theorem run_checkV {P : Program} {w : World} {t : TypeId} {k : Value} (hk : KeyV P t k) (b : Bool) : (Instr.checkKey b 10000 t k).run P w = .ok () w := by
  rcases hk with ⟨d, hu, hk⟩ | ⟨_, ks, hf, hwk, hfk⟩
  · exact MapKept.run_checkKey hu hk b 9999
  · exact check_flat b 9994 6 t ks hf w k hwk hfk

theorem sameBits_keyV {P : Program} {t : TypeId} {k : Value} (hk : KeyV P t k) : Instr.sameBits 10000 k k = true := by
  rcases hk with ⟨d, hu, hk⟩ | ⟨⟨d, hu, hd⟩, ks, hf, hwk, hfk⟩
  · cases d <;> cases k <;> simp [IsKey] at hk <;> simp [Instr.sameBits, bytes_beq]
  · have : ∃ xs, k = .agg xs := by
      unfold whole at hwk
      rw [hu] at hwk
      cases d <;> simp [kindOf, TK.agg] at hd <;> cases k <;> simp at hwk <;> exact ⟨_, rfl⟩
    obtain ⟨xs, rfl⟩ := this
    show Instr.sameBits (9999 + 1) (.agg xs) (.agg xs) = true
    simp only [Instr.sameBits, beq_self_eq_true, Bool.true_and, List.all_eq_true]
    simp only [Value.cells] at hfk
    have one : ∀ (p : PK) (v : Value), p.of v = true → Instr.sameBits 9999 v v = true := by
      intro p v hp
      cases p <;> cases v <;> simp [PK.of] at hp <;> simp [Instr.sameBits, bytes_beq]
    have : ∀ (ks : List PK) (vs : List Value), fits ks vs = true → ∀ q ∈ vs.zip vs, Instr.sameBits 9999 q.1 q.2 = true := by
      intro ks vs
      induction vs generalizing ks with
      | nil => intro _ q hq; simp at hq
      | cons v vs ih =>
        intro h q hq
        cases ks with
        | nil => simp [fits] at h
        | cons p ks =>
          simp only [fits, Bool.and_eq_true] at h
          simp only [List.zip_cons_cons, List.mem_cons] at hq
          rcases hq with rfl | hq
          · exact one p v h.1
          · exact ih ks h.2 q hq
    exact this ks _ hfk

/-- Abstract entries against the map's. -/
def REs (g : Gh) (es : List (AV × AV)) (en : List MapEntry) : Prop :=
  es.length = en.length ∧ ∀ (i : Nat) (kv : AV × AV) (e : MapEntry), es[i]? = some kv → en[i]? = some e → R g kv.1 e.key ∧ R g kv.2 e.val

theorem REs.tail {g : Gh} {a : AV × AV} {b : MapEntry} {es : List (AV × AV)} {en : List MapEntry} (h : REs g (a :: es) (b :: en)) : REs g es en :=
  ⟨by have := h.1; simpa using this, fun i kv e h1 h2 => h.2 (i + 1) kv e (by simpa using h1) (by simpa using h2)⟩
theorem REs.head {g : Gh} {a : AV × AV} {b : MapEntry} {es : List (AV × AV)} {en : List MapEntry} (h : REs g (a :: es) (b :: en)) : R g a.1 b.key ∧ R g a.2 b.val := h.2 0 a b rfl rfl

theorem find_abs {K : TK} {g : Gh} {key : AV} {kv : Value} (hkey : R g key kv) (hk : keyKind K key = true) :
    ∀ (es : List (AV × AV)) (en : List MapEntry) (i : Nat), REs g es en → es.all (fun e => keyKind K e.1) = true →
      (match es.find? (fun e => keyB key e.1) with
        | none => findV kv en i = none ∧ asetA key (.any) es = es ++ [(key, .any)]
        | some x => ∃ j e, findV kv en i = some (i + j, e.val) ∧ en[j]? = some e ∧ e.key = kv ∧ R g x.2 e.val ∧ j < es.length)
  | [], [], i, _, _ => ⟨rfl, rfl⟩
  | [], _ :: _, _, h, _ => by have := h.1; simp at this
  | _ :: _, [], _, h, _ => by have := h.1; simp at this
  | a :: es, b :: en, i, h, hall => by
    simp only [List.all_cons, Bool.and_eq_true] at hall
    have hb := h.head
    have hiff := keyB_iff hkey hb.1 hk hall.1
    simp only [List.find?_cons]
    cases hq : keyB key a.1 with
    | true =>
      have e1 := (hiff.1 hq).symm
      exact ⟨0, b, by rw [findV, if_pos e1]; rfl, rfl, e1, hb.2, by simp⟩
    | false =>
      have e1 : ¬ b.key = kv := fun e => by have := hiff.2 e.symm; rw [hq] at this; cases this
      have ih := find_abs hkey hk es en (i + 1) h.tail hall.2
      simp only
      cases hf : es.find? (fun e => keyB key e.1) with
      | none =>
        rw [hf] at ih
        exact ⟨by rw [findV, if_neg e1]; exact ih.1, by simp only [asetA, hq, Bool.false_eq_true, if_false, List.cons_append, ih.2]⟩
      | some x =>
        rw [hf] at ih
        obtain ⟨j, e, h1, h2, h3, h4, h5⟩ := ih
        exact ⟨j + 1, e, by rw [findV, if_neg e1, h1]; congr 2; omega, by simpa using h2, h3, h4, by simp; omega⟩

theorem map_ty {P : Program} {t : TypeId} (h : (tyOf P t).kind = .map) : P.underlying t = some (.map (tyOf P t).key (tyOf P t).elem) := by
  obtain ⟨i, d, h1, h2, h3⟩ := ty_kind h (by simp)
  cases d <;> simp [kindOf] at h3
  simp [tyOf, h1, h2]

theorem map_at {g : Gh} {w : World} {σ : Store} (hc : Conc g w σ) {o b : Nat} {es : List (AV × AV)} (ho : σ o = some (.map es)) (hb : g.loc o = some (b, 0, 0)) :
    ∃ (en : Array MapEntry) (ck : Nat), w.heap[b]? = some (.map en ck) ∧ REs g es en.toList := by
  obtain ⟨blk, h4, _⟩ := hc.obj
  obtain ⟨_, en, ck, hl, hh, hlen, hr⟩ := h4 o _ ho
  rw [hb] at hl
  injection hl with hl
  injection hl with hl _
  rw [← hl] at hh
  exact ⟨en, ck, hh, by simpa using hlen, fun i kv e h1 h2 => hr i kv e h1 (by simpa using h2)⟩

theorem en_keys {P : Program} {t : TypeId} {g : Gh} {es : List (AV × AV)} {en : List MapEntry} (h : REs g es en) (hall : es.all (fun e => keyKind (tyOf P t).kk e.1) = true) : ∀ e ∈ en, KeyV P t e.key := by
  intro e he
  obtain ⟨i, hi, rfl⟩ := List.getElem_of_mem he
  have hi' : i < es.length := by rw [h.1]; exact hi
  have := h.2 i es[i] en[i] (List.getElem?_eq_getElem hi') (List.getElem?_eq_getElem hi)
  exact keyKind_V this.1 (List.all_eq_true.1 hall _ (List.getElem_mem hi'))

theorem sound_lookup {P : Program} {g : Gh} {w : World} {σ : Store} (hc : Conc g w σ) {t : TypeId} {m key : AV} {mv kv : Value} (hm : R g m mv) (hkey : R g key kv) {ok : Bool} {k : AV → Prop} (hk : lookupA P (tyOf P t) σ m key ok k) :
    ∃ u r, (Instr.lookup t mv kv ok).run P w = .ok u w ∧ R g r u ∧ k r := by
  obtain ⟨hkind, hkk, hoe, hk⟩ := hk
  have hu := map_ty hkind
  have hisk := keyKind_V hkey hkk
  have hck : ∀ b, (Instr.checkKey b 10000 (tyOf P t).key kv).run P w = .ok () w := fun b => run_checkV hisk b
  have fin : ∀ (a : AV) (v : Value) (b : Bool), R g a v → R g (if ok = true then .tup [a, .bool b] else a) (if ok = true then .tuple #[v, .bool b] else v) := by
    intro a v b h
    split
    · exact R_tup2 h (.bool b)
    · exact h
  split at hk
  · split at hk
    · rename_i z hz
      cases hm
      obtain ⟨zv, hzv, hzr, _⟩ := run_zero' hoe hz w
      refine ⟨if ok = true then .tuple #[zv, .bool false] else zv, _, ?_, fin z zv false (hzr g), hk⟩
      have hfk := run_findV (P := P) (w := w) hisk (en := []) (by simp)
      unfold Instr.lookup
      simp only [Sem.run_bind, run_underlying hu, Result.andThen_ok, hck, Array.toList_empty, hfk, findV, hzv, Sem.run_pure]

    · exact hk.elim
  · rename_i o
    split at hk
    · rename_i es hes
      cases hm with
      | map hb =>
        rename_i b
        obtain ⟨en, ck, hh, hre⟩ := map_at hc hes hb
        obtain ⟨hall, hk⟩ := hk
        replace hall : es.all (fun e => keyKind (tyOf P (tyOf P t).key).kk e.1) = true := hall
        have hgo : (getObj b).run P w = .ok (.map en ck) w := by simp [getObj, Sem.run, hh]
        have habs := find_abs hkey hkk es en.toList 0 hre hall
        have hfk := run_findV (P := P) (w := w) hisk (en_keys hre hall)
        cases hf : es.find? (fun e => keyB key e.1) with
        | none =>
          rw [hf] at habs hk
          simp only at hk
          cases hz : (tyOf P (tyOf P t).elem).zero with
          | none => simp [hz] at hk
          | some z =>
            simp only [hz] at hk
            obtain ⟨zv, hzv, hzr, _⟩ := run_zero' hoe hz w
            refine ⟨if ok = true then .tuple #[zv, .bool false] else zv, _, ?_, fin z zv false (hzr g), hk⟩
            rw [habs.1] at hfk
            unfold Instr.lookup
            simp only [Sem.run_bind, run_underlying hu, Result.andThen_ok, hgo, Sem.run_pure, hck, hfk, hzv]
        | some x =>
          rw [hf] at habs hk
          simp only at hk
          obtain ⟨j, e, h1, h2, h3, h4, h5⟩ := habs
          refine ⟨if ok = true then .tuple #[e.val, .bool true] else e.val, _, ?_, fin _ _ true h4, hk⟩
          rw [h1] at hfk
          unfold Instr.lookup
          simp only [Sem.run_bind, run_underlying hu, Result.andThen_ok, hgo, Sem.run_pure, hck, hfk]
    · exact hk.elim
  · exact hk.elim

theorem aset_spec {K : TK} {g : Gh} {key v : AV} {kv vv : Value} (hkey : R g key kv) (hv : R g v vv) (hk : keyKind K key = true) (ck : Nat) :
    ∀ (es : List (AV × AV)) (en : List MapEntry) (i : Nat), REs g es en → es.all (fun e => keyKind K e.1) = true →
      (findV kv en i = none ∧ REs g (asetA key v es) (en ++ [{ key := kv, val := vv, born := ck }])) ∨
      (∃ j e, findV kv en i = some (i + j, e.val) ∧ en[j]? = some e ∧ e.key = kv ∧ REs g (asetA key v es) (en.set j { e with key := kv, val := vv }))
  | [], [], i, _, _ => .inl ⟨rfl, rfl, fun j kv' e h1 h2 => by
      cases j with
      | zero => simp [asetA] at h1 h2; subst h1; subst h2; exact ⟨hkey, hv⟩
      | succ j => simp [asetA] at h1⟩
  | [], _ :: _, _, h, _ => by have := h.1; simp at this
  | _ :: _, [], _, h, _ => by have := h.1; simp at this
  | a :: es, b :: en, i, h, hall => by
    simp only [List.all_cons, Bool.and_eq_true] at hall
    have hb := h.head
    have hiff := keyB_iff hkey hb.1 hk hall.1
    have cons : ∀ {x : AV × AV} {y : MapEntry} {xs : List (AV × AV)} {ys : List MapEntry}, R g x.1 y.key → R g x.2 y.val → REs g xs ys → REs g (x :: xs) (y :: ys) := by
      intro x y xs ys q1 q2 q3
      refine ⟨by simp [q3.1], fun j kv' e h1 h2 => ?_⟩
      cases j with
      | zero => simp at h1 h2; subst h1; subst h2; exact ⟨q1, q2⟩
      | succ j => exact q3.2 j kv' e (by simpa using h1) (by simpa using h2)
    simp only [asetA]
    cases hq : keyB key a.1 with
    | true =>
      have e1 := (hiff.1 hq).symm
      refine .inr ⟨0, b, by rw [findV, if_pos e1]; rfl, rfl, e1, ?_⟩
      simp only [if_true, List.set_cons_zero]
      exact cons hkey hv h.tail
    | false =>
      have e1 : ¬ b.key = kv := fun e => by have := hiff.2 e.symm; rw [hq] at this; cases this
      simp only [Bool.false_eq_true, if_false]
      rcases aset_spec hkey hv hk ck es en (i + 1) h.tail hall.2 with ⟨h1, h2⟩ | ⟨j, e, h1, h2, h3, h4⟩
      · exact .inl ⟨by rw [findV, if_neg e1]; exact h1, cons hb.1 hb.2 h2⟩
      · exact .inr ⟨j + 1, e, by rw [findV, if_neg e1, h1]; congr 2; omega, by simpa using h2, h3, by simp only [List.set_cons_succ]; exact cons hb.1 hb.2 h4⟩

theorem setObj_heap {P : Program} {w : World} {b : Nat} {en en' : Array MapEntry} {ck ck' : Nat} (hh : w.heap[b]? = some (.map en ck)) :
    (setObj b (.map en' ck')).run P w = .ok () { w with heap := w.heap.setIfInBounds b (.map en' ck') } := by
  simp [setObj, Sem.run, hh]

theorem Conc.setMap {g : Gh} {w : World} {σ : Store} (hc : Conc g w σ) {o b : Nat} {es es' : List (AV × AV)} (ho : σ o = some (.map es)) (hb : g.loc o = some (b, 0, 0)) {en en' : Array MapEntry} {ck ck' : Nat} (hh : w.heap[b]? = some (.map en ck))
    (hre : REs g es' en'.toList) : Conc g { w with heap := w.heap.setIfInBounds b (.map en' ck') } (σ.put o (.map es')) := by
  have hlt : b < w.heap.size := (Array.getElem?_eq_some_iff.1 hh).1
  refine hc.write (b := b) ho (fun blk hbl => ?_) (fun k hk => by simp [Array.getElem?_setIfInBounds, Ne.symm hk]) rfl rfl rfl (by simp) (fun off => ?_) ?_
  · obtain ⟨en2, ck2, hl, _⟩ := hbl
    rw [hb] at hl
    injection hl with hl
    injection hl with hl _
    exact hl.symm
  · cases hi : g.imm b off with
    | none => rfl
    | some v =>
      have := hc.imm _ _ _ hi
      simp [World.cell?, hh] at this
  · exact ⟨en', ck', hb, by simp [Array.getElem?_setIfInBounds, hlt], by simpa using hre.1, fun i kv e h1 h2 => hre.2 i kv e h1 (by simpa using h2)⟩

theorem sound_mapSet {P : Program} {g : Gh} {w : World} {σ : Store} (hc : Conc g w σ) {t : TypeId} {m key v : AV} {mv kv vv : Value} (hm : R g m mv) (hkey : R g key kv) (hv : R g v vv) {k : Store → Prop} (hk : mapSetA P (tyOf P t) σ m key v k) :
    ∃ w' σ', (Instr.mapUpdate t mv kv vv).run P w = .ok () w' ∧ Conc g w' σ' ∧ k σ' := by
  obtain ⟨hkind, hkk, hk⟩ := hk
  have hu := map_ty hkind
  have hisk := keyKind_V hkey hkk
  have hck : ∀ b, (Instr.checkKey b 10000 (tyOf P t).key kv).run P w = .ok () w := fun b => run_checkV hisk b
  split at hk
  · rename_i o
    split at hk
    · rename_i es hes
      cases hm with
      | map hb =>
        rename_i b
        obtain ⟨en, ck, hh, hre⟩ := map_at hc hes hb
        obtain ⟨hall, hk⟩ := hk
        replace hall : es.all (fun e => keyKind (tyOf P (tyOf P t).key).kk e.1) = true := hall
        have hgo : (getObj b).run P w = .ok (.map en ck) w := by simp [getObj, Sem.run, hh]
        have hfk := run_findV (P := P) (w := w) hisk (en_keys hre hall)
        rcases aset_spec hkey hv hkk ck es en.toList 0 hre hall with ⟨h1, h2⟩ | ⟨j, e, h1, h2, h3, h4⟩
        · rw [h1] at hfk
          refine ⟨_, _, ?_, hc.setMap hes hb hh (en' := en.push { key := kv, val := vv, born := ck }) (ck' := ck + 1) (by simpa using h2), hk⟩
          unfold Instr.mapUpdate
          simp only [Sem.run_bind, run_underlying hu, Result.andThen_ok, hgo, hck, hfk]
          exact setObj_heap hh
        · rw [h1] at hfk
          have hj : j < en.size := by have := (List.getElem?_eq_some_iff.1 h2).1; simpa using this
          have hej : en[j]? = some e := by simpa using h2
          refine ⟨_, _, ?_, hc.setMap hes hb hh (en' := en.modify j fun x => { x with key := kv, val := vv }) (ck' := ck) ?_, hk⟩
          · unfold Instr.mapUpdate
            simp only [Sem.run_bind, run_underlying hu, Result.andThen_ok, hgo, hck, hfk, Nat.zero_add, hej, Option.map_some, Option.getD_some, Instr.keyThatStays, h3, sameBits_keyV hisk, if_true, Sem.run_pure]
            exact setObj_heap hh
          · have : (en.modify j fun x => { x with key := kv, val := vv }).toList = en.toList.set j { e with key := kv, val := vv } := by
              apply List.ext_getElem?
              intro q
              rw [Array.getElem?_toList, Array.getElem?_modify, List.getElem?_set]
              by_cases hq : j = q
              · subst hq
                rw [if_pos rfl, if_pos rfl, if_pos (by simpa using hj), hej]
                rfl
              · rw [if_neg hq, if_neg hq]
                simp
            rw [this]
            exact h4
    · exact hk.elim
  · exact hk.elim

theorem adel_spec {K : TK} {g : Gh} {key : AV} {kv : Value} (hkey : R g key kv) (hk : keyKind K key = true) :
    ∀ (es : List (AV × AV)) (en : List MapEntry) (i : Nat), REs g es en → es.all (fun e => keyKind K e.1) = true →
      (findV kv en i = none ∧ REs g (adelA key es) en) ∨
      (∃ j e, findV kv en i = some (i + j, e.val) ∧ en[j]? = some e ∧ REs g (adelA key es) (en.eraseIdx j))
  | [], [], i, h, _ => .inl ⟨rfl, h⟩
  | [], _ :: _, _, h, _ => by have := h.1; simp at this
  | _ :: _, [], _, h, _ => by have := h.1; simp at this
  | a :: es, b :: en, i, h, hall => by
    simp only [List.all_cons, Bool.and_eq_true] at hall
    have hb := h.head
    have hiff := keyB_iff hkey hb.1 hk hall.1
    have cons : ∀ {x : AV × AV} {y : MapEntry} {xs : List (AV × AV)} {ys : List MapEntry}, R g x.1 y.key → R g x.2 y.val → REs g xs ys → REs g (x :: xs) (y :: ys) := by
      intro x y xs ys q1 q2 q3
      refine ⟨by simp [q3.1], fun j kv' e h1 h2 => ?_⟩
      cases j with
      | zero => simp at h1 h2; subst h1; subst h2; exact ⟨q1, q2⟩
      | succ j => exact q3.2 j kv' e (by simpa using h1) (by simpa using h2)
    simp only [adelA]
    cases hq : keyB key a.1 with
    | true =>
      have e1 := (hiff.1 hq).symm
      refine .inr ⟨0, b, by rw [findV, if_pos e1]; rfl, rfl, ?_⟩
      simp only [if_true, List.eraseIdx_cons_zero]
      exact h.tail
    | false =>
      have e1 : ¬ b.key = kv := fun e => by have := hiff.2 e.symm; rw [hq] at this; cases this
      simp only [Bool.false_eq_true, if_false]
      rcases adel_spec hkey hk es en (i + 1) h.tail hall.2 with ⟨h1, h2⟩ | ⟨j, e, h1, h2, h3⟩
      · exact .inl ⟨by rw [findV, if_neg e1]; exact h1, cons hb.1 hb.2 h2⟩
      · exact .inr ⟨j + 1, e, by rw [findV, if_neg e1, h1]; congr 2; omega, by simpa using h2, by simp only [List.eraseIdx_cons_succ]; exact cons hb.1 hb.2 h3⟩

theorem sound_mapDel {P : Program} {g : Gh} {w : World} {σ : Store} (hc : Conc g w σ) {t t2 ty : TypeId} {m key : AV} {mv kv : Value} (hm : R g m mv) (hkey : R g key kv) {k : Store → Prop} (hk : mapDelA P (tyOf P t) σ m key k) :
    ∃ w' σ', (Builtin.delete_ #[t, t2] ty #[mv, kv]).run P w = .ok (.tuple #[]) w' ∧ Conc g w' σ' ∧ k σ' := by
  obtain ⟨hkind, hkk, hk⟩ := hk
  have hu := map_ty hkind
  have hisk := keyKind_V hkey hkk
  have hck : ∀ b, (Instr.checkKey b 10000 (tyOf P t).key kv).run P w = .ok () w := fun b => run_checkV hisk b
  split at hk
  · rename_i o
    split at hk
    · rename_i es hes
      cases hm with
      | map hb =>
        rename_i b
        obtain ⟨en, ck, hh, hre⟩ := map_at hc hes hb
        obtain ⟨hall, hk⟩ := hk
        replace hall : es.all (fun e => keyKind (tyOf P (tyOf P t).key).kk e.1) = true := hall
        have hgo : (getObj b).run P w = .ok (.map en ck) w := by simp [getObj, Sem.run, hh]
        have hlt : b < w.heap.size := (Array.getElem?_eq_some_iff.1 hh).1
        have hfk := run_findV (P := P) (w := w) hisk (en_keys hre hall)
        rcases adel_spec hkey hkk es en.toList 0 hre hall with ⟨h1, h2⟩ | ⟨j, e, h1, h2, h4⟩
        · rw [h1] at hfk
          refine ⟨_, _, ?_, hc.setMap hes hb hh (en' := en) (ck' := ck) h2, hk⟩
          unfold Builtin.delete_
          simp [run_underlying hu, hgo, hck, hfk, setObj_heap hh]
        · rw [h1] at hfk
          have hj : j < en.size := by have := (List.getElem?_eq_some_iff.1 h2).1; simpa using this
          refine ⟨_, _, ?_, hc.setMap hes hb hh (en' := en.eraseIdxIfInBounds j) (ck' := ck) ?_, hk⟩
          · unfold Builtin.delete_
            simp [run_underlying hu, hgo, hck, hfk, setObj_heap hh]
          · have : (en.eraseIdxIfInBounds j).toList = en.toList.eraseIdx j := by
              unfold Array.eraseIdxIfInBounds
              rw [dif_pos hj]
              simp
            rw [this]
            exact h4
    · exact hk.elim
  · exact hk.elim
end Go.Kern
