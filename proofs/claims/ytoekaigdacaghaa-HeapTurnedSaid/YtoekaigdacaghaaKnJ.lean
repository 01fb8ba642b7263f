/- The abstract layer, tenth part: maps, make, append. Conditions: none. -/
import Derived.Test.YtoekaigdacaghaaKnI
set_option linter.unusedVariables false
set_option linter.unusedSimpArgs false
namespace Go.Kern
open Go.RowKit Go.MapKept

/-! ### Maps -/
theorem keyKind_V {P : Program} {t : TypeId} {d : TypeDesc} (hd : kindOf d = (tyOf P t).kind) {g : Gh} {a : AV} {v : Value} (h : R g a v) (hk : keyKind (tyOf P t).kind a = true) : IsKey d v := by
  rw [← hd] at hk
  cases d <;> cases a <;> simp [kindOf, keyKind] at hk <;> cases h <;> simp [IsKey, hk]

theorem keyB_iff {K : TK} {g : Gh} {a b : AV} {u v : Value} (h1 : R g a u) (h2 : R g b v) (k1 : keyKind K a = true) (k2 : keyKind K b = true) : keyB a b = true ↔ u = v := by
  cases K <;> cases a <;> simp [keyKind] at k1 <;> cases b <;> simp [keyKind] at k2 <;> cases h1 <;> cases h2 <;> simp [keyB]
  subst k1; subst k2
  simp

/-- Abstract entries against the map's. -/
def REs (g : Gh) (es : List (AV × AV)) (en : List MapEntry) : Prop :=
  es.length = en.length ∧ ∀ (i : Nat) (kv : AV × AV) (e : MapEntry), es[i]? = some kv → en[i]? = some e → R g kv.1 e.key ∧ R g kv.2 e.val

theorem REs.tail {g : Gh} {a : AV × AV} {b : MapEntry} {es : List (AV × AV)} {en : List MapEntry} (h : REs g (a :: es) (b :: en)) : REs g es en :=
  ⟨by have := h.1; simpa using this, fun i kv e h1 h2 => h.2 (i + 1) kv e (by simpa using h1) (by simpa using h2)⟩
theorem REs.head {g : Gh} {a : AV × AV} {b : MapEntry} {es : List (AV × AV)} {en : List MapEntry} (h : REs g (a :: es) (b :: en)) : R g a.1 b.key ∧ R g a.2 b.val := h.2 0 a b rfl rfl

theorem find_abs {g : Gh} {d : TypeDesc} {key : AV} {kv : Value} (hkey : R g key kv) (hk : keyKind (kindOf d) key = true) (hkv : IsKey d kv) :
    ∀ (es : List (AV × AV)) (en : List MapEntry) (i : Nat), REs g es en → es.all (fun e => keyKind (kindOf d) e.1) = true → (∀ e ∈ en, IsKey d e.key) →
      (match es.find? (fun e => keyB key e.1) with
        | none => Instr.findNow d kv en i = some none ∧ asetA key (.any) es = es ++ [(key, .any)]
        | some x => ∃ j e, Instr.findNow d kv en i = some (some (i + j, e.val)) ∧ en[j]? = some e ∧ e.key = kv ∧ R g x.2 e.val ∧ j < es.length)
  | [], [], i, _, _, _ => ⟨rfl, rfl⟩
  | [], _ :: _, _, h, _, _ => by have := h.1; simp at this
  | _ :: _, [], _, h, _, _ => by have := h.1; simp at this
  | a :: es, b :: en, i, h, hall, hen => by
    simp only [List.all_cons, Bool.and_eq_true] at hall
    have hb := h.head
    have hbk := hen b List.mem_cons_self
    have hiff := keyB_iff hkey hb.1 hk hall.1
    obtain ⟨r, hr, hriff⟩ := sameNow_of_keys hkv hbk
    simp only [List.find?_cons]
    cases hq : keyB key a.1 with
    | true =>
      have hr1 : r = true := hriff.2 (hiff.1 hq)
      subst hr1
      exact ⟨0, b, by simp [Instr.findNow, hr], rfl, (hiff.1 hq).symm, hb.2, by simp⟩
    | false =>
      have hr0 : r = false := by
        cases r with
        | false => rfl
        | true => have := hiff.2 (hriff.1 rfl); rw [hq] at this; cases this
      subst hr0
      have ih := find_abs hkey hk hkv es en (i + 1) h.tail hall.2 (fun e he => hen e (List.mem_cons_of_mem _ he))
      simp only
      cases hf : es.find? (fun e => keyB key e.1) with
      | none =>
        rw [hf] at ih
        exact ⟨by simp [Instr.findNow, hr, ih.1], by simp only [asetA, hq, Bool.false_eq_true, if_false, List.cons_append, ih.2]⟩
      | some x =>
        rw [hf] at ih
        obtain ⟨j, e, h1, h2, h3, h4, h5⟩ := ih
        exact ⟨j + 1, e, by simp [Instr.findNow, hr, h1]; omega, by simpa using h2, h3, h4, by simp; omega⟩

theorem run_checkKey {P : Program} {w : World} {t : TypeId} {d : TypeDesc} (hu : P.underlying t = some d) (hd : ∃ v, IsKey d v) (n : Nat) (b : Bool) (v : Value) : (Instr.checkKey b (n + 1) t v).run P w = .ok () w := by
  obtain ⟨u, hu2⟩ := hd
  cases d <;> simp [IsKey] at hu2 <;> cases v <;> simp [Instr.checkKey, run_underlying hu]

theorem run_findKey {P : Program} {w : World} {t : TypeId} {d : TypeDesc} (hu : P.underlying t = some d) {k : Value} {en : List MapEntry} {r : Option (Nat × Value)} (h : Instr.findNow d k en 0 = some r) :
    (Instr.findKey t k en).run P w = .ok r w := by
  simp [Instr.findKey, run_underlying hu, h]

theorem map_ty {P : Program} {t : TypeId} (h : (tyOf P t).kind = .map) : P.underlying t = some (.map (tyOf P t).key (tyOf P t).elem) := by
  obtain ⟨i, d, h1, h2, h3⟩ := ty_kind h (by simp)
  cases d <;> simp [kindOf] at h3
  simp [tyOf, h1, h2]

theorem key_ty {P : Program} {t : TypeId} {a : AV} (h : keyKind (tyOf P t).kind a = true) : ∃ d, P.underlying t = some d ∧ kindOf d = (tyOf P t).kind := by
  have : (tyOf P t).kind ≠ .other := by intro e; rw [e] at h; cases a <;> simp [keyKind] at h
  obtain ⟨i, d, h1, h2, h3⟩ := ty_kind rfl this
  exact ⟨d, h2, h3⟩

theorem map_at {g : Gh} {w : World} {σ : Store} (hc : Conc g w σ) {o b : Nat} {es : List (AV × AV)} (ho : σ o = some (.map es)) (hb : g.loc o = some (b, 0, 0)) :
    ∃ (en : Array MapEntry) (ck : Nat), w.heap[b]? = some (.map en ck) ∧ REs g es en.toList := by
  obtain ⟨blk, h4, _⟩ := hc.obj
  obtain ⟨_, en, ck, hl, hh, hlen, hr⟩ := h4 o _ ho
  rw [hb] at hl
  injection hl with hl
  injection hl with hl _
  rw [← hl] at hh
  exact ⟨en, ck, hh, by simpa using hlen, fun i kv e h1 h2 => hr i kv e h1 (by simpa using h2)⟩

theorem en_keys {P : Program} {t : TypeId} {d : TypeDesc} (hd : kindOf d = (tyOf P t).kind) {g : Gh} {es : List (AV × AV)} {en : List MapEntry} (h : REs g es en) (hall : es.all (fun e => keyKind (tyOf P t).kind e.1) = true) : ∀ e ∈ en, IsKey d e.key := by
  intro e he
  obtain ⟨i, hi, rfl⟩ := List.getElem_of_mem he
  have hi' : i < es.length := by rw [h.1]; exact hi
  have := h.2 i es[i] en[i] (List.getElem?_eq_getElem hi') (List.getElem?_eq_getElem hi)
  exact keyKind_V hd this.1 (List.all_eq_true.1 hall _ (List.getElem_mem hi'))

theorem sound_lookup {P : Program} {g : Gh} {w : World} {σ : Store} (hc : Conc g w σ) {t : TypeId} {m key : AV} {mv kv : Value} (hm : R g m mv) (hkey : R g key kv) {ok : Bool} {k : AV → Prop} (hk : lookupA P (tyOf P t) σ m key ok k) :
    ∃ u r, (Instr.lookup t mv kv ok).run P w = .ok u w ∧ R g r u ∧ k r := by
  obtain ⟨hkind, hkk, hoe, hk⟩ := hk
  have hu := map_ty hkind
  obtain ⟨d, hud, hdk⟩ := key_ty hkk
  have hisk := keyKind_V hdk hkey hkk
  have hck : ∀ b, (Instr.checkKey b 10000 (tyOf P t).key kv).run P w = .ok () w := fun b => run_checkKey hud ⟨_, hisk⟩ 9999 b kv
  have fin : ∀ (a : AV) (v : Value) (b : Bool), R g a v → R g (if ok = true then .tup [a, .bool b] else a) (if ok = true then .tuple #[v, .bool b] else v) := by
    intro a v b h
    split
    · exact R_tup2 h (.bool b)
    · exact h
  split at hk
  · split at hk
    · rename_i z hz
      cases hm
      obtain ⟨zv, hzv, hzr, _⟩ := run_zero' hoe hz w
      refine ⟨if ok = true then .tuple #[zv, .bool false] else zv, _, ?_, fin z zv false (hzr g), hk⟩
      have hfk := run_findKey (P := P) (w := w) hud (k := kv) (en := []) (r := none) rfl
      unfold Instr.lookup
      simp only [Sem.run_bind, run_underlying hu, Result.andThen_ok, hck, hfk, hzv, Sem.run_pure]

    · exact hk.elim
  · rename_i o
    split at hk
    · rename_i es hes
      cases hm with
      | map hb =>
        rename_i b
        obtain ⟨en, ck, hh, hre⟩ := map_at hc hes hb
        obtain ⟨hall, hk⟩ := hk
        replace hall : es.all (fun e => keyKind (tyOf P (tyOf P t).key).kind e.1) = true := hall
        have hgo : (getObj b).run P w = .ok (.map en ck) w := by simp [getObj, Sem.run, hh]
        have habs := find_abs hkey (by rw [hdk]; exact hkk) hisk es en.toList 0 hre (by rw [hdk]; exact hall) (en_keys hdk hre hall)
        cases hf : es.find? (fun e => keyB key e.1) with
        | none =>
          rw [hf] at habs hk
          simp only at hk
          cases hz : (tyOf P (tyOf P t).elem).zero with
          | none => simp [hz] at hk
          | some z =>
            simp only [hz] at hk
            obtain ⟨zv, hzv, hzr, _⟩ := run_zero' hoe hz w
            refine ⟨if ok = true then .tuple #[zv, .bool false] else zv, _, ?_, fin z zv false (hzr g), hk⟩
            have hfk := run_findKey (w := w) hud habs.1
            unfold Instr.lookup
            simp only [Sem.run_bind, run_underlying hu, Result.andThen_ok, hgo, Sem.run_pure, hck, hfk, hzv]
        | some x =>
          rw [hf] at habs hk
          simp only at hk
          obtain ⟨j, e, h1, h2, h3, h4, h5⟩ := habs
          refine ⟨if ok = true then .tuple #[e.val, .bool true] else e.val, _, ?_, fin _ _ true h4, hk⟩
          have hfk := run_findKey (w := w) hud h1
          unfold Instr.lookup
          simp only [Sem.run_bind, run_underlying hu, Result.andThen_ok, hgo, Sem.run_pure, hck, hfk]
    · exact hk.elim
  · exact hk.elim

theorem aset_spec {g : Gh} {d : TypeDesc} {key v : AV} {kv vv : Value} (hkey : R g key kv) (hv : R g v vv) (hk : keyKind (kindOf d) key = true) (hkv : IsKey d kv) (ck : Nat) :
    ∀ (es : List (AV × AV)) (en : List MapEntry) (i : Nat), REs g es en → es.all (fun e => keyKind (kindOf d) e.1) = true → (∀ e ∈ en, IsKey d e.key) →
      (Instr.findNow d kv en i = some none ∧ REs g (asetA key v es) (en ++ [{ key := kv, val := vv, born := ck }])) ∨
      (∃ j e, Instr.findNow d kv en i = some (some (i + j, e.val)) ∧ en[j]? = some e ∧ e.key = kv ∧ REs g (asetA key v es) (en.set j { e with key := kv, val := vv }))
  | [], [], i, _, _, _ => .inl ⟨rfl, rfl, fun j kv' e h1 h2 => by
      cases j with
      | zero => simp [asetA] at h1 h2; subst h1; subst h2; exact ⟨hkey, hv⟩
      | succ j => simp [asetA] at h1⟩
  | [], _ :: _, _, h, _, _ => by have := h.1; simp at this
  | _ :: _, [], _, h, _, _ => by have := h.1; simp at this
  | a :: es, b :: en, i, h, hall, hen => by
    simp only [List.all_cons, Bool.and_eq_true] at hall
    have hb := h.head
    have hbk := hen b List.mem_cons_self
    have hiff := keyB_iff hkey hb.1 hk hall.1
    obtain ⟨r, hr, hriff⟩ := sameNow_of_keys hkv hbk
    have cons : ∀ {x : AV × AV} {y : MapEntry} {xs : List (AV × AV)} {ys : List MapEntry}, R g x.1 y.key → R g x.2 y.val → REs g xs ys → REs g (x :: xs) (y :: ys) := by
      intro x y xs ys q1 q2 q3
      refine ⟨by simp [q3.1], fun j kv' e h1 h2 => ?_⟩
      cases j with
      | zero => simp at h1 h2; subst h1; subst h2; exact ⟨q1, q2⟩
      | succ j => exact q3.2 j kv' e (by simpa using h1) (by simpa using h2)
    simp only [asetA]
    cases hq : keyB key a.1 with
    | true =>
      have hr1 : r = true := hriff.2 (hiff.1 hq)
      subst hr1
      refine .inr ⟨0, b, by simp [Instr.findNow, hr], rfl, (hiff.1 hq).symm, ?_⟩
      simp only [if_true, List.set_cons_zero]
      exact cons hkey hv h.tail
    | false =>
      have hr0 : r = false := by
        cases r with
        | false => rfl
        | true => have := hiff.2 (hriff.1 rfl); rw [hq] at this; cases this
      subst hr0
      simp only [Bool.false_eq_true, if_false]
      rcases aset_spec hkey hv hk hkv ck es en (i + 1) h.tail hall.2 (fun e he => hen e (List.mem_cons_of_mem _ he)) with ⟨h1, h2⟩ | ⟨j, e, h1, h2, h3, h4⟩
      · exact .inl ⟨by simp [Instr.findNow, hr, h1], cons hb.1 hb.2 h2⟩
      · exact .inr ⟨j + 1, e, by simp [Instr.findNow, hr, h1]; omega, by simpa using h2, h3, by simp only [List.set_cons_succ]; exact cons hb.1 hb.2 h4⟩

theorem sameBits_key {d : TypeDesc} {v : Value} (h : IsKey d v) (n : Nat) : Instr.sameBits n v v = true := by
  cases d <;> cases v <;> simp [IsKey] at h <;> cases n <;> simp [Instr.sameBits, bytes_beq]

theorem setObj_heap {P : Program} {w : World} {b : Nat} {en en' : Array MapEntry} {ck ck' : Nat} (hh : w.heap[b]? = some (.map en ck)) :
    (setObj b (.map en' ck')).run P w = .ok () { w with heap := w.heap.setIfInBounds b (.map en' ck') } := by
  simp [setObj, Sem.run, hh]

theorem Conc.setMap {g : Gh} {w : World} {σ : Store} (hc : Conc g w σ) {o b : Nat} {es es' : List (AV × AV)} (ho : σ o = some (.map es)) (hb : g.loc o = some (b, 0, 0)) {en en' : Array MapEntry} {ck ck' : Nat} (hh : w.heap[b]? = some (.map en ck))
    (hre : REs g es' en'.toList) : Conc g { w with heap := w.heap.setIfInBounds b (.map en' ck') } (σ.put o (.map es')) := by
  have hlt : b < w.heap.size := (Array.getElem?_eq_some_iff.1 hh).1
  refine hc.write (b := b) ho (fun blk hbl => ?_) (fun k hk => by simp [Array.getElem?_setIfInBounds, Ne.symm hk]) rfl rfl rfl (by simp) (fun off => ?_) ?_
  · obtain ⟨en2, ck2, hl, _⟩ := hbl
    rw [hb] at hl
    injection hl with hl
    injection hl with hl _
    exact hl.symm
  · cases hi : g.imm b off with
    | none => rfl
    | some v =>
      have := hc.imm _ _ _ hi
      simp [World.cell?, hh] at this
  · exact ⟨en', ck', hb, by simp [Array.getElem?_setIfInBounds, hlt], by simpa using hre.1, fun i kv e h1 h2 => hre.2 i kv e h1 (by simpa using h2)⟩

theorem sound_mapSet {P : Program} {g : Gh} {w : World} {σ : Store} (hc : Conc g w σ) {t : TypeId} {m key v : AV} {mv kv vv : Value} (hm : R g m mv) (hkey : R g key kv) (hv : R g v vv) {k : Store → Prop} (hk : mapSetA P (tyOf P t) σ m key v k) :
    ∃ w' σ', (Instr.mapUpdate t mv kv vv).run P w = .ok () w' ∧ Conc g w' σ' ∧ k σ' := by
  obtain ⟨hkind, hkk, hk⟩ := hk
  have hu := map_ty hkind
  obtain ⟨d, hud, hdk⟩ := key_ty hkk
  have hisk := keyKind_V hdk hkey hkk
  have hck : ∀ b, (Instr.checkKey b 10000 (tyOf P t).key kv).run P w = .ok () w := fun b => run_checkKey hud ⟨_, hisk⟩ 9999 b kv
  split at hk
  · rename_i o
    split at hk
    · rename_i es hes
      cases hm with
      | map hb =>
        rename_i b
        obtain ⟨en, ck, hh, hre⟩ := map_at hc hes hb
        obtain ⟨hall, hk⟩ := hk
        replace hall : es.all (fun e => keyKind (tyOf P (tyOf P t).key).kind e.1) = true := hall
        have hgo : (getObj b).run P w = .ok (.map en ck) w := by simp [getObj, Sem.run, hh]
        rcases aset_spec hkey hv (by rw [hdk]; exact hkk) hisk ck es en.toList 0 hre (by rw [hdk]; exact hall) (en_keys hdk hre hall) with ⟨h1, h2⟩ | ⟨j, e, h1, h2, h3, h4⟩
        · have hfk := run_findKey (w := w) hud h1
          refine ⟨_, _, ?_, hc.setMap hes hb hh (en' := en.push { key := kv, val := vv, born := ck }) (ck' := ck + 1) (by simpa using h2), hk⟩
          unfold Instr.mapUpdate
          simp only [Sem.run_bind, run_underlying hu, Result.andThen_ok, hgo, hck, hfk]
          exact setObj_heap hh
        · have hfk := run_findKey (w := w) hud h1
          have hj : j < en.size := by have := (List.getElem?_eq_some_iff.1 h2).1; simpa using this
          have hej : en[j]? = some e := by simpa using h2
          refine ⟨_, _, ?_, hc.setMap hes hb hh (en' := en.modify j fun x => { x with key := kv, val := vv }) (ck' := ck) ?_, hk⟩
          · unfold Instr.mapUpdate
            simp only [Sem.run_bind, run_underlying hu, Result.andThen_ok, hgo, hck, hfk, Nat.zero_add, hej, Option.map_some, Option.getD_some, Instr.keyThatStays, h3, sameBits_key hisk, if_true, Sem.run_pure]
            exact setObj_heap hh
          · have : (en.modify j fun x => { x with key := kv, val := vv }).toList = en.toList.set j { e with key := kv, val := vv } := by
              apply List.ext_getElem?
              intro q
              rw [Array.getElem?_toList, Array.getElem?_modify, List.getElem?_set]
              by_cases hq : j = q
              · subst hq
                rw [if_pos rfl, if_pos rfl, if_pos (by simpa using hj), hej]
                rfl
              · rw [if_neg hq, if_neg hq]
                simp
            rw [this]
            exact h4
    · exact hk.elim
  · exact hk.elim

theorem adel_spec {g : Gh} {d : TypeDesc} {key : AV} {kv : Value} (hkey : R g key kv) (hk : keyKind (kindOf d) key = true) (hkv : IsKey d kv) :
    ∀ (es : List (AV × AV)) (en : List MapEntry) (i : Nat), REs g es en → es.all (fun e => keyKind (kindOf d) e.1) = true → (∀ e ∈ en, IsKey d e.key) →
      (Instr.findNow d kv en i = some none ∧ REs g (adelA key es) en) ∨
      (∃ j e, Instr.findNow d kv en i = some (some (i + j, e.val)) ∧ en[j]? = some e ∧ REs g (adelA key es) (en.eraseIdx j))
  | [], [], i, h, _, _ => .inl ⟨rfl, h⟩
  | [], _ :: _, _, h, _, _ => by have := h.1; simp at this
  | _ :: _, [], _, h, _, _ => by have := h.1; simp at this
  | a :: es, b :: en, i, h, hall, hen => by
    simp only [List.all_cons, Bool.and_eq_true] at hall
    have hb := h.head
    have hbk := hen b List.mem_cons_self
    have hiff := keyB_iff hkey hb.1 hk hall.1
    obtain ⟨r, hr, hriff⟩ := sameNow_of_keys hkv hbk
    have cons : ∀ {x : AV × AV} {y : MapEntry} {xs : List (AV × AV)} {ys : List MapEntry}, R g x.1 y.key → R g x.2 y.val → REs g xs ys → REs g (x :: xs) (y :: ys) := by
      intro x y xs ys q1 q2 q3
      refine ⟨by simp [q3.1], fun j kv' e h1 h2 => ?_⟩
      cases j with
      | zero => simp at h1 h2; subst h1; subst h2; exact ⟨q1, q2⟩
      | succ j => exact q3.2 j kv' e (by simpa using h1) (by simpa using h2)
    simp only [adelA]
    cases hq : keyB key a.1 with
    | true =>
      have hr1 : r = true := hriff.2 (hiff.1 hq)
      subst hr1
      refine .inr ⟨0, b, by simp [Instr.findNow, hr], rfl, ?_⟩
      simp only [if_true, List.eraseIdx_cons_zero]
      exact h.tail
    | false =>
      have hr0 : r = false := by
        cases r with
        | false => rfl
        | true => have := hiff.2 (hriff.1 rfl); rw [hq] at this; cases this
      subst hr0
      simp only [Bool.false_eq_true, if_false]
      rcases adel_spec hkey hk hkv es en (i + 1) h.tail hall.2 (fun e he => hen e (List.mem_cons_of_mem _ he)) with ⟨h1, h2⟩ | ⟨j, e, h1, h2, h3⟩
      · exact .inl ⟨by simp [Instr.findNow, hr, h1], cons hb.1 hb.2 h2⟩
      · exact .inr ⟨j + 1, e, by simp [Instr.findNow, hr, h1]; omega, by simpa using h2, by simp only [List.eraseIdx_cons_succ]; exact cons hb.1 hb.2 h3⟩

theorem sound_mapDel {P : Program} {g : Gh} {w : World} {σ : Store} (hc : Conc g w σ) {t t2 ty : TypeId} {m key : AV} {mv kv : Value} (hm : R g m mv) (hkey : R g key kv) {k : Store → Prop} (hk : mapDelA P (tyOf P t) σ m key k) :
    ∃ w' σ', (Builtin.delete_ #[t, t2] ty #[mv, kv]).run P w = .ok (.tuple #[]) w' ∧ Conc g w' σ' ∧ k σ' := by
  obtain ⟨hkind, hkk, hk⟩ := hk
  have hu := map_ty hkind
  obtain ⟨d, hud, hdk⟩ := key_ty hkk
  have hisk := keyKind_V hdk hkey hkk
  have hck : ∀ b, (Instr.checkKey b 10000 (tyOf P t).key kv).run P w = .ok () w := fun b => run_checkKey hud ⟨_, hisk⟩ 9999 b kv
  split at hk
  · rename_i o
    split at hk
    · rename_i es hes
      cases hm with
      | map hb =>
        rename_i b
        obtain ⟨en, ck, hh, hre⟩ := map_at hc hes hb
        obtain ⟨hall, hk⟩ := hk
        replace hall : es.all (fun e => keyKind (tyOf P (tyOf P t).key).kind e.1) = true := hall
        have hgo : (getObj b).run P w = .ok (.map en ck) w := by simp [getObj, Sem.run, hh]
        have hlt : b < w.heap.size := (Array.getElem?_eq_some_iff.1 hh).1
        rcases adel_spec hkey (by rw [hdk]; exact hkk) hisk es en.toList 0 hre (by rw [hdk]; exact hall) (en_keys hdk hre hall) with ⟨h1, h2⟩ | ⟨j, e, h1, h2, h4⟩
        · have hfk := run_findKey (w := w) hud h1
          refine ⟨_, _, ?_, hc.setMap hes hb hh (en' := en) (ck' := ck) h2, hk⟩
          unfold Builtin.delete_
          simp [run_underlying hu, hgo, hck, hfk, setObj_heap hh]
        · have hfk := run_findKey (w := w) hud h1
          have hj : j < en.size := by have := (List.getElem?_eq_some_iff.1 h2).1; simpa using this
          refine ⟨_, _, ?_, hc.setMap hes hb hh (en' := en.eraseIdxIfInBounds j) (ck' := ck) ?_, hk⟩
          · unfold Builtin.delete_
            simp [run_underlying hu, hgo, hck, hfk, setObj_heap hh]
          · have : (en.eraseIdxIfInBounds j).toList = en.toList.eraseIdx j := by
              unfold Array.eraseIdxIfInBounds
              rw [dif_pos hj]
              simp
            rw [this]
            exact h4
    · exact hk.elim
  · exact hk.elim
end Go.Kern
