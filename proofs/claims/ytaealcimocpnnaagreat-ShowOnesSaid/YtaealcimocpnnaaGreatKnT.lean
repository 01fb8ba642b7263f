/- The abstract layer: what is compared cell by cell: keys of maps and sides of == that are arrays or structs of plain cells. Conditions: none. -/
import Derived.Test.YtaealcimocpnnaaGreatKnD
import Derived.ChangeKeysEq
import Derived.WideKeyRuns
import Derived.MapKept
set_option linter.unusedVariables false
set_option linter.unusedSimpArgs false
namespace Go.Kern
open Go.RowKit Go.MapKept

def PK.of : PK → Value → Bool
  | .bool, .bool _ => true
  | .int k, .int j _ => decide (j = k)
  | .str, .string _ => true
  | _, _ => false
def fits : List PK → List Value → Bool
  | [], [] => true
  | k :: ks, v :: vs => k.of v && fits ks vs
  | _, _ => false
theorem fits_length : ∀ {ks : List PK} {vs : List Value}, fits ks vs = true → vs.length = ks.length
  | [], [], _ => rfl
  | [], _ :: _, h => by simp [fits] at h
  | _ :: _, [], h => by simp [fits] at h
  | k :: ks, v :: vs, h => by
    simp only [fits, Bool.and_eq_true] at h
    simp [fits_length h.2]
theorem fits_split : ∀ {as bs : List PK} {vs : List Value}, fits (as ++ bs) vs = true → fits as (vs.take as.length) = true ∧ fits bs (vs.drop as.length) = true
  | [], bs, vs, h => by simpa [fits] using h
  | k :: as, bs, [], h => by simp [fits] at h
  | k :: as, bs, v :: vs, h => by
    simp only [List.cons_append, fits, Bool.and_eq_true] at h
    have ih := fits_split h.2
    simp [fits, h.1, ih.1, ih.2]

def whole (P : Program) (t : TypeId) (a : Value) : Bool :=
  match P.underlying t, a with
  | some (.array _ _), .agg _ => true
  | some (.struct _), .agg _ => true
  | some .bool, .bool _ => true
  | some (.int _), .int _ _ => true
  | some .string, .string _ => true
  | _, _ => false

section
variable {P : Program}

theorem part_flat {m : Nat} {t : TypeId} {ks : List PK} (h : flatOf P m t = some ks) (hs : P.cellsOf t = ks.length) (w : World) (xs : Array Value) (off : Nat) (hf : fits ks ((xs.toList.drop off).take ks.length) = true) :
    ∃ a, (part t xs off).run P w = .ok a w ∧ whole P t a = true ∧ a.cells.toList = (xs.toList.drop off).take ks.length := by
  cases m with
  | zero => simp [flatOf] at h
  | succ m =>
    unfold flatOf at h
    cases hu : P.underlying t with
    | none => simp [hu] at h
    | some d =>
      obtain ⟨i, hi⟩ := info_of_underlying hu
      have agg : (kindOf d).agg = true → (∀ ys, whole P t (.agg ys) = true) → ∃ a, (part t xs off).run P w = .ok a w ∧ whole P t a = true ∧ a.cells.toList = (xs.toList.drop off).take ks.length := by
        intro hk hw
        have hl : (xs.extract off (off + P.cellsOf t)).toList = (xs.toList.drop off).take ks.length := by
          rw [Array.toList_extract, hs]
          simp [List.extract]
        refine ⟨.agg (xs.extract off (off + P.cellsOf t)), ?_, hw _, hl⟩
        cases d <;> simp [kindOf, TK.agg] at hk <;> simp [part, isAgg, run_underlying hu, run_sizeOf w hi]
      have one : ∀ {k : PK}, ks = [k] → P.plainKey t = true → (∀ v, k.of v = true → whole P t v = true ∧ v.cells = #[v]) → ∃ a, (part t xs off).run P w = .ok a w ∧ whole P t a = true ∧ a.cells.toList = (xs.toList.drop off).take ks.length := by
        rintro k rfl hp hv
        have hlen := fits_length hf
        simp only [List.length_singleton] at hlen hf ⊢
        match hq : (xs.toList.drop off).take 1, hlen with
        | [v], _ =>
          rw [hq] at hf
          simp only [fits, Bool.and_true] at hf
          obtain ⟨h1, h2⟩ := hv v hf
          refine ⟨v, run_part_plain w hp ?_, h1, by rw [h2]⟩
          have : (xs.toList.drop off)[0]? = some v := by
            have := congrArg (fun l => l[0]?) hq
            simpa using this
          simpa using this
      cases d
      case bool =>
        simp only [hu, Option.some.injEq] at h
        exact one h.symm (by simp [Program.plainKey, hu]) (fun v hv => by cases v <;> simp [PK.of] at hv <;> simp [whole, hu, Value.cells])
      case int k =>
        simp only [hu, Option.some.injEq] at h
        exact one h.symm (by simp [Program.plainKey, hu]) (fun v hv => by cases v <;> simp [PK.of] at hv <;> simp [whole, hu, Value.cells])
      case string =>
        simp only [hu, Option.some.injEq] at h
        exact one h.symm (by simp [Program.plainKey, hu]) (fun v hv => by cases v <;> simp [PK.of] at hv <;> simp [whole, hu, Value.cells])
      case array n e => exact agg rfl (fun ys => by simp [whole, hu])
      case struct fs => exact agg rfl (fun ys => by simp [whole, hu])
      all_goals (simp [hu] at h; done)

/-- Cell by cell. -/
def EqF (P : Program) (d : Nat) (t : TypeId) (ks : List PK) : Prop :=
  ∀ (w : World) (a b : Value), whole P t a = true → whole P t b = true → fits ks a.cells.toList = true → fits ks b.cells.toList = true →
    ∃ r : Bool, (Op.equalIn d t a b).run P w = .ok r w ∧ (r = true ↔ a.cells.toList = b.cells.toList)
def ChF (P : Program) (em : Bool) (d : Nat) (t : TypeId) (ks : List PK) : Prop :=
  ∀ (w : World) (a : Value), whole P t a = true → fits ks a.cells.toList = true → (Instr.checkKey em d t a).run P w = .ok () w

/-- The rows of an array. -/
theorem fits_rows {ks : List PK} : ∀ {n : Nat} {vs : List Value}, fits (List.replicate n ks).flatten vs = true → ∀ i, i < n → fits ks ((vs.drop (i * ks.length)).take ks.length) = true
  | 0, _, _, i, hi => by omega
  | n + 1, vs, h, i, hi => by
    rw [List.replicate_succ, List.flatten_cons] at h
    obtain ⟨h1, h2⟩ := fits_split h
    cases i with
    | zero => simpa using h1
    | succ i =>
      have := fits_rows h2 i (by omega)
      rw [List.drop_drop] at this
      rw [Nat.succ_mul, Nat.add_comm]
      exact this
theorem rows_eq (c : Nat) : ∀ (n : Nat) (vs us : List Value), vs.length = n * c → us.length = n * c → (vs = us ↔ ∀ i, i < n → (vs.drop (i * c)).take c = (us.drop (i * c)).take c)
  | 0, vs, us, h1, h2 => by
    have e1 : vs = [] := List.eq_nil_of_length_eq_zero (by simpa using h1)
    have e2 : us = [] := List.eq_nil_of_length_eq_zero (by simpa using h2)
    subst e1; subst e2
    simp
  | n + 1, vs, us, h1, h2 => by
    have ih := rows_eq c n (vs.drop c) (us.drop c) (by rw [List.length_drop, h1, Nat.succ_mul]; omega) (by rw [List.length_drop, h2, Nat.succ_mul]; omega)
    constructor
    · rintro rfl i _; rfl
    · intro h
      have h0 := h 0 (by omega)
      simp only [Nat.zero_mul, List.drop_zero] at h0
      have hr := ih.2 fun i hi => by
        have := h (i + 1) (by omega)
        rw [List.drop_drop, List.drop_drop, show c + i * c = (i + 1) * c by rw [Nat.succ_mul]; omega]
        exact this
      rw [← List.take_append_drop c vs, ← List.take_append_drop c us, h0, hr]

theorem items_flat {d m : Nat} {e : TypeId} {ks : List PK} (he : flatOf P m e = some ks) (hs : P.cellsOf e = ks.length) (IH : EqF P d e ks) (xs ys : Array Value) (w : World) :
    ∀ (is : List Nat), (∀ i ∈ is, fits ks ((xs.toList.drop (i * ks.length)).take ks.length) = true) → (∀ i ∈ is, fits ks ((ys.toList.drop (i * ks.length)).take ks.length) = true) →
      ∃ r : Bool, (Op.eqItems d e ks.length xs ys is).run P w = .ok r w ∧ (r = true ↔ ∀ i ∈ is, (xs.toList.drop (i * ks.length)).take ks.length = (ys.toList.drop (i * ks.length)).take ks.length)
  | [], _, _ => ⟨true, by simp [Op.eqItems], by simp⟩
  | i :: is, hx, hy => by
    obtain ⟨a, p1, f1, c1⟩ := part_flat he hs w xs (i * ks.length) (hx i List.mem_cons_self)
    obtain ⟨b, p2, f2, c2⟩ := part_flat he hs w ys (i * ks.length) (hy i List.mem_cons_self)
    obtain ⟨r, p3, hiff⟩ := IH w a b f1 f2 (by rw [c1]; exact hx i List.mem_cons_self) (by rw [c2]; exact hy i List.mem_cons_self)
    obtain ⟨r', hr', hiff'⟩ := items_flat he hs IH xs ys w is (fun j hj => hx j (List.mem_cons_of_mem _ hj)) (fun j hj => hy j (List.mem_cons_of_mem _ hj))
    rw [c1, c2] at hiff
    simp only [Op.eqItems, Sem.run_bind, p1, p2, p3, Result.andThen_ok, List.forall_mem_cons]
    cases r
    · exact ⟨false, by simp, by simp; intro e; exact absurd (hiff.2 e) (by simp)⟩
    · exact ⟨r', by simpa using hr', by rw [hiff']; simp [hiff.1 rfl]⟩

theorem fields_flat {d m : Nat} (IH : ∀ t ks, flatOf P m t = some ks → EqF P d t ks) (xs ys : Array Value) (w : World) :
    ∀ (fs : List Field) (off : Nat) (ks : List PK), flatFs P (flatOf P m) off fs = some ks → fits ks (xs.toList.drop off) = true → fits ks (ys.toList.drop off) = true →
      ∃ r : Bool, (Op.eqFields d xs ys fs).run P w = .ok r w ∧ (r = true ↔ xs.toList.drop off = ys.toList.drop off)
  | [], off, ks, h, hx, hy => by
    simp only [flatFs, Option.some.injEq] at h
    subst h
    have e1 := List.eq_nil_of_length_eq_zero (fits_length hx)
    have e2 := List.eq_nil_of_length_eq_zero (fits_length hy)
    exact ⟨true, by simp [Op.eqFields], by rw [e1, e2]; simp⟩
  | f :: fs, off, ks, h, hx, hy => by
    unfold flatFs at h
    split at h
    · cases h
    · rename_i hn
      have hn1 : f.name ≠ "_" := fun e => hn (.inl e)
      have hn2 : f.offset = off := by
        by_cases e : f.offset = off
        · exact e
        · exact absurd (.inr e) hn
      split at h
      · rename_i k1 hk1
        split at h
        · rename_i hs
          obtain ⟨k2, hk2, rfl⟩ := Option.map_eq_some_iff.1 h
          obtain ⟨x1, x2⟩ := fits_split hx
          obtain ⟨y1, y2⟩ := fits_split hy
          rw [List.drop_drop] at x2 y2
          obtain ⟨a, p1, f1, c1⟩ := part_flat hk1 hs w xs off x1
          obtain ⟨b, p2, f2, c2⟩ := part_flat hk1 hs w ys off y1
          obtain ⟨r, p3, hiff⟩ := IH _ _ hk1 w a b f1 f2 (by rw [c1]; exact x1) (by rw [c2]; exact y1)
          obtain ⟨r', hr', hiff'⟩ := fields_flat IH xs ys w fs (off + k1.length) k2 hk2 x2 y2
          rw [c1, c2] at hiff
          have hall : xs.toList.drop off = ys.toList.drop off ↔ (xs.toList.drop off).take k1.length = (ys.toList.drop off).take k1.length ∧ xs.toList.drop (off + k1.length) = ys.toList.drop (off + k1.length) := by
            constructor
            · intro e
              refine ⟨by rw [e], ?_⟩
              rw [← List.drop_drop, ← List.drop_drop, e]
            · rintro ⟨e1, e2⟩
              rw [← List.drop_drop, ← List.drop_drop] at e2
              rw [← List.take_append_drop k1.length (xs.toList.drop off), ← List.take_append_drop k1.length (ys.toList.drop off), e1, e2]
          simp only [Op.eqFields, hn1, hn2, ne_eq, not_false_eq_true, if_true, Sem.run_bind, p1, p2, p3, Result.andThen_ok]
          cases r
          · exact ⟨false, by simp, by rw [hall]; simp; intro e; exact absurd (hiff.2 e) (by simp)⟩
          · exact ⟨r', by simpa using hr', by rw [hiff', hall]; simp [hiff.1 rfl]⟩
        · cases h
      · cases h

theorem equal_flat (d : Nat) : ∀ (m : Nat) (t : TypeId) (ks : List PK), flatOf P m t = some ks → EqF P (d + m) t ks
  | 0, _, _, h => by simp [flatOf] at h
  | m + 1, t, ks, h => by
    intro w a b wa wb fa fb
    unfold flatOf at h
    cases hu : P.underlying t with
    | none => simp [hu] at h
    | some kd =>
      cases kd
      case bool =>
        cases a <;> simp [whole, hu] at wa
        cases b <;> simp [whole, hu] at wb
        rename_i p q
        exact ⟨p == q, by rw [show d + (m + 1) = (d + m) + 1 from rfl]; simp [Op.equalIn, run_underlying hu], by simp [Value.cells]⟩
      case int k =>
        simp only [hu, Option.some.injEq] at h
        subst h
        cases a <;> simp [whole, hu] at wa
        cases b <;> simp [whole, hu] at wb
        rename_i k1 p k2 q
        simp [fits, PK.of, Value.cells] at fa fb
        subst fa; subst fb
        exact ⟨p == q, by rw [show d + (m + 1) = (d + m) + 1 from rfl]; simp [Op.equalIn, run_underlying hu], by simp [Value.cells]⟩
      case string =>
        cases a <;> simp [whole, hu] at wa
        cases b <;> simp [whole, hu] at wb
        rename_i p q
        exact ⟨p == q, by rw [show d + (m + 1) = (d + m) + 1 from rfl]; simp [Op.equalIn, run_underlying hu], by simp [Value.cells, bytes_beq]⟩
      case array n e =>
        simp only [hu] at h
        cases a <;> simp [whole, hu] at wa
        cases b <;> simp [whole, hu] at wb
        rename_i xs ys
        split at h
        · rename_i k1 hk1
          split at h
          · rename_i hs
            injection h with h
            subst h
            simp only [Value.cells] at fa fb ⊢
            have hie : ∃ i, P.info? e = some i := by
              cases m with
              | zero => simp [flatOf] at hk1
              | succ m' =>
                unfold flatOf at hk1
                cases hue : P.underlying e with
                | none => simp [hue] at hk1
                | some _ => exact info_of_underlying hue
            obtain ⟨i, hi⟩ := hie
            obtain ⟨r, hr, hiff⟩ := items_flat hk1 hs (equal_flat d m e k1 hk1) xs ys w (List.range n) (fun i hi => fits_rows fa i (by simpa using hi)) (fun i hi => fits_rows fb i (by simpa using hi))
            have l1 := fits_length fa
            have l2 := fits_length fb
            have hlen : (List.replicate n k1).flatten.length = n * k1.length := by simp
            rw [hlen] at l1 l2
            refine ⟨r, by rw [show d + (m + 1) = (d + m) + 1 from rfl, run_equalIn_array w (d + m) xs ys hu hi, hs]; exact hr, ?_⟩
            rw [hiff, rows_eq k1.length n _ _ l1 l2]
            simp
          · cases h
        · cases h
      case struct fs =>
        simp only [hu] at h
        cases a <;> simp [whole, hu] at wa
        cases b <;> simp [whole, hu] at wb
        rename_i xs ys
        split at h
        · cases h
        · rename_i hst
          simp only [Value.cells] at fa fb ⊢
          have hfs : P.fieldsOf t = fs := by simp [Program.fieldsOf, hu]
          obtain ⟨r, hr, hiff⟩ := fields_flat (fun t ks h => equal_flat d m t ks h) xs ys w fs.toList 0 ks h (by simpa using fa) (by simpa using fb)
          refine ⟨r, by rw [show d + (m + 1) = (d + m) + 1 from rfl, run_equalIn_struct w (d + m) t xs ys (by rw [hfs]; exact hu) (by simpa using hst), hfs]; exact hr, by simpa using hiff⟩
      all_goals (simp [hu] at h; done)

theorem check_flat (em : Bool) (d : Nat) : ∀ (m : Nat) (t : TypeId) (ks : List PK), flatOf P m t = some ks → ChF P em (d + m) t ks
  | 0, _, _, h => by simp [flatOf] at h
  | m + 1, t, ks, h => by
    intro w a wa fa
    unfold flatOf at h
    cases hu : P.underlying t with
    | none => simp [hu] at h
    | some kd =>
      cases kd
      case bool => cases a <;> simp [whole, hu] at wa; rw [show d + (m + 1) = (d + m) + 1 from rfl]; simp [Instr.checkKey, run_underlying hu]
      case int k => cases a <;> simp [whole, hu] at wa; rw [show d + (m + 1) = (d + m) + 1 from rfl]; simp [Instr.checkKey, run_underlying hu]
      case string => cases a <;> simp [whole, hu] at wa; rw [show d + (m + 1) = (d + m) + 1 from rfl]; simp [Instr.checkKey, run_underlying hu]
      case array n e =>
        simp only [hu] at h
        cases a <;> simp [whole, hu] at wa
        rename_i xs
        split at h
        · rename_i k1 hk1
          split at h
          · rename_i hs
            injection h with h
            subst h
            simp only [Value.cells] at fa
            have hie : ∃ i, P.info? e = some i := by
              cases m with
              | zero => simp [flatOf] at hk1
              | succ m' =>
                unfold flatOf at hk1
                cases hue : P.underlying e with
                | none => simp [hue] at hk1
                | some _ => exact info_of_underlying hue
            obtain ⟨i, hi⟩ := hie
            have IH := check_flat em d m e k1 hk1
            have each : ∀ i ∈ List.range n, fits k1 ((xs.toList.drop (i * k1.length)).take k1.length) = true := fun i hi => fits_rows fa i (by simpa using hi)
            rw [show d + (m + 1) = (d + m) + 1 from rfl, Instr.checkKey]
            simp only [Sem.run_bind, run_underlying hu, Result.andThen_ok]
            simp only [Std.Legacy.Range.forIn_eq_forIn_range', Std.Legacy.Range.size, Nat.sub_zero, Nat.add_one_sub_one, Nat.div_one]
            rw [List.range_eq_range'] at each
            generalize List.range' 0 n = is at each
            induction is with
            | nil => simp
            | cons j is ih =>
              obtain ⟨a, p1, f1, c1⟩ := part_flat hk1 hs w xs (j * k1.length) (each j List.mem_cons_self)
              have p2 := IH w a f1 (by rw [c1]; exact each j List.mem_cons_self)
              simp only [List.forIn_cons, Sem.run_bind, run_sizeOf w hi, hs, Result.andThen_ok, p1, p2, Sem.run_pure]
              exact ih (fun y hy => each y (List.mem_cons_of_mem _ hy))
          · cases h
        · cases h
      case struct fs =>
        simp only [hu] at h
        cases a <;> simp [whole, hu] at wa
        rename_i xs
        split at h
        · cases h
        · simp only [Value.cells] at fa
          rw [show d + (m + 1) = (d + m) + 1 from rfl, Instr.checkKey]
          simp only [Sem.run_bind, run_underlying hu, Result.andThen_ok]
          rw [← Array.forIn_toList]
          have fa0 : fits ks (xs.toList.drop 0) = true := by simpa using fa
          clear fa
          generalize fs.toList = L at h
          generalize 0 = off at h fa0
          induction L generalizing off ks with
          | nil => simp
          | cons f L ih =>
            unfold flatFs at h
            split at h
            · cases h
            · rename_i hn
              have hn1 : f.name ≠ "_" := fun e => hn (.inl e)
              have hn2 : f.offset = off := by
                by_cases e : f.offset = off
                · exact e
                · exact absurd (.inr e) hn
              split at h
              · rename_i k1 hk1
                split at h
                · rename_i hs
                  obtain ⟨k2, hk2, rfl⟩ := Option.map_eq_some_iff.1 h
                  obtain ⟨x1, x2⟩ := fits_split fa0
                  rw [List.drop_drop] at x2
                  obtain ⟨a, p1, f1, c1⟩ := part_flat hk1 hs w xs off x1
                  have p2 := check_flat em d m _ _ hk1 w a f1 (by rw [c1]; exact x1)
                  simp only [List.forIn_cons, Sem.run_bind, hn1, hn2, ne_eq, not_false_eq_true, if_true, Result.andThen_ok, p1, p2, Sem.run_pure]
                  exact ih k2 (off + k1.length) hk2 x2
                · cases h
              · cases h
      all_goals (simp [hu] at h; done)
end
end Go.Kern
