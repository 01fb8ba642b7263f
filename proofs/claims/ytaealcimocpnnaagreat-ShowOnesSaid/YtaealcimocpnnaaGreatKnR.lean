/- The abstract layer, eighteenth part: arguments of any shape, as the row's reading has them. Conditions: none. -/
import Derived.Test.YtaealcimocpnnaaGreatKnQ
import Derived.WideShapes
set_option linter.unusedVariables false
namespace Go.Kern
open Go.RowKit Go.ChangeShapes Go.WideShapes

def intSh : Sh := .int .i64

theorem sl_of {α : Type} {e : Sh} {ag : Bool} (f : α → AV) (hf : ∀ y, e.ok y → ∃ a, wrapV ag y = f a) : ∀ {l : List AV}, (Sh.sl e ag).ok l → ∃ (k : SK) (zs : List α), l = [.sl k (zs.map f)] ∧ zs.length ≤ maxLen := by
  have gen : ∀ ys : List (List AV), (∀ y, y ∈ ys → e.ok y) → ∃ zs : List α, ys.map (wrapV ag) = zs.map f ∧ zs.length = ys.length := by
    intro ys
    induction ys with
    | nil => exact fun _ => ⟨[], rfl, rfl⟩
    | cons y ys ih =>
      intro h
      obtain ⟨a, ha⟩ := hf y (h y List.mem_cons_self)
      obtain ⟨zs, h1, h2⟩ := ih fun y hy => h y (List.mem_cons_of_mem _ hy)
      exact ⟨a :: zs, by rw [List.map_cons, h1, ha]; rfl, by simp [h2]⟩
  rintro l ⟨k, ys, rfl, h1, h2⟩
  obtain ⟨zs, h3, h4⟩ := gen ys h2
  exact ⟨k, zs, by rw [h3], by omega⟩

theorem sl_ints {l : List AV} (h : (Sh.sl intSh false).ok l) : ∃ (k : SK) (zs : List Int), l = [.sl k (ints zs)] ∧ zs.length ≤ maxLen :=
  sl_of (e := intSh) (fun n => AV.int .i64 n) (fun y hy => by obtain ⟨n, rfl, _⟩ := hy; exact ⟨n, rfl⟩) h

inductive RS (W : World) : List AV → List Value → Prop
  | nil : RS W [] []
  | cons {x : AV} {v : Value} {xs : List AV} {vs : List Value} (h : R (gh0 W) x v) (hs : RS W xs vs) : RS W (x :: xs) (v :: vs)

theorem R_args {W : World} : ∀ (xs : List AV) (vs : List Value), RS W xs vs → xs.length = vs.toArray.size ∧ ∀ (i : Nat) (c : AV) (v : Value), xs[i]? = some c → vs.toArray[i]? = some v → R (gh0 W) c v
  | _, _, .nil => ⟨rfl, fun i c v h => by simp at h⟩
  | _, _, .cons h hs => by
    obtain ⟨h1, h2⟩ := R_args _ _ hs
    refine ⟨by simpa using h1, fun i c v hc hv => ?_⟩
    cases i with
    | zero => simp at hc hv; subst hc; subst hv; exact h
    | succ i => exact h2 i c v (by simpa using hc) (by simpa using hv)

theorem arg_read {H : Type} {enc : TypeId × Value → H} {P : Program} {W : World} {b : Nat} {held : Bool} {sp : Nat → Bool} {t : TypeId} {v : Value} {d : DataW H} {p : List MemPlace} (s : Sh) (hc : (s.chk P).1 t = true)
    (hv : Value.okWide P W .any b t v) (h : DataW.Trod enc P W 0 sp held t v d p) : ∃ l, s.ok l ∧ R (gh0 W) (wrapV s.isAgg l) v := by
  obtain ⟨fuel, hf⟩ := h
  obtain ⟨l, hl, hr⟩ := (s.read).1 _ _ _ _ hc hf
  refine ⟨l, hl, ?_⟩
  have one : (∃ x, l = [x]) → v.cells = #[v] → s.isAgg = false → R (gh0 W) (wrapV s.isAgg l) v := by
    rintro ⟨x, rfl⟩ hcell ha
    rw [ha]
    rw [hcell] at hr
    exact hr.2 0 x v rfl rfl
  have agg : (∃ cs, v = .agg cs) → s.isAgg = true → R (gh0 W) (wrapV s.isAgg l) v := by
    rintro ⟨cs, rfl⟩ ha
    rw [ha]
    exact .agg (by simpa [Value.cells] using hr.1) (by simpa [Value.cells] using hr.2)
  cases s with
  | int k =>
    simp only [Sh.chk] at hc
    split at hc
    · rename_i q hq
      obtain ⟨n, rfl⟩ := okWide_int hq hv
      obtain ⟨x, hx, _⟩ := hl
      exact one ⟨_, hx⟩ rfl rfl
    · cases hc
  | bool =>
    simp only [Sh.chk] at hc
    split at hc
    · rename_i hq
      obtain ⟨n, rfl⟩ := okWide_bool hq hv
      obtain ⟨x, hx⟩ := hl
      exact one ⟨_, hx⟩ rfl rfl
    · cases hc
  | str =>
    simp only [Sh.chk] at hc
    split at hc
    · rename_i hq
      obtain ⟨n, rfl⟩ := okWide_string hq hv
      obtain ⟨x, hx, _⟩ := hl
      exact one ⟨_, hx⟩ rfl rfl
    · cases hc
  | sl e ag =>
    simp only [Sh.chk] at hc
    split at hc
    · rename_i et hq
      obtain ⟨a, len, cap, rfl⟩ := okWide_slice hq hv
      obtain ⟨k, ys, hx, _⟩ := hl
      exact one ⟨_, hx⟩ rfl rfl
    · cases hc
  | nil =>
    simp only [Sh.chk] at hc
    split at hc
    · rename_i fs hq
      simp only [Value.okWide, hq] at hv
      obtain ⟨cs, rfl, _⟩ := hv
      exact agg ⟨_, rfl⟩ rfl
    · cases hc
  | cons f r =>
    simp only [Sh.chk] at hc
    split at hc
    · rename_i fs hq
      simp only [Value.okWide, hq] at hv
      obtain ⟨cs, rfl, _⟩ := hv
      exact agg ⟨_, rfl⟩ rfl
    · cases hc
end Go.Kern
