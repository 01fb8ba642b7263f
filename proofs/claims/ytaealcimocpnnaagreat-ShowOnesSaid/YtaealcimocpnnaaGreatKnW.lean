/- The abstract layer, last part: strings.Join, off the kit's shelf. Conditions: none. -/
import Derived.Test.YtaealcimocpnnaaGreatKnU
import Derived.Shelf.Strings.OnBuilder
set_option linter.unusedVariables false
set_option linter.unusedSimpArgs false
namespace Go.Kern
open Go.RowKit

def joinT (sep : ByteArray) : List ByteArray → ByteArray
  | [] => ⟨#[]⟩
  | y :: r => sep ++ (y ++ joinT sep r)
/-- Texts, with one between. -/
def joinOf (sep : ByteArray) : List ByteArray → ByteArray
  | [] => ⟨#[]⟩
  | x :: r => x ++ joinT sep r
theorem data_append (a b : ByteArray) : (a ++ b).data.toList = a.data.toList ++ b.data.toList := by simp
theorem joinT_data (sep : ByteArray) : ∀ r : List ByteArray, (joinT sep r).data.toList = Lib.joinTail sep.data.toList (r.map (·.data.toList))
  | [] => rfl
  | y :: r => by
    have ih := joinT_data sep r
    simp only [joinT, data_append, ih, Lib.joinTail, List.map_cons, List.flatten_cons, List.append_assoc]
theorem joinOf_data (sep : ByteArray) : ∀ r : List ByteArray, (joinOf sep r).data.toList = Lib.join (r.map (·.data.toList)) sep.data.toList
  | [] => rfl
  | x :: r => by rw [joinOf, data_append, joinT_data, List.map_cons, Lib.join_cons]
theorem joinOf_eq (sep : ByteArray) (r : List ByteArray) : (⟨(Lib.join (r.map (·.data.toList)) sep.data.toList).toArray⟩ : ByteArray) = joinOf sep r := by
  rw [← joinOf_data]

/-- What the shelf says of strings.Join. -/
structure JoinOk (P : Program) (f : FuncId) : Prop where
  fn : ∃ fn, P.funcs[f]? = some fn ∧ (fn.name == "runtime.NumGoroutine") = false ∧ fn.body.isNone = false
  none : ∀ (a : Option Addr) (c : Nat) (sep : ByteArray) (w : World), Calls P f #[.slice a 0 c, .string sep] w fun e w' => e = .returned (.string ⟨#[]⟩) ∧ w' = w
  some : ∀ (bk o c : Nat) (xs : List ByteArray) (sep : ByteArray) (w : World), (∀ (j : Nat) x, xs[j]? = Option.some x → w.cell? ⟨bk, o + j, Option.none⟩ = Option.some (.string x)) → bk < w.heap.size → xs.length ≤ 140737488355328 → xs.length ≤ c →
    (Lib.join (xs.map (·.data.toList)) sep.data.toList).length ≤ 140737488355328 →
    Calls P f #[.slice (Option.some ⟨bk, o, Option.none⟩) xs.length c, .string sep] w fun e w' => e = .returned (.string ⟨(Lib.join (xs.map (·.data.toList)) sep.data.toList).toArray⟩) ∧ Below w.heap.size w w'

theorem args2 {g : Gh} {a : AV} {s : ByteArray} {vs : Array Value} (hl : [a, AV.str s].length = vs.size) (hr : ∀ (i : Nat) (c : AV) (v : Value), [a, AV.str s][i]? = some c → vs[i]? = some v → R g c v) : ∃ u, vs = #[u, .string s] ∧ R g a u := by
  obtain ⟨l⟩ := vs
  match l, hl with
  | [u, x], _ =>
    have h1 := hr 1 _ _ rfl rfl
    cases h1
    exact ⟨u, rfl, hr 0 _ _ rfl rfl⟩
theorem cellsL_strs (xs : List ByteArray) : cellsL (xs.map AV.str) = xs.map AV.str := by
  induction xs with
  | nil => rfl
  | cons x l ih => simp only [cellsL, List.map_cons, List.flatMap_cons] at ih ⊢; rw [ih]; rfl

theorem join_sl {P : Program} {f : FuncId} (J : JoinOk P f) (k : SK) (xs : List ByteArray) (sep : ByteArray) (hN : xs.length ≤ 140737488355328) (hlen : (joinOf sep xs).size ≤ 140737488355328) :
    Pure P f [.sl k (xs.map AV.str), .str sep] (.str (joinOf sep xs)) := fun σ => by
  refine ⟨J.fn, fun g w vs hl hr hc => ?_⟩
  obtain ⟨u, rfl, hu⟩ := args2 hl hr
  have hj := joinOf_eq sep xs
  have hlen' : (Lib.join (xs.map (·.data.toList)) sep.data.toList).length ≤ 140737488355328 := by
    have : (joinOf sep xs).size = (joinOf sep xs).data.toList.length := by simp
    rw [← joinOf_data, ← this]; exact hlen
  generalize hq : xs.map AV.str = q at hu
  cases hu with
  | slnil =>
    have : xs = [] := List.map_eq_nil_iff.1 hq
    subst this
    exact (J.none none 0 sep w).mono fun e w' ⟨he, hw⟩ => ⟨_, he, g, _, σ, .refl g, hw ▸ hc, .str _, rfl, rfl⟩
  | sl hk hs hu hi h =>
    rename_i a cap sz us
    subst hq
    rw [List.length_map]
    by_cases h0 : xs = []
    · subst h0
      exact (J.none (some a) cap sep w).mono fun e w' ⟨he, hw⟩ => ⟨_, he, g, _, σ, .refl g, hw ▸ hc, .str _, rfl, rfl⟩
    · have hsp := hs (by simpa using h0)
      obtain ⟨bk, o, sp⟩ := a
      simp only at hsp; subst hsp
      rw [cellsL_strs] at hi h
      simp only at hi
      have hcell : ∀ (j : Nat) x, xs[j]? = some x → w.cell? ⟨bk, o + j, none⟩ = some (.string x) := fun j x hx => by
        have hj := (List.getElem?_eq_some_iff.1 hx).1
        have h1 := hc.imm _ _ _ (hi j (by simpa using hj))
        have h2 := h j (.str x) (by simp [hx])
        rw [h1]
        generalize us j = v at h2
        cases h2
        rfl
      have hbk : bk < w.heap.size := by
        obtain ⟨x, hx⟩ : ∃ x, xs[0]? = some x := by
          cases xs with
          | nil => exact absurd rfl h0
          | cons x l => exact ⟨x, rfl⟩
        exact hc.imm_lt (hi 0 (by simpa using (List.getElem?_eq_some_iff.1 hx).1))
      have hcap : xs.length ≤ cap := by
        cases k with
        | nil => exact hk.elim
        | imm => simpa [SKOk] using hk
        | full => simp [SKOk] at hk; omega
        | tip o => have := hk.1; simpa using this
      refine (J.some bk o cap xs sep w hcell hbk hN hcap hlen').mono fun e w' ⟨he, hw⟩ => ⟨_, he, g, _, σ, .refl g, hc.grow hw, .str _, ?_, rfl⟩
      rw [hj]

theorem join_ms {P : Program} {f : FuncId} (J : JoinOk P f) (o : Nat) (e : TypeId) (xs : List ByteArray) (sep : ByteArray) (hN : xs.length ≤ 140737488355328) (hlen : (joinOf sep xs).size ≤ 140737488355328) (hne : xs ≠ []) (σ : Store) (ho : σ o = some (.arr e (xs.map AV.str))) :
    PCall P f [.ms o 1 0 xs.length, .str sep] σ (fun r s => r = .str (joinOf sep xs) ∧ s = σ) := by
  refine ⟨J.fn, fun g w vs hl hr hc => ?_⟩
  obtain ⟨u, rfl, hu⟩ := args2 hl hr
  have hj := joinOf_eq sep xs
  have hlen' : (Lib.join (xs.map (·.data.toList)) sep.data.toList).length ≤ 140737488355328 := by
    have : (joinOf sep xs).size = (joinOf sep xs).data.toList.length := by simp
    rw [← joinOf_data, ← this]; exact hlen
  have hpos : 0 < xs.length := List.length_pos_iff.2 hne
  cases hu with
  | ms hb hcp hle ha =>
    rename_i b n cap a
    have ha := ha (by omega)
    subst ha
    obtain ⟨_, cells, hh, _, hcs, hrr, _⟩ := arr_at hc ho hb
    rw [cellsL_strs] at hrr
    simp only [List.length_map, Nat.mul_one] at hcs
    have hcell : ∀ (j : Nat) x, xs[j]? = some x → w.cell? ⟨b, 0 * 1 + j, none⟩ = some (.string x) := fun j x hx => by
      have hj := (List.getElem?_eq_some_iff.1 hx).1
      have hv : cells[j]? = some cells[j] := Array.getElem?_eq_getElem (by omega)
      have h2 := hrr j (.str x) _ (by simp [hx]) hv
      rw [Nat.zero_mul, Nat.zero_add]
      have h3 : w.cell? ⟨b, j, none⟩ = cells[j]? := by simp [World.cell?, hh]
      rw [h3, hv]
      generalize cells[j] = v at h2
      cases h2
      rfl
    refine (J.some b (0 * 1) cap xs sep w hcell (Array.getElem?_eq_some_iff.1 hh).1 hN hle hlen').mono fun e w' ⟨he, hw⟩ => ⟨_, he, g, _, σ, .refl g, hc.grow hw, .str _, ?_, rfl⟩
    rw [hj]
end Go.Kern
