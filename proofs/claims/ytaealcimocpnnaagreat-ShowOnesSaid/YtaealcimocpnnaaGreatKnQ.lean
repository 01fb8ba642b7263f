/- A law's row, from the contract of the abstract layer. Conditions: none. -/
import Derived.Test.YtaealcimocpnnaaGreatKnP
import Derived.WalkKit
import Derived.ProofKit
import Derived.JoinedCond
set_option linter.unusedVariables false
namespace Go.Kern
open Go.RowKit Go.ChangeShapes

section
variable {H : Type} {enc : TypeId × Value → H} {P : Program}

theorem trodAll_keep {W W' : World} (hl : laidOutB P = true) (hb : Below W.heap.size W W') {sp : Nat → Bool} : ∀ (ts : List TypeId) (vs : List Value) (ds : List (DataW H)) (ps : List MemPlace),
    (∀ t, t ∈ ts → P.readableRec t = true ∧ t < P.types.size) → DataW.TrodAll enc P W 0 (fun _ => true) true ts vs ds ps → (∀ p, p ∈ ps → p.block < W.heap.size) → (∀ p, p ∈ ps → sp p.block = true) →
    DataW.TrodAll enc P W' 0 sp true ts vs ds ps
  | [], [], [], ps, _, h, _, _ => h
  | t :: ts, v :: vs, d :: ds, ps, hr, ⟨p, q, h1, h2, h3⟩, hlt, hs => by
    subst h3
    have ht := hr t List.mem_cons_self
    exact ⟨p, q, WideElems.Trod_stays hl ht.1 ht.2 h1 (fun x hx => hb.same (hlt x (List.mem_append_left _ hx))) (fun x hx => hs x (List.mem_append_left _ hx)),
      trodAll_keep hl hb ts vs ds q (fun t h => hr t (List.mem_cons_of_mem _ h)) h2 (fun x hx => hlt x (List.mem_append_right _ hx)) (fun x hx => hs x (List.mem_append_right _ hx)), rfl⟩
  | [], [], _ :: _, _, _, h, _, _ => h.elim
  | [], _ :: _, _, _, _, h, _, _ => h.elim
  | _ :: _, [], _, _, _, h, _, _ => h.elim
  | _ :: _, _ :: _, [], _, _, h, _, _ => h.elim

theorem law_row {fn : Func} {f : FuncId} {s : ChangeSpec} {tb : TypeId} {args : Array Value} {W : World} {ds gs : List (DataW H)} {before : List MemPlace}
    (hl : laidOutB P = true) (hr : ∀ t, t ∈ fn.params.toList → P.readableRec t = true ∧ t < P.types.size) (hres : fn.resultTypes = #[tb]) (htb : P.underlying tb = some .bool)
    (hvars : s.vars = []) (hspec : s.fn H ds = { results := [.lit (.bool true)], args := ds })
    (hW : DataW.Whole enc P fn.params.toList s.vars false W args.toList ds gs before)
    (xs : List AV) (hxl : xs.length = args.size) (hx : ∀ (i : Nat) (c : AV) (v : Value), xs[i]? = some c → args[i]? = some v → R (gh0 W) c v)
    (hp : PCall P f xs st0 (fun r s => r = .bool true ∧ s = st0)) :
    Calls P f args W fun e W' => ∃ v, e = .returned v ∧ s.post enc P fn false true false false W args v W' := by
  refine (hp.2 (gh0 W) W args hxl hx (conc0 W)).mono ?_
  rintro e W' ⟨v, he, g', r, σ', hle, hc, hrv, rfl, _⟩
  refine ⟨v, he, ?_⟩
  have hv : v = .bool true := by cases hrv; rfl
  subst hv
  have hb : Below W.heap.size W W' := by
    have h1 := hc.below
    rw [hle.w0] at h1
    exact h1
  have hlt : ∀ p, p ∈ before → p.block < W.heap.size := fun p h => hW.lt p h
  have hW2 := hW
  obtain ⟨p, q, hA, hV, hpq, hz, _⟩ := hW2
  rw [hvars] at hV
  obtain ⟨rfl, rfl⟩ := trodVars_none hV
  rw [List.append_nil] at hpq
  subst hpq
  have hfn : s.fn H (ds ++ []) = { results := [.lit (.bool true)], args := ds } := by rw [List.append_nil]; exact hspec
  have hargs : ∀ sp : Nat → Bool, (∀ x ∈ before, sp x.block = true) → DataW.TrodAll enc P W' 0 sp true fn.params.toList args.toList (s.fn H (ds ++ [])).args before := by
    intro sp hs
    rw [hfn]
    exact trodAll_keep hl hb _ _ _ _ hr hA hlt hs
  have hresT : ∀ (b : Nat) (sp : Nat → Bool) (hd : Bool), DataW.TrodAll enc P W' b sp hd fn.resultTypes.toList ((Value.bool true).resultList fn.resultTypes.size) (s.fn H (ds ++ [])).results [] := by
    intro b sp hd
    rw [hfn, hres]
    exact trodAll_cons_mk (shut_bool htb _) trodAll_mk0
  have hvarsT : ∀ sp : Nat → Bool, DataW.TrodVars enc P W' sp s.vars (s.fn H (ds ++ [])).vars [] := by
    intro sp
    rw [hfn, hvars]
    rfl
  refine ⟨ds, [], before, [], before, [], hW, hresT _ _ _, hargs _ fun x hx => ?_, hvarsT _, hb.frame _, fun _ => ?_⟩
  · simpa using hlt x hx
  · refine ⟨ok_one hres rfl (okWide_bool_mk htb _), _, _, ([] ++ before) ++ [], ⟨[] ++ before, [], trodAll_append (hargs _ fun _ _ => rfl) (hresT _ _ _), hvarsT _, rfl, ?_, nofun⟩, ?_⟩
    · intro b off h
      have h' : MemPlace.cell b off ∈ before := by simpa using h
      rw [hb.frozen (hlt _ h')]
      exact hz b off h'
    · intro x hx _
      simpa using hx
end
end Go.Kern
