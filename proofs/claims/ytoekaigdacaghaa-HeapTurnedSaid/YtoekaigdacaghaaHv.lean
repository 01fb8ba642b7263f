/- Two heaps in one store; the order turned round; a heap without an order. Conditions: none. -/
import Derived.Test.YtoekaigdacaghaaHn
import Derived.Test.YtoekaigdacaghaaHs
set_option linter.unusedVariables false
set_option linter.unusedSimpArgs false
namespace Go.Proofs.Ytoekaigdacaghaa
open Go.Kern

def Own (p m : Nat) (v : Option (Nat × Nat × List Th)) (q : Nat) : Prop := q = p ∨ q = m ∨ ∃ n ls, v = some (q, n, ls)

theorem HS.own_some {σ : Store} {ρ : Int → Int} {fi p m : Nat} {v : Option (Nat × Nat × List Th)} {c : List Th} {em : EM} {w : Int} {s : Store} (H : HS σ ρ (.fn fi []) p m v c em w s) {q : Nat} (h : Own p m v q) : σ q = none ∧ ∃ x, s q = some x := by
  rcases h with rfl | rfl | ⟨n, ls, h⟩
  · obtain ⟨x, hx⟩ := H.ptr; exact ⟨H.fh, _, hx⟩
  · exact ⟨H.fm, _, H.rm⟩
  · have := H.row _ _ _ h
    exact ⟨this.1, _, this.2.2.2.1⟩
theorem HS.other {σ : Store} {ρ : Int → Int} {fi p m : Nat} {v : Option (Nat × Nat × List Th)} {c : List Th} {em : EM} {w : Int} {s s' : Store} (H : HS σ ρ (.fn fi []) p m v c em w s) (hs : σ.Sub s') (hk : ∀ q x, Own p m v q → s q = some x → s' q = some x) : HS σ ρ (.fn fi []) p m v c em w s' :=
  ⟨hs, H.fh, H.fm, H.hm, hk m _ (.inr (.inl rfl)) H.rm, H.lo, H.hi, H.srt, H.top, fun e => by
    obtain ⟨h1, h2, h3⟩ := H.nil e
    exact ⟨h1, h2, hk p _ (.inl rfl) h3⟩, fun o n ls e => by
    obtain ⟨h1, h2, h3, h4, h5⟩ := H.row o n ls e
    exact ⟨h1, h2, hk p _ (.inl rfl) h3, hk o _ (.inr (.inr ⟨n, ls, e⟩)) h4, h5⟩⟩

theorem two_step {σ : Store} {ρ ρ' : Int → Int} {fi p m fi' p' m' : Nat} {v v' : Option (Nat × Nat × List Th)} {c c' : List Th} {em em' : EM} {w w' : Int} {s : Store} (H : HS σ ρ (.fn fi []) p m v c em w s) (H' : HS σ ρ' (.fn fi' []) p' m' v' c' em' w' s) (D : ∀ q, Own p m v q → ¬ Own p' m' v' q) :
    ∃ σ1, HS σ1 ρ (.fn fi []) p m v c em w s ∧ ∀ (v2 : Option (Nat × Nat × List Th)) (c2 : List Th) (em2 : EM) (w2 : Int) (s2 : Store), HS σ1 ρ (.fn fi []) p m v2 c2 em2 w2 s2 → HS σ ρ (.fn fi []) p m v2 c2 em2 w2 s2 ∧ HS σ ρ' (.fn fi' []) p' m' v' c' em' w' s2 ∧ ∀ q, Own p m v2 q → ¬ Own p' m' v' q := by
  classical
  obtain ⟨σ1, h1⟩ : ∃ σ1 : Store, ∀ q, σ1 q = if Own p m v q then none else s q := ⟨fun q => if Own p m v q then none else s q, fun q => rfl⟩
  have hn : ∀ q, Own p m v q → σ1 q = none := fun q hq => by rw [h1, if_pos hq]
  have hsub1 : σ1.Sub s := fun q x hx => by
    rw [h1] at hx
    split at hx
    · cases hx
    · exact hx
  have hss : σ.Sub σ1 := fun q x hx => by
    rw [h1, if_neg (fun h => by have := (H.own_some h).1; rw [hx] at this; cases this)]
    exact H.sub q x hx
  refine ⟨σ1, ⟨hsub1, hn p (.inl rfl), hn m (.inr (.inl rfl)), H.hm, H.rm, H.lo, H.hi, H.srt, H.top, H.nil, fun o n ls e => ⟨hn o (.inr (.inr ⟨n, ls, e⟩)), (H.row o n ls e).2⟩⟩, fun v2 c2 em2 w2 s2 H2 => ?_⟩
  have hk : ∀ q x, Own p' m' v' q → s q = some x → s2 q = some x := fun q x hq hx => H2.sub q x (by rw [h1, if_neg (fun h => D q h hq)]; exact hx)
  refine ⟨H2.weaken hss, H'.other (fun q x hx => H2.sub q x (hss q x hx)) hk, fun q hq hq' => ?_⟩
  have a1 := (H2.own_some hq).1
  obtain ⟨x, hx⟩ := (H'.own_some hq').2
  rw [h1, if_neg (fun h => D q h hq'), hx] at a1
  cases a1
theorem own_symm {p m p' m' : Nat} {v v' : Option (Nat × Nat × List Th)} (D : ∀ q, Own p m v q → ¬ Own p' m' v' q) : ∀ q, Own p' m' v' q → ¬ Own p m v q := fun q h1 h2 => D q h2 h1

/-- A second heap is made. -/
theorem new_two {σ : Store} {ρ ρ' : Int → Int} {fi p m fi' p' m' : Nat} {v v' : Option (Nat × Nat × List Th)} {c c' : List Th} {em em' : EM} {w w' : Int} {s s2 : Store} (H : HS σ ρ (.fn fi []) p m v c em w s) (H' : HS s ρ' (.fn fi' []) p' m' v' c' em' w' s2) :
    HS σ ρ (.fn fi []) p m v c em w s2 ∧ HS σ ρ' (.fn fi' []) p' m' v' c' em' w' s2 ∧ ∀ q, Own p m v q → ¬ Own p' m' v' q :=
  ⟨H.other (fun q x hx => H'.sub q x (H.sub q x hx)) (fun q x _ hx => H'.sub q x hx), H'.weaken H.sub, fun q hq hq' => by
    obtain ⟨x, hx⟩ := (H.own_some hq).2
    rw [(H'.own_some hq').1] at hx; cases hx⟩

def negr : Int → Int := fun r => -r
def ltG : Int → Int → Bool := fun a b => decide (b < a)
theorem byRank_G : ByRank negr ltG := fun a b => by simp [ltG, negr]
def zerr : Int → Int := fun _ => 0
def ltN : Int → Int → Bool := fun _ _ => false
theorem byRank_N : ByRank zerr ltN := fun a b => by simp [ltN, zerr]

def zeroR (c : List Th) : List Th := c.map fun t => ⟨t.k, 0, t.w⟩
theorem zeroR_without (c : List Th) (k : ByteArray) : zeroR (without c k) = without (zeroR c) k := by
  unfold zeroR without
  rw [List.filter_map]
  rfl
theorem PopSeq.zero {c : List Th} {l : List ByteArray} (h : PopSeq zerr c l) : PopSeq idr (zeroR c) l := by
  induction h with
  | nil => exact .nil
  | cons ht hl h ih =>
    rename_i c t l
    rw [zeroR_without] at ih
    refine .cons (t := ⟨t.k, 0, t.w⟩) (List.mem_map.2 ⟨t, ht, rfl⟩) (fun u hu => ?_) ih
    obtain ⟨x, hx, rfl⟩ := List.mem_map.1 hu
    have := hl x hx
    simp only [lex, idr, zerr] at this ⊢
    omega
theorem zeroR_srt {c : List Th} (h : Srt c) : Srt (zeroR c) := by
  unfold Srt zeroR
  rw [List.pairwise_map]
  exact h

/-- What the first i operations set. -/
def contO (ops : List Op) : Nat → List Th
  | 0 => []
  | i + 1 => without (contO ops i) (ops.getD i noOp).k ++ [⟨(ops.getD i noOp).k, (ops.getD i noOp).r, (i : Int) + 1⟩]
theorem zeroR_append (a b : List Th) : zeroR (a ++ b) = zeroR a ++ zeroR b := by simp [zeroR]
theorem contZ_succ (ops : List Op) (i : Nat) : zeroR (contO ops (i + 1)) = without (zeroR (contO ops i)) (ops.getD i noOp).k ++ [⟨(ops.getD i noOp).k, 0, (i : Int) + 1⟩] := by
  rw [contO, zeroR_append, zeroR_without]; rfl
theorem contO_len (ops : List Op) : ∀ i, (contO ops i).length ≤ i
  | 0 => Nat.le_refl _
  | i + 1 => by
    have := contO_len ops i
    rw [contO, List.length_append]
    exact Nat.add_le_add (Nat.le_trans (List.length_filter_le _ _) this) (Nat.le_refl _)
theorem contO_ok (ops : List Op) : ∀ i, Srt (contO ops i) ∧ ∀ t, t ∈ contO ops i → t.w ≤ (i : Int)
  | 0 => ⟨.nil, nofun⟩
  | i + 1 => by
    obtain ⟨h1, h2⟩ := contO_ok ops i
    refine ⟨with_srt h1 h2 _ _, fun t ht => ?_⟩
    rw [contO] at ht
    rcases List.mem_append.1 ht with ht | ht
    · have := h2 t (mem_without.1 ht).1; omega
    · rw [List.mem_singleton] at ht; subst ht; simp
theorem length_zeroR (c : List Th) : (zeroR c).length = c.length := by simp [zeroR]
end Go.Proofs.Ytoekaigdacaghaa
