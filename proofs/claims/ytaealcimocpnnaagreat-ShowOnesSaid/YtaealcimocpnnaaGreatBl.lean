/- show.matchMay. Conditions: none. -/
import Derived.Test.YtaealcimocpnnaaGreatBk
set_option linter.unusedVariables false
set_option linter.unusedSimpArgs false
namespace Go.Proofs.YtaealcimocpnnaaGreat
open Go.Kern
theorem PCall_any2 {P : Program} {f : FuncId} {args : List AV} {σ τ : Store} {y : AV} (h : PCall P f args σ (fun r t => (∃ x, r = .tup [x, y]) ∧ t = τ)) : PCall P f args σ (fun r t => r = .tup [.any, y] ∧ t = τ) := by
  refine ⟨h.1, ?_⟩
  refine fun g w vs hl hr hc => (h.2 g w vs hl hr hc).mono ?_
  rintro e w' ⟨v, he, g', r, σ', h1, h2, h3, ⟨x, rfl⟩, h5⟩
  refine ⟨v, he, g', _, σ', h1, h2, ?_, rfl, h5⟩
  cases h3 with
  | tup hl h =>
    refine .tup hl fun i c v hc hv => ?_
    match i with
    | 0 => simp at hc; subst hc; exact .any _
    | 1 => exact h 1 c v hc hv
    | i + 2 => simp at hc
set_option maxRecDepth 100000
set_option maxHeartbeats 4000000
attribute [local irreducible] PCall W
theorem parse_pure (s : ByteArray) (hs : s.size ≤ 1000) : Pure Tryz.prog 129 [.str s] (.tup [.any, .int .i64 (parseE (B s))]) := fun σ => PCall_any2 (parse_spec s hs σ)
def matMay (m : Mat) : Bool := (decide (m.path.size = 0) || (decide (parseE (B m.path) = 0) && quotableB m.path)) && (usedB m.list && ((decide (m.c.asn = 0) && decide (m.c.n = 0)) || comMay m.c))
theorem matMay_spec (m : Mat) (hp : m.path.size ≤ 1000) (hlst : m.list.size ≤ 1000) : Pure Tryz.prog 78 [eMat m] (.bool (matMay m)) := by
  intro σ
  have h1 := parse_pure m.path hp
  have h2 := quotable_spec m.path (by omega)
  have h3 := used_spec m.list (by omega)
  have h4 := comMay_spec m.c
  by_cases hz : m.path.size = 0
  · have hm := (empty_iff m.path).2 hz
    have hv : matMay m = (usedB m.list && ((decide (m.c.asn = 0) && decide (m.c.n = 0)) || comMay m.c)) := by simp [matMay, hz]
    rw [hv]
    refine PCall_q [.tmp 2] 36 Tryz.func78 (by rfl) rfl rfl rfl rfl ?_
    repeat' first
     |refine s1 ?_|refine s2 ?_|refine wt rfl ?_|refine wf rfl ?_|(refine wc rfl (fun h=>?_) (fun h=>?_)<;>(try simp only[Bool.not_eq_true',Bool.not_eq_false',decide_eq_true_eq,decide_eq_false_iff_not,Bool.not_not] at h)<;>(try first|exact bt (by assumption) (by assumption)|contradiction|(exfalso;omega)))|((first|refine s3 (mu:=[]) ?_|(refine W_region_any [] c0 mx (by kernel_rfl) ?_;intro nu _ _)|refine prun_go ?_|refine drun_go ?_|refine s5 ?_|refine s6 ?_|with_reducible apply s7);simp -dsimp (disch:=omega) only[go_sem,Nat.reduceLT,Nat.reduceLeDiff,Nat.reduceEqDiff,Nat.reduceAdd,Nat.reduceMul,Int.reduceNeg,Nat.reduceBEq,reduceCtorEq,↓reduceIte,eMat, eCom, hm])
     |refine e1 ?_|refine e2 ?_|refine e3 ?_|refine e4 ?_|refine e5 ?_|refine e6 ?_|refine e7 ?_|refine e8 ?_|refine e9 ?_|refine e0 (by decide) ?_|refine ea ?_|(refine And.intro ?_ ?_;omega)|refine And.intro (of_eq_true PutAt_put) ?_
     |((first|refine gn (fun h=>?_) (fun h=>?_)|refine gf (fun h=>?_) (fun h=>?_)|refine gb (fun h=>?_) (fun h=>?_)|refine gp (fun h=>?_) (fun h=>?_))<;>(try first|exact bt (by assumption) (by assumption)|contradiction|(exfalso;omega))<;>(try with_reducible apply s7)<;>(try simp -dsimp (disch:=omega) only[h,go_sem,Nat.reduceLT,Nat.reduceLeDiff,Nat.reduceEqDiff,Nat.reduceAdd,Nat.reduceMul,Int.reduceNeg,Nat.reduceBEq,reduceCtorEq,↓reduceIte,eMat, eCom, hm]))|refine Exists.intro _ (Exists.intro _ (And.intro (And.intro rfl rfl) ?_))
     |refine cu (h3) ?_|refine cv (h3) ?_|refine cx (h3) ?_
     |refine cu (h4) ?_|refine cv (h4) ?_|refine cx (h4) ?_
    all_goals (first | simp only [*, Bool.true_and, Bool.false_and, Bool.false_or, Bool.true_or])
  · have hm : ¬ m.path = ⟨#[]⟩ := fun k => hz ((empty_iff m.path).1 k)
    by_cases he : parseE (B m.path) = 0
    · have hv : matMay m = (quotableB m.path && (usedB m.list && ((decide (m.c.asn = 0) && decide (m.c.n = 0)) || comMay m.c))) := by simp [matMay, hz, he]
      rw [hv]
      rw [he] at h1
      refine PCall_q [.tmp 2] 36 Tryz.func78 (by rfl) rfl rfl rfl rfl ?_
      repeat' first
       |refine s1 ?_|refine s2 ?_|refine wt rfl ?_|refine wf rfl ?_|(refine wc rfl (fun h=>?_) (fun h=>?_)<;>(try simp only[Bool.not_eq_true',Bool.not_eq_false',decide_eq_true_eq,decide_eq_false_iff_not,Bool.not_not] at h)<;>(try first|exact bt (by assumption) (by assumption)|contradiction|(exfalso;omega)))|((first|refine s3 (mu:=[]) ?_|(refine W_region_any [] c0 mx (by kernel_rfl) ?_;intro nu _ _)|refine prun_go ?_|refine drun_go ?_|refine s5 ?_|refine s6 ?_|with_reducible apply s7);simp -dsimp (disch:=omega) only[go_sem,Nat.reduceLT,Nat.reduceLeDiff,Nat.reduceEqDiff,Nat.reduceAdd,Nat.reduceMul,Int.reduceNeg,Nat.reduceBEq,reduceCtorEq,↓reduceIte,eMat, eCom, hm])
       |refine e1 ?_|refine e2 ?_|refine e3 ?_|refine e4 ?_|refine e5 ?_|refine e6 ?_|refine e7 ?_|refine e8 ?_|refine e9 ?_|refine e0 (by decide) ?_|refine ea ?_|(refine And.intro ?_ ?_;omega)|refine And.intro (of_eq_true PutAt_put) ?_
       |((first|refine gn (fun h=>?_) (fun h=>?_)|refine gf (fun h=>?_) (fun h=>?_)|refine gb (fun h=>?_) (fun h=>?_)|refine gp (fun h=>?_) (fun h=>?_))<;>(try first|exact bt (by assumption) (by assumption)|contradiction|(exfalso;omega))<;>(try with_reducible apply s7)<;>(try simp -dsimp (disch:=omega) only[h,go_sem,Nat.reduceLT,Nat.reduceLeDiff,Nat.reduceEqDiff,Nat.reduceAdd,Nat.reduceMul,Int.reduceNeg,Nat.reduceBEq,reduceCtorEq,↓reduceIte,eMat, eCom, hm]))|refine Exists.intro _ (Exists.intro _ (And.intro (And.intro rfl rfl) ?_))
       |refine cu (h1) ?_|refine cv (h1) ?_|refine cx (h1) ?_
       |refine cu (h2) ?_|refine cv (h2) ?_|refine cx (h2) ?_
       |refine cu (h3) ?_|refine cv (h3) ?_|refine cx (h3) ?_
       |refine cu (h4) ?_|refine cv (h4) ?_|refine cx (h4) ?_
      all_goals (first | simp only [*, Bool.true_and, Bool.false_and, Bool.false_or, Bool.true_or])
    · have hv : matMay m = false := by simp [matMay, hz, he]
      rw [hv]
      refine PCall_q [.tmp 2] 36 Tryz.func78 (by rfl) rfl rfl rfl rfl ?_
      repeat' first
       |refine s1 ?_|refine s2 ?_|refine wt rfl ?_|refine wf rfl ?_|(refine wc rfl (fun h=>?_) (fun h=>?_)<;>(try simp only[Bool.not_eq_true',Bool.not_eq_false',decide_eq_true_eq,decide_eq_false_iff_not,Bool.not_not] at h)<;>(try first|exact bt (by assumption) (by assumption)|contradiction|(exfalso;omega)))|((first|refine s3 (mu:=[]) ?_|(refine W_region_any [] c0 mx (by kernel_rfl) ?_;intro nu _ _)|refine prun_go ?_|refine drun_go ?_|refine s5 ?_|refine s6 ?_|with_reducible apply s7);simp -dsimp (disch:=omega) only[go_sem,Nat.reduceLT,Nat.reduceLeDiff,Nat.reduceEqDiff,Nat.reduceAdd,Nat.reduceMul,Int.reduceNeg,Nat.reduceBEq,reduceCtorEq,↓reduceIte,eMat, eCom, hm, he])
       |refine e1 ?_|refine e2 ?_|refine e3 ?_|refine e4 ?_|refine e5 ?_|refine e6 ?_|refine e7 ?_|refine e8 ?_|refine e9 ?_|refine e0 (by decide) ?_|refine ea ?_|(refine And.intro ?_ ?_;omega)|refine And.intro (of_eq_true PutAt_put) ?_
       |((first|refine gn (fun h=>?_) (fun h=>?_)|refine gf (fun h=>?_) (fun h=>?_)|refine gb (fun h=>?_) (fun h=>?_)|refine gp (fun h=>?_) (fun h=>?_))<;>(try first|exact bt (by assumption) (by assumption)|contradiction|(exfalso;omega))<;>(try with_reducible apply s7)<;>(try simp -dsimp (disch:=omega) only[h,go_sem,Nat.reduceLT,Nat.reduceLeDiff,Nat.reduceEqDiff,Nat.reduceAdd,Nat.reduceMul,Int.reduceNeg,Nat.reduceBEq,reduceCtorEq,↓reduceIte,eMat, eCom, hm, he]))|refine Exists.intro _ (Exists.intro _ (And.intro (And.intro rfl rfl) ?_))
       |refine cu (h1) ?_|refine cv (h1) ?_|refine cx (h1) ?_
       |refine cu (h2) ?_|refine cv (h2) ?_|refine cx (h2) ?_
       |refine cu (h3) ?_|refine cv (h3) ?_|refine cx (h3) ?_
       |refine cu (h4) ?_|refine cv (h4) ?_|refine cx (h4) ?_
end Go.Proofs.YtaealcimocpnnaaGreat
