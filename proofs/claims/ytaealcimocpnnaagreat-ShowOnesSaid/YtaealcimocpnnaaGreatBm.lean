/- show.mapMay. Conditions: none. -/
import Derived.Test.YtaealcimocpnnaaGreatBl
set_option linter.unusedVariables false
set_option linter.unusedSimpArgs false
namespace Go.Proofs.YtaealcimocpnnaaGreat
open Go.Kern
set_option maxRecDepth 100000
set_option maxHeartbeats 4000000
attribute [local irreducible] PCall W
def lastO (n : Int) : Ob := .arr 3 [.int .i64 n]
def lastN (last n : Int) : Int := if last < (if 65535 < n then 65535 else n) then (if 65535 < n then 65535 else n) else last
def clsMay (last : Int) (c : Cls) : Bool := withinZ c.n (last + 1) 65535 && (matMay c.m && chgMay c.s)
theorem mapMay1_spec (c : Cls) (hc : c.s.Fits) (hp : c.m.path.size ≤ 1000) (hm : c.m.list.size ≤ 1000) (last : Int) (h0 : 0 ≤ last) (h1 : last ≤ 65535) (o : Nat) (σ : Store) :
    PCall Tryz.prog 76 [eCls c, .ptr o 0 0] (σ.put o (lastO last)) (fun r t => r = .bool (clsMay last c) ∧ t = σ.put o (lastO (lastN last c.n))) := by
  have w1 := within_spec c.n (last + 1) 65535
  have w2 := matMay_spec c.m hp hm
  have w3 := chgMay_spec c.s hc
  obtain ⟨b1, hb1⟩ : ∃ b, withinZ c.n (last + 1) 65535 = b := ⟨_, rfl⟩
  obtain ⟨b2, hb2⟩ : ∃ b, matMay c.m = b := ⟨_, rfl⟩
  obtain ⟨b3, hb3⟩ : ∃ b, chgMay c.s = b := ⟨_, rfl⟩
  simp only [clsMay, hb1, hb2, hb3] at w1 w2 w3 ⊢
  refine PCall_w [.tmp 3] 26 Tryz.func76 (by rfl) rfl rfl rfl rfl ?_
  repeat' first
   |refine s1 ?_|refine s2 ?_|refine wt rfl ?_|refine wf rfl ?_|(refine wc rfl (fun h=>?_) (fun h=>?_)<;>(try simp only[Bool.not_eq_true',Bool.not_eq_false',decide_eq_true_eq,decide_eq_false_iff_not,Bool.not_not] at h)<;>(try first|exact bt (by assumption) (by assumption)|contradiction|(exfalso;omega)))|((first|refine s3 (mu:=[]) ?_|(refine W_region_any [] c0 mx (by kernel_rfl) ?_;intro nu _ _)|refine prun_go ?_|refine drun_go ?_|refine s5 ?_|refine s6 ?_|with_reducible apply s7);simp -dsimp (disch:=omega) only[go_sem,Nat.reduceLT,Nat.reduceLeDiff,Nat.reduceEqDiff,Nat.reduceAdd,Nat.reduceMul,Int.reduceNeg,Nat.reduceBEq,reduceCtorEq,↓reduceIte,eCls, eMat, eChg, eCom, lastO])
   |refine e1 ?_|refine e2 ?_|refine e3 ?_|refine e4 ?_|refine e5 ?_|refine e6 ?_|refine e7 ?_|refine e8 ?_|refine e9 ?_|refine e0 (by decide) ?_|refine ea ?_|(refine And.intro ?_ ?_;omega)|refine And.intro (of_eq_true PutAt_put) ?_
   |((first|refine gn (fun h=>?_) (fun h=>?_)|refine gf (fun h=>?_) (fun h=>?_)|refine gb (fun h=>?_) (fun h=>?_)|refine gp (fun h=>?_) (fun h=>?_))<;>(try first|exact bt (by assumption) (by assumption)|contradiction|(exfalso;omega))<;>(try with_reducible apply s7)<;>(try simp -dsimp (disch:=omega) only[h,go_sem,Nat.reduceLT,Nat.reduceLeDiff,Nat.reduceEqDiff,Nat.reduceAdd,Nat.reduceMul,Int.reduceNeg,Nat.reduceBEq,reduceCtorEq,↓reduceIte,eCls, eMat, eChg, eCom, lastO]))|refine Exists.intro _ (Exists.intro _ (And.intro (And.intro rfl rfl) ?_))
   |refine cu (w1) ?_|refine cv (w1) ?_|refine cx (w1) ?_
   |refine cu (w2) ?_|refine cv (w2) ?_|refine cx (w2) ?_
   |refine cu (w3) ?_|refine cv (w3) ?_|refine cx (w3) ?_
  all_goals (simp only [*, Bool.true_and, Bool.false_and]; exact ⟨_, Store.Sub.refl _, trivial, rfl⟩)
end Go.Proofs.YtaealcimocpnnaaGreat
