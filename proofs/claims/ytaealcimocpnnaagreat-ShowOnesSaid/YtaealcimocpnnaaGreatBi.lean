/- Contracts of asre's parser, fourth part: item, begins, choice. Conditions: none. -/
import Derived.Test.YtaealcimocpnnaaGreatBh
set_option linter.unusedVariables false
set_option linter.unusedSimpArgs false
namespace Go.Proofs.YtaealcimocpnnaaGreat
open Go.Kern
set_option maxRecDepth 100000
set_option maxHeartbeats 4000000
attribute [local irreducible] PCall W
attribute [local go_sem] pO

theorem begins_spec (c : Int) : Pure Tryz.prog 186 [.int .u8 c] (.bool (beginsZ c)) := by
  intro σ
  refine PCall_q [.tmp 2] 17 Tryz.func186 (by rfl) rfl rfl rfl rfl ?_
  repeat' first
   |refine s1 ?_|refine s2 ?_|refine wt rfl ?_|refine wf rfl ?_|(refine wc rfl (fun h=>?_) (fun h=>?_)<;>(try simp only[Bool.not_eq_true',Bool.not_eq_false',decide_eq_true_eq,decide_eq_false_iff_not,Bool.not_not] at h)<;>(try first|exact bt (by assumption) (by assumption)|contradiction|(exfalso;omega)))|((first|refine s3 (mu:=[]) ?_|(refine W_region_any [] c0 mx (by kernel_rfl) ?_;intro nu _ _)|refine prun_go ?_|refine drun_go ?_|refine s5 ?_|refine s6 ?_|with_reducible apply s7);simp -dsimp (disch:=omega) only[go_sem,Nat.reduceLT,Nat.reduceLeDiff,Nat.reduceEqDiff,Nat.reduceAdd,Nat.reduceMul,Int.reduceNeg,Nat.reduceBEq,reduceCtorEq,↓reduceIte])
   |refine e1 ?_|refine e2 ?_|refine e3 ?_|refine e4 ?_|refine e5 ?_|refine e6 ?_|refine e7 ?_|refine e8 ?_|refine e9 ?_|refine e0 (by decide) ?_|refine ea ?_|(refine And.intro ?_ ?_;omega)|refine And.intro (of_eq_true PutAt_put) ?_
   |((first|refine gn (fun h=>?_) (fun h=>?_)|refine gf (fun h=>?_) (fun h=>?_)|refine gb (fun h=>?_) (fun h=>?_)|refine gp (fun h=>?_) (fun h=>?_))<;>(try first|exact bt (by assumption) (by assumption)|contradiction|(exfalso;omega))<;>(try with_reducible apply s7)<;>(try simp -dsimp (disch:=omega) only[h,go_sem,Nat.reduceLT,Nat.reduceLeDiff,Nat.reduceEqDiff,Nat.reduceAdd,Nat.reduceMul,Int.reduceNeg,Nat.reduceBEq,reduceCtorEq,↓reduceIte]))|refine Exists.intro _ (Exists.intro _ (And.intro (And.intro rfl rfl) ?_))
   |refine cu (digit_spec c) ?_|refine cv (digit_spec c) ?_|refine cx (digit_spec c) ?_
  all_goals (simp only [beginsZ] at *; simp_all)
section
variable (s : ByteArray) (hs : s.size ≤ 1000)
include hs
theorem item_spec (n : Nat) (hn : n ≤ 8) (hch : ChS s n) (p : PS) (hp : p.at_ ≤ (B s).length) (o : Nat) (σ : Store) :
    PCall Tryz.prog 187 [.ptr o 0 0, .int .i64 (8 - n)] (σ.put o (pO s p)) (fun r t => r = gpt ∧ t = σ.put o (pO s (itemB (B s) (choiceB (B s) n) p))) := by
  refine PCall_isP ?_
  have hl := length_B s
  have h0 := atom_spec s hs n hn hch p hp o
  have hl0 := (atom_mono (B s) (choice_mono (B s) n)).len p hp
  obtain ⟨p0, hp0⟩ : ∃ a, atomB (B s) (choiceB (B s) n) p = a := ⟨_, rfl⟩
  rw [hp0] at hl0
  have h1 := take_spec s hs p0 hl0 42 o
  have hl1 := (take_mono (B s) 42).len p0 hl0
  obtain ⟨b1, p1, hp1⟩ : ∃ b1 p1, takeB (B s) 42 p0 = (b1, p1) := ⟨_, _, rfl⟩
  rw [hp1] at hl1
  have h2 := take_spec s hs p1 hl1 43 o
  have hl2 := (take_mono (B s) 43).len p1 hl1
  obtain ⟨b2, p2, hp2⟩ : ∃ b2 p2, takeB (B s) 43 p1 = (b2, p2) := ⟨_, _, rfl⟩
  rw [hp2] at hl2
  have h3 := take_spec s hs p2 hl2 63 o
  obtain ⟨b3, p3, hp3⟩ : ∃ b3 p3, takeB (B s) 63 p2 = (b3, p3) := ⟨_, _, rfl⟩
  simp only [itemB, hp0, hp1, hp2, hp3] at h0 h1 h2 h3 ⊢
  cases b1 with
  | true =>
    simp only [if_true]
    refine PCall_w [.tmp 4] 31 Tryz.func187 (by rfl) rfl rfl rfl rfl ?_
    repeat' first
     |refine s1 ?_|refine s2 ?_|refine wt rfl ?_|refine wf rfl ?_|(refine wc rfl (fun h=>?_) (fun h=>?_)<;>(try simp only[Bool.not_eq_true',Bool.not_eq_false',decide_eq_true_eq,decide_eq_false_iff_not,Bool.not_not] at h)<;>(try first|exact bt (by assumption) (by assumption)|contradiction|(exfalso;omega)))|((first|refine s3 (mu:=[]) ?_|(refine W_region_any [] c0 mx (by kernel_rfl) ?_;intro nu _ _)|refine prun_go ?_|refine drun_go ?_|refine s5 ?_|refine s6 ?_|with_reducible apply s7);simp -dsimp (disch:=omega) only[go_sem,Nat.reduceLT,Nat.reduceLeDiff,Nat.reduceEqDiff,Nat.reduceAdd,Nat.reduceMul,Int.reduceNeg,Nat.reduceBEq,reduceCtorEq,↓reduceIte])
     |refine e1 ?_|refine e2 ?_|refine e3 ?_|refine e4 ?_|refine e5 ?_|refine e6 ?_|refine e7 ?_|refine e8 ?_|refine e9 ?_|refine e0 (by decide) ?_|refine ea ?_|(refine And.intro ?_ ?_;omega)|refine And.intro (of_eq_true PutAt_put) ?_
     |((first|refine gn (fun h=>?_) (fun h=>?_)|refine gf (fun h=>?_) (fun h=>?_)|refine gb (fun h=>?_) (fun h=>?_)|refine gp (fun h=>?_) (fun h=>?_))<;>(try first|exact bt (by assumption) (by assumption)|contradiction|(exfalso;omega))<;>(try with_reducible apply s7)<;>(try simp -dsimp (disch:=omega) only[h,go_sem,Nat.reduceLT,Nat.reduceLeDiff,Nat.reduceEqDiff,Nat.reduceAdd,Nat.reduceMul,Int.reduceNeg,Nat.reduceBEq,reduceCtorEq,↓reduceIte]))|refine Exists.intro _ (Exists.intro _ (And.intro (And.intro rfl rfl) ?_))
     |refine cy (h0 _) ?_|refine cz (h0 _) ?_
     |refine cy (h1 _) ?_|refine cz (h1 _) ?_
  | false =>
  cases b2 with
  | true =>
    simp only [Bool.false_eq_true, if_false, if_true]
    refine PCall_w [.tmp 4] 31 Tryz.func187 (by rfl) rfl rfl rfl rfl ?_
    repeat' first
     |refine s1 ?_|refine s2 ?_|refine wt rfl ?_|refine wf rfl ?_|(refine wc rfl (fun h=>?_) (fun h=>?_)<;>(try simp only[Bool.not_eq_true',Bool.not_eq_false',decide_eq_true_eq,decide_eq_false_iff_not,Bool.not_not] at h)<;>(try first|exact bt (by assumption) (by assumption)|contradiction|(exfalso;omega)))|((first|refine s3 (mu:=[]) ?_|(refine W_region_any [] c0 mx (by kernel_rfl) ?_;intro nu _ _)|refine prun_go ?_|refine drun_go ?_|refine s5 ?_|refine s6 ?_|with_reducible apply s7);simp -dsimp (disch:=omega) only[go_sem,Nat.reduceLT,Nat.reduceLeDiff,Nat.reduceEqDiff,Nat.reduceAdd,Nat.reduceMul,Int.reduceNeg,Nat.reduceBEq,reduceCtorEq,↓reduceIte])
     |refine e1 ?_|refine e2 ?_|refine e3 ?_|refine e4 ?_|refine e5 ?_|refine e6 ?_|refine e7 ?_|refine e8 ?_|refine e9 ?_|refine e0 (by decide) ?_|refine ea ?_|(refine And.intro ?_ ?_;omega)|refine And.intro (of_eq_true PutAt_put) ?_
     |((first|refine gn (fun h=>?_) (fun h=>?_)|refine gf (fun h=>?_) (fun h=>?_)|refine gb (fun h=>?_) (fun h=>?_)|refine gp (fun h=>?_) (fun h=>?_))<;>(try first|exact bt (by assumption) (by assumption)|contradiction|(exfalso;omega))<;>(try with_reducible apply s7)<;>(try simp -dsimp (disch:=omega) only[h,go_sem,Nat.reduceLT,Nat.reduceLeDiff,Nat.reduceEqDiff,Nat.reduceAdd,Nat.reduceMul,Int.reduceNeg,Nat.reduceBEq,reduceCtorEq,↓reduceIte]))|refine Exists.intro _ (Exists.intro _ (And.intro (And.intro rfl rfl) ?_))
     |refine cy (h0 _) ?_|refine cz (h0 _) ?_
     |refine cy (h1 _) ?_|refine cz (h1 _) ?_
     |refine cy (h2 _) ?_|refine cz (h2 _) ?_
  | false =>
  simp only [Bool.false_eq_true, if_false]
  cases b3 with
  | true =>
    refine PCall_w [.tmp 4] 31 Tryz.func187 (by rfl) rfl rfl rfl rfl ?_
    repeat' first
     |refine s1 ?_|refine s2 ?_|refine wt rfl ?_|refine wf rfl ?_|(refine wc rfl (fun h=>?_) (fun h=>?_)<;>(try simp only[Bool.not_eq_true',Bool.not_eq_false',decide_eq_true_eq,decide_eq_false_iff_not,Bool.not_not] at h)<;>(try first|exact bt (by assumption) (by assumption)|contradiction|(exfalso;omega)))|((first|refine s3 (mu:=[]) ?_|(refine W_region_any [] c0 mx (by kernel_rfl) ?_;intro nu _ _)|refine prun_go ?_|refine drun_go ?_|refine s5 ?_|refine s6 ?_|with_reducible apply s7);simp -dsimp (disch:=omega) only[go_sem,Nat.reduceLT,Nat.reduceLeDiff,Nat.reduceEqDiff,Nat.reduceAdd,Nat.reduceMul,Int.reduceNeg,Nat.reduceBEq,reduceCtorEq,↓reduceIte])
     |refine e1 ?_|refine e2 ?_|refine e3 ?_|refine e4 ?_|refine e5 ?_|refine e6 ?_|refine e7 ?_|refine e8 ?_|refine e9 ?_|refine e0 (by decide) ?_|refine ea ?_|(refine And.intro ?_ ?_;omega)|refine And.intro (of_eq_true PutAt_put) ?_
     |((first|refine gn (fun h=>?_) (fun h=>?_)|refine gf (fun h=>?_) (fun h=>?_)|refine gb (fun h=>?_) (fun h=>?_)|refine gp (fun h=>?_) (fun h=>?_))<;>(try first|exact bt (by assumption) (by assumption)|contradiction|(exfalso;omega))<;>(try with_reducible apply s7)<;>(try simp -dsimp (disch:=omega) only[h,go_sem,Nat.reduceLT,Nat.reduceLeDiff,Nat.reduceEqDiff,Nat.reduceAdd,Nat.reduceMul,Int.reduceNeg,Nat.reduceBEq,reduceCtorEq,↓reduceIte]))|refine Exists.intro _ (Exists.intro _ (And.intro (And.intro rfl rfl) ?_))
     |refine cy (h0 _) ?_|refine cz (h0 _) ?_
     |refine cy (h1 _) ?_|refine cz (h1 _) ?_
     |refine cy (h2 _) ?_|refine cz (h2 _) ?_
     |refine cy (h3 _) ?_|refine cz (h3 _) ?_
  | false =>
    refine PCall_w [.tmp 4] 31 Tryz.func187 (by rfl) rfl rfl rfl rfl ?_
    repeat' first
     |refine s1 ?_|refine s2 ?_|refine wt rfl ?_|refine wf rfl ?_|(refine wc rfl (fun h=>?_) (fun h=>?_)<;>(try simp only[Bool.not_eq_true',Bool.not_eq_false',decide_eq_true_eq,decide_eq_false_iff_not,Bool.not_not] at h)<;>(try first|exact bt (by assumption) (by assumption)|contradiction|(exfalso;omega)))|((first|refine s3 (mu:=[]) ?_|(refine W_region_any [] c0 mx (by kernel_rfl) ?_;intro nu _ _)|refine prun_go ?_|refine drun_go ?_|refine s5 ?_|refine s6 ?_|with_reducible apply s7);simp -dsimp (disch:=omega) only[go_sem,Nat.reduceLT,Nat.reduceLeDiff,Nat.reduceEqDiff,Nat.reduceAdd,Nat.reduceMul,Int.reduceNeg,Nat.reduceBEq,reduceCtorEq,↓reduceIte])
     |refine e1 ?_|refine e2 ?_|refine e3 ?_|refine e4 ?_|refine e5 ?_|refine e6 ?_|refine e7 ?_|refine e8 ?_|refine e9 ?_|refine e0 (by decide) ?_|refine ea ?_|(refine And.intro ?_ ?_;omega)|refine And.intro (of_eq_true PutAt_put) ?_
     |((first|refine gn (fun h=>?_) (fun h=>?_)|refine gf (fun h=>?_) (fun h=>?_)|refine gb (fun h=>?_) (fun h=>?_)|refine gp (fun h=>?_) (fun h=>?_))<;>(try first|exact bt (by assumption) (by assumption)|contradiction|(exfalso;omega))<;>(try with_reducible apply s7)<;>(try simp -dsimp (disch:=omega) only[h,go_sem,Nat.reduceLT,Nat.reduceLeDiff,Nat.reduceEqDiff,Nat.reduceAdd,Nat.reduceMul,Int.reduceNeg,Nat.reduceBEq,reduceCtorEq,↓reduceIte]))|refine Exists.intro _ (Exists.intro _ (And.intro (And.intro rfl rfl) ?_))
     |refine cy (h0 _) ?_|refine cz (h0 _) ?_
     |refine cy (h1 _) ?_|refine cz (h1 _) ?_
     |refine cy (h2 _) ?_|refine cz (h2 _) ?_
     |refine cy (h3 _) ?_|refine cz (h3 _) ?_
end
end Go.Proofs.YtaealcimocpnnaaGreat
