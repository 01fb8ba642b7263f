/- Contracts of asre's parser, first part: fail, peek, take, number, part. Conditions: none. -/
import Derived.Test.YtaealcimocpnnaaGreatBe
set_option linter.unusedVariables false
set_option linter.unusedSimpArgs false
namespace Go.Proofs.YtaealcimocpnnaaGreat
open Go.Kern
set_option maxRecDepth 100000
set_option maxHeartbeats 4000000
attribute [local irreducible] PCall W

def pO (s : ByteArray) (p : PS) : Ob := .arr 213 [.agg [.str s, .int .i64 p.at_, .int .i64 p.e]]
attribute [local go_sem] pO splice

theorem fail_spec (s : ByteArray) (p : PS) (e : Int) (o : Nat) (σ : Store) :
    PCall Tryz.prog 166 [.ptr o 0 0, .int .i64 e] (σ.put o (pO s p)) (fun r t => r = .tup [] ∧ t = σ.put o (pO s (failB e p))) := by
  refine PCall_w [] 13 Tryz.func166 (by rfl) rfl rfl rfl rfl ?_
  by_cases h : p.e = 0
  · simp only [failB, if_pos h]
    repeat' first
     |refine s1 ?_|refine s2 ?_|refine wt rfl ?_|refine wf rfl ?_|(refine wc rfl (fun h=>?_) (fun h=>?_)<;>(try simp only[Bool.not_eq_true',Bool.not_eq_false',decide_eq_true_eq,decide_eq_false_iff_not,Bool.not_not] at h)<;>(try first|exact bt (by assumption) (by assumption)|contradiction|(exfalso;omega)))|((first|refine s3 (mu:=[]) ?_|(refine W_region_any [] c0 mx (by kernel_rfl) ?_;intro nu _ _)|refine prun_go ?_|refine drun_go ?_|refine s5 ?_|refine s6 ?_|with_reducible apply s7);simp -dsimp (disch:=omega) only[go_sem,Nat.reduceLT,Nat.reduceLeDiff,Nat.reduceEqDiff,Nat.reduceAdd,Nat.reduceMul,Int.reduceNeg,Nat.reduceBEq,reduceCtorEq,↓reduceIte,h])
     |refine e1 ?_|refine e2 ?_|refine e3 ?_|refine e4 ?_|refine e5 ?_|refine e6 ?_|refine e7 ?_|refine e8 ?_|refine e9 ?_|refine e0 (by decide) ?_|refine ea ?_|(refine And.intro ?_ ?_;omega)|refine And.intro (of_eq_true PutAt_put) ?_
     |((first|refine gn (fun h=>?_) (fun h=>?_)|refine gf (fun h=>?_) (fun h=>?_)|refine gb (fun h=>?_) (fun h=>?_)|refine gp (fun h=>?_) (fun h=>?_))<;>(try first|exact bt (by assumption) (by assumption)|contradiction|(exfalso;omega))<;>(try with_reducible apply s7)<;>(try simp -dsimp (disch:=omega) only[h,go_sem,Nat.reduceLT,Nat.reduceLeDiff,Nat.reduceEqDiff,Nat.reduceAdd,Nat.reduceMul,Int.reduceNeg,Nat.reduceBEq,reduceCtorEq,↓reduceIte,h]))|refine Exists.intro _ (Exists.intro _ (And.intro (And.intro rfl rfl) ?_))
  · simp only [failB, if_neg h]
    repeat' first
     |refine s1 ?_|refine s2 ?_|refine wt rfl ?_|refine wf rfl ?_|(refine wc rfl (fun h=>?_) (fun h=>?_)<;>(try simp only[Bool.not_eq_true',Bool.not_eq_false',decide_eq_true_eq,decide_eq_false_iff_not,Bool.not_not] at h)<;>(try first|exact bt (by assumption) (by assumption)|contradiction|(exfalso;omega)))|((first|refine s3 (mu:=[]) ?_|(refine W_region_any [] c0 mx (by kernel_rfl) ?_;intro nu _ _)|refine prun_go ?_|refine drun_go ?_|refine s5 ?_|refine s6 ?_|with_reducible apply s7);simp -dsimp (disch:=omega) only[go_sem,Nat.reduceLT,Nat.reduceLeDiff,Nat.reduceEqDiff,Nat.reduceAdd,Nat.reduceMul,Int.reduceNeg,Nat.reduceBEq,reduceCtorEq,↓reduceIte,h])
     |refine e1 ?_|refine e2 ?_|refine e3 ?_|refine e4 ?_|refine e5 ?_|refine e6 ?_|refine e7 ?_|refine e8 ?_|refine e9 ?_|refine e0 (by decide) ?_|refine ea ?_|(refine And.intro ?_ ?_;omega)|refine And.intro (of_eq_true PutAt_put) ?_
     |((first|refine gn (fun h=>?_) (fun h=>?_)|refine gf (fun h=>?_) (fun h=>?_)|refine gb (fun h=>?_) (fun h=>?_)|refine gp (fun h=>?_) (fun h=>?_))<;>(try first|exact bt (by assumption) (by assumption)|contradiction|(exfalso;omega))<;>(try with_reducible apply s7)<;>(try simp -dsimp (disch:=omega) only[h,go_sem,Nat.reduceLT,Nat.reduceLeDiff,Nat.reduceEqDiff,Nat.reduceAdd,Nat.reduceMul,Int.reduceNeg,Nat.reduceBEq,reduceCtorEq,↓reduceIte,h]))|refine Exists.intro _ (Exists.intro _ (And.intro (And.intro rfl rfl) ?_))

section
variable (s : ByteArray) (hs : s.size ≤ 1000)
include hs
theorem peek_spec (p : PS) (hp : p.at_ ≤ (B s).length) (o : Nat) (σ : Store) :
    PCall Tryz.prog 165 [.ptr o 0 0] (σ.put o (pO s p)) (fun r t => r = .int .u8 (chr (B s) (skipB (B s) p.at_)) ∧ t = σ.put o (pO s ⟨skipB (B s) p.at_, p.e⟩)) := by
  have hl := length_B s
  refine PCall_w [.tmp 2] 51 Tryz.func165 (by rfl) rfl rfl rfl rfl ?_
  repeat' first
   |refine s1 ?_|refine s2 ?_|refine wt rfl ?_|refine wf rfl ?_|(refine wc rfl (fun h=>?_) (fun h=>?_)<;>(try simp only[Bool.not_eq_true',Bool.not_eq_false',decide_eq_true_eq,decide_eq_false_iff_not,Bool.not_not] at h)<;>(try first|exact bt (by assumption) (by assumption)|contradiction|(exfalso;omega)))|((first|refine s3 (mu:=[]) ?_|(refine W_region_any [] c0 mx (by kernel_rfl) ?_;intro nu _ _)|refine prun_go ?_|refine drun_go ?_|refine s5 ?_|refine s6 ?_|with_reducible apply s7);simp -dsimp (disch:=omega) only[go_sem,Nat.reduceLT,Nat.reduceLeDiff,Nat.reduceEqDiff,Nat.reduceAdd,Nat.reduceMul,Int.reduceNeg,Nat.reduceBEq,reduceCtorEq,↓reduceIte])
   |refine e1 ?_|refine e2 ?_|refine e3 ?_|refine e4 ?_|refine e5 ?_|refine e6 ?_|refine e7 ?_|refine e8 ?_|refine e9 ?_|refine e0 (by decide) ?_|refine ea ?_|(refine And.intro ?_ ?_;omega)|refine And.intro (of_eq_true PutAt_put) ?_
   |((first|refine gn (fun h=>?_) (fun h=>?_)|refine gf (fun h=>?_) (fun h=>?_)|refine gb (fun h=>?_) (fun h=>?_)|refine gp (fun h=>?_) (fun h=>?_))<;>(try first|exact bt (by assumption) (by assumption)|contradiction|(exfalso;omega))<;>(try with_reducible apply s7)<;>(try simp -dsimp (disch:=omega) only[h,go_sem,Nat.reduceLT,Nat.reduceLeDiff,Nat.reduceEqDiff,Nat.reduceAdd,Nat.reduceMul,Int.reduceNeg,Nat.reduceBEq,reduceCtorEq,↓reduceIte]))|refine Exists.intro _ (Exists.intro _ (And.intro (And.intro rfl rfl) ?_))
  refine W_loop_st (fun i : Nat => [(0, .ptr o 0 0)]) (fun i => σ.put o (pO s ⟨i, p.e⟩)) (fun i => i ≤ (B s).length ∧ skipB (B s) p.at_ = skipB (B s) i) (fun i => (B s).length - i) p.at_ ⟨hp, rfl⟩ (Env.Sub_of_has (by simp [Env.Has, Env.get])) (Store.Sub.refl _) ?_
  rintro i ⟨hi, hor⟩
  by_cases hlt : i < (B s).length
  · by_cases hc : (((B s).getD i default).toNat : Int) = 32
    · have hst := skipB_step (B s) hlt (by omega)
      repeat' first
       |refine s1 ?_|refine s2 ?_|refine wt rfl ?_|refine wf rfl ?_|(refine wc rfl (fun h=>?_) (fun h=>?_)<;>(try simp only[Bool.not_eq_true',Bool.not_eq_false',decide_eq_true_eq,decide_eq_false_iff_not,Bool.not_not] at h)<;>(try first|exact bt (by assumption) (by assumption)|contradiction|(exfalso;omega)))|((first|refine s3 (mu:=[]) ?_|(refine W_region_any (id:=1) [] ⟨[3,7,14,18],[],[],[],[],[],0⟩ mx (by kernel_rfl) ?_;intro nu _ _)|(refine W_region_any (id:=3) [] ⟨[3,7],[],[],[],[],[],0⟩ mx (by kernel_rfl) ?_;intro nu _ _)|(refine W_region_any (id:=5) [] ⟨[3,7],[],[],[],[],[],0⟩ mx (by kernel_rfl) ?_;intro nu _ _)|(refine W_region_any [] c0 mx (by kernel_rfl) ?_;intro nu _ _)|refine prun_go ?_|refine drun_go ?_|refine s5 ?_|refine s6 ?_|with_reducible apply s7);simp -dsimp (disch:=omega) only[go_sem,Nat.reduceLT,Nat.reduceLeDiff,Nat.reduceEqDiff,Nat.reduceAdd,Nat.reduceMul,Int.reduceNeg,Nat.reduceBEq,reduceCtorEq,↓reduceIte,hc])
       |refine e1 ?_|refine e2 ?_|refine e3 ?_|refine e4 ?_|refine e5 ?_|refine e6 ?_|refine e7 ?_|refine e8 ?_|refine e9 ?_|refine e0 (by decide) ?_|refine ea ?_|(refine And.intro ?_ ?_;omega)|refine And.intro (of_eq_true PutAt_put) ?_
       |((first|refine gn (fun h=>?_) (fun h=>?_)|refine gf (fun h=>?_) (fun h=>?_)|refine gb (fun h=>?_) (fun h=>?_)|refine gp (fun h=>?_) (fun h=>?_))<;>(try first|exact bt (by assumption) (by assumption)|contradiction|(exfalso;omega))<;>(try with_reducible apply s7)<;>(try simp -dsimp (disch:=omega) only[h,go_sem,Nat.reduceLT,Nat.reduceLeDiff,Nat.reduceEqDiff,Nat.reduceAdd,Nat.reduceMul,Int.reduceNeg,Nat.reduceBEq,reduceCtorEq,↓reduceIte,hc]))|refine Exists.intro _ (Exists.intro _ (And.intro (And.intro rfl rfl) ?_))
      exact ⟨i + 1, by omega, ⟨by omega, by rw [hor, hst]⟩, Env.Sub_of_has (by simp [Env.Has, Env.get]), by simp [pO]; exact Store.Sub.refl _⟩
    · have hst := skipB_stop (B s) hlt (by omega)
      rw [hor, hst]
      repeat' first
       |refine s1 ?_|refine s2 ?_|refine wt rfl ?_|refine wf rfl ?_|(refine wc rfl (fun h=>?_) (fun h=>?_)<;>(try simp only[Bool.not_eq_true',Bool.not_eq_false',decide_eq_true_eq,decide_eq_false_iff_not,Bool.not_not] at h)<;>(try first|exact bt (by assumption) (by assumption)|contradiction|(exfalso;omega)))|((first|refine s3 (mu:=[]) ?_|(refine W_region_any (id:=1) [] ⟨[3,7,14,18],[],[],[],[],[],0⟩ mx (by kernel_rfl) ?_;intro nu _ _)|(refine W_region_any (id:=3) [] ⟨[3,7],[],[],[],[],[],0⟩ mx (by kernel_rfl) ?_;intro nu _ _)|(refine W_region_any (id:=5) [] ⟨[3,7],[],[],[],[],[],0⟩ mx (by kernel_rfl) ?_;intro nu _ _)|(refine W_region_any [] c0 mx (by kernel_rfl) ?_;intro nu _ _)|refine prun_go ?_|refine drun_go ?_|refine s5 ?_|refine s6 ?_|with_reducible apply s7);simp -dsimp (disch:=omega) only[go_sem,Nat.reduceLT,Nat.reduceLeDiff,Nat.reduceEqDiff,Nat.reduceAdd,Nat.reduceMul,Int.reduceNeg,Nat.reduceBEq,reduceCtorEq,↓reduceIte,hc, chr, hlt])
       |refine e1 ?_|refine e2 ?_|refine e3 ?_|refine e4 ?_|refine e5 ?_|refine e6 ?_|refine e7 ?_|refine e8 ?_|refine e9 ?_|refine e0 (by decide) ?_|refine ea ?_|(refine And.intro ?_ ?_;omega)|refine And.intro (of_eq_true PutAt_put) ?_
       |((first|refine gn (fun h=>?_) (fun h=>?_)|refine gf (fun h=>?_) (fun h=>?_)|refine gb (fun h=>?_) (fun h=>?_)|refine gp (fun h=>?_) (fun h=>?_))<;>(try first|exact bt (by assumption) (by assumption)|contradiction|(exfalso;omega))<;>(try with_reducible apply s7)<;>(try simp -dsimp (disch:=omega) only[h,go_sem,Nat.reduceLT,Nat.reduceLeDiff,Nat.reduceEqDiff,Nat.reduceAdd,Nat.reduceMul,Int.reduceNeg,Nat.reduceBEq,reduceCtorEq,↓reduceIte,hc, chr, hlt]))|refine Exists.intro _ (Exists.intro _ (And.intro (And.intro rfl rfl) ?_))
  · have hie : i = (B s).length := by omega
    have hst := skipB_end (B s) (i := i) (by omega)
    rw [hor, hst]
    repeat' first
     |refine s1 ?_|refine s2 ?_|refine wt rfl ?_|refine wf rfl ?_|(refine wc rfl (fun h=>?_) (fun h=>?_)<;>(try simp only[Bool.not_eq_true',Bool.not_eq_false',decide_eq_true_eq,decide_eq_false_iff_not,Bool.not_not] at h)<;>(try first|exact bt (by assumption) (by assumption)|contradiction|(exfalso;omega)))|((first|refine s3 (mu:=[]) ?_|(refine W_region_any (id:=1) [] ⟨[3,7,14,18],[],[],[],[],[],0⟩ mx (by kernel_rfl) ?_;intro nu _ _)|(refine W_region_any (id:=3) [] ⟨[3,7],[],[],[],[],[],0⟩ mx (by kernel_rfl) ?_;intro nu _ _)|(refine W_region_any (id:=5) [] ⟨[3,7],[],[],[],[],[],0⟩ mx (by kernel_rfl) ?_;intro nu _ _)|(refine W_region_any [] c0 mx (by kernel_rfl) ?_;intro nu _ _)|refine prun_go ?_|refine drun_go ?_|refine s5 ?_|refine s6 ?_|with_reducible apply s7);simp -dsimp (disch:=omega) only[go_sem,Nat.reduceLT,Nat.reduceLeDiff,Nat.reduceEqDiff,Nat.reduceAdd,Nat.reduceMul,Int.reduceNeg,Nat.reduceBEq,reduceCtorEq,↓reduceIte,chr, hlt])
     |refine e1 ?_|refine e2 ?_|refine e3 ?_|refine e4 ?_|refine e5 ?_|refine e6 ?_|refine e7 ?_|refine e8 ?_|refine e9 ?_|refine e0 (by decide) ?_|refine ea ?_|(refine And.intro ?_ ?_;omega)|refine And.intro (of_eq_true PutAt_put) ?_
     |((first|refine gn (fun h=>?_) (fun h=>?_)|refine gf (fun h=>?_) (fun h=>?_)|refine gb (fun h=>?_) (fun h=>?_)|refine gp (fun h=>?_) (fun h=>?_))<;>(try first|exact bt (by assumption) (by assumption)|contradiction|(exfalso;omega))<;>(try with_reducible apply s7)<;>(try simp -dsimp (disch:=omega) only[h,go_sem,Nat.reduceLT,Nat.reduceLeDiff,Nat.reduceEqDiff,Nat.reduceAdd,Nat.reduceMul,Int.reduceNeg,Nat.reduceBEq,reduceCtorEq,↓reduceIte,chr, hlt]))|refine Exists.intro _ (Exists.intro _ (And.intro (And.intro rfl rfl) ?_))

theorem take_spec (p : PS) (hp : p.at_ ≤ (B s).length) (c : Int) (o : Nat) (σ : Store) :
    PCall Tryz.prog 163 [.ptr o 0 0, .int .u8 c] (σ.put o (pO s p)) (fun r t => r = .bool (takeB (B s) c p).1 ∧ t = σ.put o (pO s (takeB (B s) c p).2)) := by
  have hl := length_B s
  obtain ⟨i, e⟩ := p
  simp only at hp
  have h2 := skipB_len (B s) hp
  have hpk := peek_spec s hs ⟨i, e⟩ hp o σ
  refine PCall_w [.tmp 4] 35 Tryz.func163 (by rfl) rfl rfl rfl rfl ?_
  by_cases h : e = 0
  · subst h
    obtain ⟨a, ha⟩ : ∃ a, skipB (B s) i = a := ⟨_, rfl⟩
    simp only [takeB, if_true]
    simp only at hpk
    rw [ha] at hpk h2 ⊢
    by_cases hc : chr (B s) a = c
    · by_cases hlt : a < (B s).length
      · rw [if_pos ⟨hc, hlt⟩]
        repeat' first
         |refine s1 ?_|refine s2 ?_|refine wt rfl ?_|refine wf rfl ?_|(refine wc rfl (fun h=>?_) (fun h=>?_)<;>(try simp only[Bool.not_eq_true',Bool.not_eq_false',decide_eq_true_eq,decide_eq_false_iff_not,Bool.not_not] at h)<;>(try first|exact bt (by assumption) (by assumption)|contradiction|(exfalso;omega)))|((first|refine s3 (mu:=[]) ?_|(refine W_region_any (id:=1) [] ⟨[3,15,19],[7],[],[],[],[],0⟩ mx (by kernel_rfl) ?_;intro nu _ _)|(refine W_region_any [] c0 mx (by kernel_rfl) ?_;intro nu _ _)|refine prun_go ?_|refine drun_go ?_|refine s5 ?_|refine s6 ?_|with_reducible apply s7);simp -dsimp (disch:=omega) only[go_sem,Nat.reduceLT,Nat.reduceLeDiff,Nat.reduceEqDiff,Nat.reduceAdd,Nat.reduceMul,Int.reduceNeg,Nat.reduceBEq,reduceCtorEq,↓reduceIte,hc])
         |refine e1 ?_|refine e2 ?_|refine e3 ?_|refine e4 ?_|refine e5 ?_|refine e6 ?_|refine e7 ?_|refine e8 ?_|refine e9 ?_|refine e0 (by decide) ?_|refine ea ?_|(refine And.intro ?_ ?_;omega)|refine And.intro (of_eq_true PutAt_put) ?_
         |((first|refine gn (fun h=>?_) (fun h=>?_)|refine gf (fun h=>?_) (fun h=>?_)|refine gb (fun h=>?_) (fun h=>?_)|refine gp (fun h=>?_) (fun h=>?_))<;>(try first|exact bt (by assumption) (by assumption)|contradiction|(exfalso;omega))<;>(try with_reducible apply s7)<;>(try simp -dsimp (disch:=omega) only[h,go_sem,Nat.reduceLT,Nat.reduceLeDiff,Nat.reduceEqDiff,Nat.reduceAdd,Nat.reduceMul,Int.reduceNeg,Nat.reduceBEq,reduceCtorEq,↓reduceIte,hc]))|refine Exists.intro _ (Exists.intro _ (And.intro (And.intro rfl rfl) ?_))
         |refine cy (hpk) ?_|refine cz (hpk) ?_
        exact sub_eq (by simp)
      · rw [if_neg (fun k => hlt k.2)]
        repeat' first
         |refine s1 ?_|refine s2 ?_|refine wt rfl ?_|refine wf rfl ?_|(refine wc rfl (fun h=>?_) (fun h=>?_)<;>(try simp only[Bool.not_eq_true',Bool.not_eq_false',decide_eq_true_eq,decide_eq_false_iff_not,Bool.not_not] at h)<;>(try first|exact bt (by assumption) (by assumption)|contradiction|(exfalso;omega)))|((first|refine s3 (mu:=[]) ?_|(refine W_region_any (id:=1) [] ⟨[3,15,19],[7],[],[],[],[],0⟩ mx (by kernel_rfl) ?_;intro nu _ _)|(refine W_region_any [] c0 mx (by kernel_rfl) ?_;intro nu _ _)|refine prun_go ?_|refine drun_go ?_|refine s5 ?_|refine s6 ?_|with_reducible apply s7);simp -dsimp (disch:=omega) only[go_sem,Nat.reduceLT,Nat.reduceLeDiff,Nat.reduceEqDiff,Nat.reduceAdd,Nat.reduceMul,Int.reduceNeg,Nat.reduceBEq,reduceCtorEq,↓reduceIte,hc])
         |refine e1 ?_|refine e2 ?_|refine e3 ?_|refine e4 ?_|refine e5 ?_|refine e6 ?_|refine e7 ?_|refine e8 ?_|refine e9 ?_|refine e0 (by decide) ?_|refine ea ?_|(refine And.intro ?_ ?_;omega)|refine And.intro (of_eq_true PutAt_put) ?_
         |((first|refine gn (fun h=>?_) (fun h=>?_)|refine gf (fun h=>?_) (fun h=>?_)|refine gb (fun h=>?_) (fun h=>?_)|refine gp (fun h=>?_) (fun h=>?_))<;>(try first|exact bt (by assumption) (by assumption)|contradiction|(exfalso;omega))<;>(try with_reducible apply s7)<;>(try simp -dsimp (disch:=omega) only[h,go_sem,Nat.reduceLT,Nat.reduceLeDiff,Nat.reduceEqDiff,Nat.reduceAdd,Nat.reduceMul,Int.reduceNeg,Nat.reduceBEq,reduceCtorEq,↓reduceIte,hc]))|refine Exists.intro _ (Exists.intro _ (And.intro (And.intro rfl rfl) ?_))
         |refine cy (hpk) ?_|refine cz (hpk) ?_
    · rw [if_neg (fun k => hc k.1)]
      repeat' first
       |refine s1 ?_|refine s2 ?_|refine wt rfl ?_|refine wf rfl ?_|(refine wc rfl (fun h=>?_) (fun h=>?_)<;>(try simp only[Bool.not_eq_true',Bool.not_eq_false',decide_eq_true_eq,decide_eq_false_iff_not,Bool.not_not] at h)<;>(try first|exact bt (by assumption) (by assumption)|contradiction|(exfalso;omega)))|((first|refine s3 (mu:=[]) ?_|(refine W_region_any (id:=1) [] ⟨[3,15,19],[7],[],[],[],[],0⟩ mx (by kernel_rfl) ?_;intro nu _ _)|(refine W_region_any [] c0 mx (by kernel_rfl) ?_;intro nu _ _)|refine prun_go ?_|refine drun_go ?_|refine s5 ?_|refine s6 ?_|with_reducible apply s7);simp -dsimp (disch:=omega) only[go_sem,Nat.reduceLT,Nat.reduceLeDiff,Nat.reduceEqDiff,Nat.reduceAdd,Nat.reduceMul,Int.reduceNeg,Nat.reduceBEq,reduceCtorEq,↓reduceIte,hc])
       |refine e1 ?_|refine e2 ?_|refine e3 ?_|refine e4 ?_|refine e5 ?_|refine e6 ?_|refine e7 ?_|refine e8 ?_|refine e9 ?_|refine e0 (by decide) ?_|refine ea ?_|(refine And.intro ?_ ?_;omega)|refine And.intro (of_eq_true PutAt_put) ?_
       |((first|refine gn (fun h=>?_) (fun h=>?_)|refine gf (fun h=>?_) (fun h=>?_)|refine gb (fun h=>?_) (fun h=>?_)|refine gp (fun h=>?_) (fun h=>?_))<;>(try first|exact bt (by assumption) (by assumption)|contradiction|(exfalso;omega))<;>(try with_reducible apply s7)<;>(try simp -dsimp (disch:=omega) only[h,go_sem,Nat.reduceLT,Nat.reduceLeDiff,Nat.reduceEqDiff,Nat.reduceAdd,Nat.reduceMul,Int.reduceNeg,Nat.reduceBEq,reduceCtorEq,↓reduceIte,hc]))|refine Exists.intro _ (Exists.intro _ (And.intro (And.intro rfl rfl) ?_))
       |refine cy (hpk) ?_|refine cz (hpk) ?_
  · simp only [takeB, if_neg h]
    repeat' first
     |refine s1 ?_|refine s2 ?_|refine wt rfl ?_|refine wf rfl ?_|(refine wc rfl (fun h=>?_) (fun h=>?_)<;>(try simp only[Bool.not_eq_true',Bool.not_eq_false',decide_eq_true_eq,decide_eq_false_iff_not,Bool.not_not] at h)<;>(try first|exact bt (by assumption) (by assumption)|contradiction|(exfalso;omega)))|((first|refine s3 (mu:=[]) ?_|(refine W_region_any (id:=1) [] ⟨[3,15,19],[7],[],[],[],[],0⟩ mx (by kernel_rfl) ?_;intro nu _ _)|(refine W_region_any [] c0 mx (by kernel_rfl) ?_;intro nu _ _)|refine prun_go ?_|refine drun_go ?_|refine s5 ?_|refine s6 ?_|with_reducible apply s7);simp -dsimp (disch:=omega) only[go_sem,Nat.reduceLT,Nat.reduceLeDiff,Nat.reduceEqDiff,Nat.reduceAdd,Nat.reduceMul,Int.reduceNeg,Nat.reduceBEq,reduceCtorEq,↓reduceIte,h])
     |refine e1 ?_|refine e2 ?_|refine e3 ?_|refine e4 ?_|refine e5 ?_|refine e6 ?_|refine e7 ?_|refine e8 ?_|refine e9 ?_|refine e0 (by decide) ?_|refine ea ?_|(refine And.intro ?_ ?_;omega)|refine And.intro (of_eq_true PutAt_put) ?_
     |((first|refine gn (fun h=>?_) (fun h=>?_)|refine gf (fun h=>?_) (fun h=>?_)|refine gb (fun h=>?_) (fun h=>?_)|refine gp (fun h=>?_) (fun h=>?_))<;>(try first|exact bt (by assumption) (by assumption)|contradiction|(exfalso;omega))<;>(try with_reducible apply s7)<;>(try simp -dsimp (disch:=omega) only[h,go_sem,Nat.reduceLT,Nat.reduceLeDiff,Nat.reduceEqDiff,Nat.reduceAdd,Nat.reduceMul,Int.reduceNeg,Nat.reduceBEq,reduceCtorEq,↓reduceIte,h]))|refine Exists.intro _ (Exists.intro _ (And.intro (And.intro rfl rfl) ?_))
end
theorem digit_spec (c : Int) : Pure Tryz.prog 205 [.int .u8 c] (.bool (digitZ c)) := by
  intro σ
  refine PCall_q [.tmp 2] 9 Tryz.func205 (by rfl) rfl rfl rfl rfl ?_
  repeat' first
   |refine s1 ?_|refine s2 ?_|refine wt rfl ?_|refine wf rfl ?_|(refine wc rfl (fun h=>?_) (fun h=>?_)<;>(try simp only[Bool.not_eq_true',Bool.not_eq_false',decide_eq_true_eq,decide_eq_false_iff_not,Bool.not_not] at h)<;>(try first|exact bt (by assumption) (by assumption)|contradiction|(exfalso;omega)))|((first|refine s3 (mu:=[]) ?_|(refine W_region_any [] c0 mx (by kernel_rfl) ?_;intro nu _ _)|refine prun_go ?_|refine drun_go ?_|refine s5 ?_|refine s6 ?_|with_reducible apply s7);simp -dsimp (disch:=omega) only[go_sem,Nat.reduceLT,Nat.reduceLeDiff,Nat.reduceEqDiff,Nat.reduceAdd,Nat.reduceMul,Int.reduceNeg,Nat.reduceBEq,reduceCtorEq,↓reduceIte])
   |refine e1 ?_|refine e2 ?_|refine e3 ?_|refine e4 ?_|refine e5 ?_|refine e6 ?_|refine e7 ?_|refine e8 ?_|refine e9 ?_|refine e0 (by decide) ?_|refine ea ?_|(refine And.intro ?_ ?_;omega)|refine And.intro (of_eq_true PutAt_put) ?_
   |((first|refine gn (fun h=>?_) (fun h=>?_)|refine gf (fun h=>?_) (fun h=>?_)|refine gb (fun h=>?_) (fun h=>?_)|refine gp (fun h=>?_) (fun h=>?_))<;>(try first|exact bt (by assumption) (by assumption)|contradiction|(exfalso;omega))<;>(try with_reducible apply s7)<;>(try simp -dsimp (disch:=omega) only[h,go_sem,Nat.reduceLT,Nat.reduceLeDiff,Nat.reduceEqDiff,Nat.reduceAdd,Nat.reduceMul,Int.reduceNeg,Nat.reduceBEq,reduceCtorEq,↓reduceIte]))|refine Exists.intro _ (Exists.intro _ (And.intro (And.intro rfl rfl) ?_))
  all_goals (simp only [digitZ]; congr 1; rw [Bool.eq_iff_iff]; simp; omega)
theorem wr8 {x : Int} (h1 : 0 ≤ x) (h2 : x ≤ 255) : IntKind.u8.wrap x = x := IntWalk.u8_in _ ⟨h1, h2⟩
attribute [go_sem] wr8
theorem put_self {σ : Store} {o : Nat} {x : Ob} (h : σ o = some x) : σ.put o x = σ := by
  funext p
  simp only [Store.put]
  split
  · rename_i e; rw [e, h]
  · rfl
section
variable (s : ByteArray) (hs : s.size ≤ 1000)
include hs
theorem number_spec (p : PS) (hp : p.at_ ≤ (B s).length) (o : Nat) (σ : Store) :
    PCall Tryz.prog 214 [.ptr o 0 0] (σ.put o (pO s p)) (fun r t => r = .int .i64 (numberB (B s) p).1 ∧ t = σ.put o (pO s (numberB (B s) p).2)) := by
  have hl := length_B s
  obtain ⟨i0, e⟩ := p
  simp only at hp
  have h2 := skipB_len (B s) hp
  have hpk := peek_spec s hs ⟨i0, e⟩ hp o σ
  obtain ⟨a, ha⟩ : ∃ a, skipB (B s) i0 = a := ⟨_, rfl⟩
  simp only at hpk
  rw [ha] at hpk h2
  have hdg := digit_spec (chr (B s) a)
  have hfl : ∀ (e' : Int) (q : PS), PCall Tryz.prog 166 [.ptr o 0 0, .int .i64 e'] (σ.put o (pO s q)) (fun r t => r = .tup [] ∧ t = σ.put o (pO s (failB e' q))) := fun e' q => fail_spec s q e' o σ
  simp only [numberB, ha]
  refine PCall_w [.tmp 2] 88 Tryz.func214 (by rfl) rfl rfl rfl rfl ?_
  rcases Bool.eq_false_or_eq_true (digitZ (chr (B s) a)) with hd | hd
  · rw [if_pos hd]
    obtain ⟨halt, hac⟩ := chr_digit (B s) hd
    obtain ⟨b, n, hbn⟩ : ∃ b n, numR ((B s).drop a) a 0 = (b, n) := ⟨_, _, rfl⟩
    simp only [hbn]
    repeat' first
     |refine s1 ?_|refine s2 ?_|refine wt rfl ?_|refine wf rfl ?_|(refine wc rfl (fun h=>?_) (fun h=>?_)<;>(try simp only[Bool.not_eq_true',Bool.not_eq_false',decide_eq_true_eq,decide_eq_false_iff_not,Bool.not_not] at h)<;>(try first|exact bt (by assumption) (by assumption)|contradiction|(exfalso;omega)))|((first|refine s3 (mu:=[]) ?_|(refine W_region_any [] c0 mx (by kernel_rfl) ?_;intro nu _ _)|refine prun_go ?_|refine drun_go ?_|refine s5 ?_|refine s6 ?_|with_reducible apply s7);simp -dsimp (disch:=omega) only[go_sem,Nat.reduceLT,Nat.reduceLeDiff,Nat.reduceEqDiff,Nat.reduceAdd,Nat.reduceMul,Int.reduceNeg,Nat.reduceBEq,reduceCtorEq,↓reduceIte,hd])
     |refine e1 ?_|refine e2 ?_|refine e3 ?_|refine e4 ?_|refine e5 ?_|refine e6 ?_|refine e7 ?_|refine e8 ?_|refine e9 ?_|refine e0 (by decide) ?_|refine ea ?_|(refine And.intro ?_ ?_;omega)|refine And.intro (of_eq_true PutAt_put) ?_
     |((first|refine gn (fun h=>?_) (fun h=>?_)|refine gf (fun h=>?_) (fun h=>?_)|refine gb (fun h=>?_) (fun h=>?_)|refine gp (fun h=>?_) (fun h=>?_))<;>(try first|exact bt (by assumption) (by assumption)|contradiction|(exfalso;omega))<;>(try with_reducible apply s7)<;>(try simp -dsimp (disch:=omega) only[h,go_sem,Nat.reduceLT,Nat.reduceLeDiff,Nat.reduceEqDiff,Nat.reduceAdd,Nat.reduceMul,Int.reduceNeg,Nat.reduceBEq,reduceCtorEq,↓reduceIte,hd]))|refine Exists.intro _ (Exists.intro _ (And.intro (And.intro rfl rfl) ?_))
     |refine cy (hpk) ?_|refine cz (hpk) ?_
     |refine cu (hdg) ?_|refine cv (hdg) ?_|refine cx (hdg) ?_
    refine W_loop_st (fun x : Nat × Int => [(0, .ptr o 0 0), (3, .int .i64 a), (4, .int .i64 x.2)]) (fun x => σ.put o (pO s ⟨x.1, e⟩)) (fun x => a ≤ x.1 ∧ x.1 ≤ (B s).length ∧ 0 ≤ x.2 ∧ x.2 ≤ 1000000 ∧ numR ((B s).drop x.1) x.1 x.2 = (b, n)) (fun x => (B s).length - x.1) (a, 0) ⟨Nat.le_refl _, h2, by simp, by simp, hbn⟩ (Env.Sub_of_has (by simp [Env.Has, Env.get, Env.putO])) (Store.Sub.refl _) ?_
    rintro ⟨i, m⟩ ⟨hai, hil, hm0, hm1, hr⟩
    simp only at hai hil hm0 hm1 hr
    by_cases hlt : i < (B s).length
    · have hg : (B s).getD i default = (B s)[i] := by simp [List.getD_eq_getElem?_getD, hlt]
      rw [List.drop_eq_getElem_cons hlt] at hr
      obtain ⟨c, hc⟩ : ∃ c, (B s)[i] = c := ⟨_, rfl⟩
      rw [hc] at hg hr
      have hc255 := c.toNat_lt
      rcases Bool.eq_false_or_eq_true (digitZ c.toNat) with hd2 | hd2
      · have hcb : 48 ≤ (c.toNat : Int) ∧ (c.toNat : Int) ≤ 57 := by simpa [digitZ] using hd2
        rw [numR, if_pos hd2] at hr
        by_cases hbig : 1000000 < m * 10 + ((c.toNat : Int) - 48)
        · rw [if_pos hbig] at hr
          repeat' first
           |refine s1 ?_|refine s2 ?_|refine wt rfl ?_|refine wf rfl ?_|(refine wc rfl (fun h=>?_) (fun h=>?_)<;>(try simp only[Bool.not_eq_true',Bool.not_eq_false',decide_eq_true_eq,decide_eq_false_iff_not,Bool.not_not] at h)<;>(try first|exact bt (by assumption) (by assumption)|contradiction|(exfalso;omega)))|((first|refine s3 (mu:=[]) ?_|(refine W_region_any (id:=5) [] ⟨[3,7,14,18],[],[],[],[],[],0⟩ mx (by kernel_rfl) ?_;intro nu _ _)|(refine W_region_any (id:=6) [] ⟨[5,9],[],[],[],[],[],0⟩ mx (by kernel_rfl) ?_;intro nu _ _)|(refine W_region_any [] c0 mx (by kernel_rfl) ?_;intro nu _ _)|refine prun_go ?_|refine drun_go ?_|refine s5 ?_|refine s6 ?_|with_reducible apply s7);simp -dsimp (disch:=omega) only[go_sem,Nat.reduceLT,Nat.reduceLeDiff,Nat.reduceEqDiff,Nat.reduceAdd,Nat.reduceMul,Int.reduceNeg,Nat.reduceBEq,reduceCtorEq,↓reduceIte,hg, hd2, hbig])
           |refine e1 ?_|refine e2 ?_|refine e3 ?_|refine e4 ?_|refine e5 ?_|refine e6 ?_|refine e7 ?_|refine e8 ?_|refine e9 ?_|refine e0 (by decide) ?_|refine ea ?_|(refine And.intro ?_ ?_;omega)|refine And.intro (of_eq_true PutAt_put) ?_
           |((first|refine gn (fun h=>?_) (fun h=>?_)|refine gf (fun h=>?_) (fun h=>?_)|refine gb (fun h=>?_) (fun h=>?_)|refine gp (fun h=>?_) (fun h=>?_))<;>(try first|exact bt (by assumption) (by assumption)|contradiction|(exfalso;omega))<;>(try with_reducible apply s7)<;>(try simp -dsimp (disch:=omega) only[h,go_sem,Nat.reduceLT,Nat.reduceLeDiff,Nat.reduceEqDiff,Nat.reduceAdd,Nat.reduceMul,Int.reduceNeg,Nat.reduceBEq,reduceCtorEq,↓reduceIte,hg, hd2, hbig]))|refine Exists.intro _ (Exists.intro _ (And.intro (And.intro rfl rfl) ?_))
           |refine cu (digit_spec _) ?_|refine cv (digit_spec _) ?_|refine cx (digit_spec _) ?_
          exact ⟨(i + 1, 1000000), by simp only; omega, ⟨by simp only; omega, by simp only; omega, by simp, by simp, hr⟩, Env.Sub_of_has (by simp [Env.Has, Env.get]), by simp [pO]; exact Store.Sub.refl _⟩
        · rw [if_neg hbig] at hr
          repeat' first
           |refine s1 ?_|refine s2 ?_|refine wt rfl ?_|refine wf rfl ?_|(refine wc rfl (fun h=>?_) (fun h=>?_)<;>(try simp only[Bool.not_eq_true',Bool.not_eq_false',decide_eq_true_eq,decide_eq_false_iff_not,Bool.not_not] at h)<;>(try first|exact bt (by assumption) (by assumption)|contradiction|(exfalso;omega)))|((first|refine s3 (mu:=[]) ?_|(refine W_region_any (id:=5) [] ⟨[3,7,14,18],[],[],[],[],[],0⟩ mx (by kernel_rfl) ?_;intro nu _ _)|(refine W_region_any (id:=6) [] ⟨[5,9],[],[],[],[],[],0⟩ mx (by kernel_rfl) ?_;intro nu _ _)|(refine W_region_any [] c0 mx (by kernel_rfl) ?_;intro nu _ _)|refine prun_go ?_|refine drun_go ?_|refine s5 ?_|refine s6 ?_|with_reducible apply s7);simp -dsimp (disch:=omega) only[go_sem,Nat.reduceLT,Nat.reduceLeDiff,Nat.reduceEqDiff,Nat.reduceAdd,Nat.reduceMul,Int.reduceNeg,Nat.reduceBEq,reduceCtorEq,↓reduceIte,hg, hd2, hbig])
           |refine e1 ?_|refine e2 ?_|refine e3 ?_|refine e4 ?_|refine e5 ?_|refine e6 ?_|refine e7 ?_|refine e8 ?_|refine e9 ?_|refine e0 (by decide) ?_|refine ea ?_|(refine And.intro ?_ ?_;omega)|refine And.intro (of_eq_true PutAt_put) ?_
           |((first|refine gn (fun h=>?_) (fun h=>?_)|refine gf (fun h=>?_) (fun h=>?_)|refine gb (fun h=>?_) (fun h=>?_)|refine gp (fun h=>?_) (fun h=>?_))<;>(try first|exact bt (by assumption) (by assumption)|contradiction|(exfalso;omega))<;>(try with_reducible apply s7)<;>(try simp -dsimp (disch:=omega) only[h,go_sem,Nat.reduceLT,Nat.reduceLeDiff,Nat.reduceEqDiff,Nat.reduceAdd,Nat.reduceMul,Int.reduceNeg,Nat.reduceBEq,reduceCtorEq,↓reduceIte,hg, hd2, hbig]))|refine Exists.intro _ (Exists.intro _ (And.intro (And.intro rfl rfl) ?_))
           |refine cu (digit_spec _) ?_|refine cv (digit_spec _) ?_|refine cx (digit_spec _) ?_
          exact ⟨(i + 1, m * 10 + ((c.toNat : Int) - 48)), by simp only; omega, ⟨by simp only; omega, by simp only; omega, by simp only; omega, by simp only; omega, hr⟩, Env.Sub_of_has (by simp [Env.Has, Env.get]), by simp [pO]; exact Store.Sub.refl _⟩
      · rw [numR, if_neg (by rw [hd2]; simp)] at hr
        injection hr with q1 q2
        subst q1; subst q2
        rw [hac]
        by_cases hz : ((((B s).getD a default).toNat : Int) = 48) ∧ a + 1 < i
        · rw [if_pos hz]
          have hz1 := hz.1; have hz2 := hz.2
          repeat' first
           |refine s1 ?_|refine s2 ?_|refine wt rfl ?_|refine wf rfl ?_|(refine wc rfl (fun h=>?_) (fun h=>?_)<;>(try simp only[Bool.not_eq_true',Bool.not_eq_false',decide_eq_true_eq,decide_eq_false_iff_not,Bool.not_not] at h)<;>(try first|exact bt (by assumption) (by assumption)|contradiction|(exfalso;omega)))|((first|refine s3 (mu:=[]) ?_|(refine W_region_any (id:=5) [] ⟨[3,7,14,18],[],[],[],[],[],0⟩ mx (by kernel_rfl) ?_;intro nu _ _)|(refine W_region_any (id:=6) [] ⟨[5,9],[],[],[],[],[],0⟩ mx (by kernel_rfl) ?_;intro nu _ _)|(refine W_region_any [] c0 mx (by kernel_rfl) ?_;intro nu _ _)|refine prun_go ?_|refine drun_go ?_|refine s5 ?_|refine s6 ?_|with_reducible apply s7);simp -dsimp (disch:=omega) only[go_sem,Nat.reduceLT,Nat.reduceLeDiff,Nat.reduceEqDiff,Nat.reduceAdd,Nat.reduceMul,Int.reduceNeg,Nat.reduceBEq,reduceCtorEq,↓reduceIte,hac, hg, hd2, hz1, hz2])
           |refine e1 ?_|refine e2 ?_|refine e3 ?_|refine e4 ?_|refine e5 ?_|refine e6 ?_|refine e7 ?_|refine e8 ?_|refine e9 ?_|refine e0 (by decide) ?_|refine ea ?_|(refine And.intro ?_ ?_;omega)|refine And.intro (of_eq_true PutAt_put) ?_
           |((first|refine gn (fun h=>?_) (fun h=>?_)|refine gf (fun h=>?_) (fun h=>?_)|refine gb (fun h=>?_) (fun h=>?_)|refine gp (fun h=>?_) (fun h=>?_))<;>(try first|exact bt (by assumption) (by assumption)|contradiction|(exfalso;omega))<;>(try with_reducible apply s7)<;>(try simp -dsimp (disch:=omega) only[h,go_sem,Nat.reduceLT,Nat.reduceLeDiff,Nat.reduceEqDiff,Nat.reduceAdd,Nat.reduceMul,Int.reduceNeg,Nat.reduceBEq,reduceCtorEq,↓reduceIte,hac, hg, hd2, hz1, hz2]))|refine Exists.intro _ (Exists.intro _ (And.intro (And.intro rfl rfl) ?_))
           |refine cu (digit_spec _) ?_|refine cv (digit_spec _) ?_|refine cx (digit_spec _) ?_
           |refine cy (hfl 4 ⟨i, e⟩) ?_|refine cz (hfl 4 ⟨i, e⟩) ?_
        · rw [if_neg hz]
          by_cases hn : m < 1 ∨ 65535 < m
          · rw [if_pos hn]
            by_cases hz1 : ((((B s).getD a default).toNat : Int) = 48) <;> by_cases hn1 : m < 1
            · (try have hz2 : ¬ (a + 1 < i) := fun k => hz ⟨hz1, k⟩)
              repeat' first
               |refine s1 ?_|refine s2 ?_|refine wt rfl ?_|refine wf rfl ?_|(refine wc rfl (fun h=>?_) (fun h=>?_)<;>(try simp only[Bool.not_eq_true',Bool.not_eq_false',decide_eq_true_eq,decide_eq_false_iff_not,Bool.not_not] at h)<;>(try first|exact bt (by assumption) (by assumption)|contradiction|(exfalso;omega)))|((first|refine s3 (mu:=[]) ?_|(refine W_region_any (id:=5) [] ⟨[3,7,14,18],[],[],[],[],[],0⟩ mx (by kernel_rfl) ?_;intro nu _ _)|(refine W_region_any (id:=6) [] ⟨[5,9],[],[],[],[],[],0⟩ mx (by kernel_rfl) ?_;intro nu _ _)|(refine W_region_any [] c0 mx (by kernel_rfl) ?_;intro nu _ _)|refine prun_go ?_|refine drun_go ?_|refine s5 ?_|refine s6 ?_|with_reducible apply s7);simp -dsimp (disch:=omega) only[go_sem,Nat.reduceLT,Nat.reduceLeDiff,Nat.reduceEqDiff,Nat.reduceAdd,Nat.reduceMul,Int.reduceNeg,Nat.reduceBEq,reduceCtorEq,↓reduceIte,hac, hg, hd2, hz1, hn1])
               |refine e1 ?_|refine e2 ?_|refine e3 ?_|refine e4 ?_|refine e5 ?_|refine e6 ?_|refine e7 ?_|refine e8 ?_|refine e9 ?_|refine e0 (by decide) ?_|refine ea ?_|(refine And.intro ?_ ?_;omega)|refine And.intro (of_eq_true PutAt_put) ?_
               |((first|refine gn (fun h=>?_) (fun h=>?_)|refine gf (fun h=>?_) (fun h=>?_)|refine gb (fun h=>?_) (fun h=>?_)|refine gp (fun h=>?_) (fun h=>?_))<;>(try first|exact bt (by assumption) (by assumption)|contradiction|(exfalso;omega))<;>(try with_reducible apply s7)<;>(try simp -dsimp (disch:=omega) only[h,go_sem,Nat.reduceLT,Nat.reduceLeDiff,Nat.reduceEqDiff,Nat.reduceAdd,Nat.reduceMul,Int.reduceNeg,Nat.reduceBEq,reduceCtorEq,↓reduceIte,hac, hg, hd2, hz1, hn1]))|refine Exists.intro _ (Exists.intro _ (And.intro (And.intro rfl rfl) ?_))
               |refine cu (digit_spec _) ?_|refine cv (digit_spec _) ?_|refine cx (digit_spec _) ?_
               |refine cy (hfl 7 ⟨i, e⟩) ?_|refine cz (hfl 7 ⟨i, e⟩) ?_
            · (try have hz2 : ¬ (a + 1 < i) := fun k => hz ⟨hz1, k⟩)
              repeat' first
               |refine s1 ?_|refine s2 ?_|refine wt rfl ?_|refine wf rfl ?_|(refine wc rfl (fun h=>?_) (fun h=>?_)<;>(try simp only[Bool.not_eq_true',Bool.not_eq_false',decide_eq_true_eq,decide_eq_false_iff_not,Bool.not_not] at h)<;>(try first|exact bt (by assumption) (by assumption)|contradiction|(exfalso;omega)))|((first|refine s3 (mu:=[]) ?_|(refine W_region_any (id:=5) [] ⟨[3,7,14,18],[],[],[],[],[],0⟩ mx (by kernel_rfl) ?_;intro nu _ _)|(refine W_region_any (id:=6) [] ⟨[5,9],[],[],[],[],[],0⟩ mx (by kernel_rfl) ?_;intro nu _ _)|(refine W_region_any [] c0 mx (by kernel_rfl) ?_;intro nu _ _)|refine prun_go ?_|refine drun_go ?_|refine s5 ?_|refine s6 ?_|with_reducible apply s7);simp -dsimp (disch:=omega) only[go_sem,Nat.reduceLT,Nat.reduceLeDiff,Nat.reduceEqDiff,Nat.reduceAdd,Nat.reduceMul,Int.reduceNeg,Nat.reduceBEq,reduceCtorEq,↓reduceIte,hac, hg, hd2, hz1, hn1])
               |refine e1 ?_|refine e2 ?_|refine e3 ?_|refine e4 ?_|refine e5 ?_|refine e6 ?_|refine e7 ?_|refine e8 ?_|refine e9 ?_|refine e0 (by decide) ?_|refine ea ?_|(refine And.intro ?_ ?_;omega)|refine And.intro (of_eq_true PutAt_put) ?_
               |((first|refine gn (fun h=>?_) (fun h=>?_)|refine gf (fun h=>?_) (fun h=>?_)|refine gb (fun h=>?_) (fun h=>?_)|refine gp (fun h=>?_) (fun h=>?_))<;>(try first|exact bt (by assumption) (by assumption)|contradiction|(exfalso;omega))<;>(try with_reducible apply s7)<;>(try simp -dsimp (disch:=omega) only[h,go_sem,Nat.reduceLT,Nat.reduceLeDiff,Nat.reduceEqDiff,Nat.reduceAdd,Nat.reduceMul,Int.reduceNeg,Nat.reduceBEq,reduceCtorEq,↓reduceIte,hac, hg, hd2, hz1, hn1]))|refine Exists.intro _ (Exists.intro _ (And.intro (And.intro rfl rfl) ?_))
               |refine cu (digit_spec _) ?_|refine cv (digit_spec _) ?_|refine cx (digit_spec _) ?_
               |refine cy (hfl 7 ⟨i, e⟩) ?_|refine cz (hfl 7 ⟨i, e⟩) ?_
            · (try have hz2 : ¬ (a + 1 < i) := fun k => hz ⟨hz1, k⟩)
              repeat' first
               |refine s1 ?_|refine s2 ?_|refine wt rfl ?_|refine wf rfl ?_|(refine wc rfl (fun h=>?_) (fun h=>?_)<;>(try simp only[Bool.not_eq_true',Bool.not_eq_false',decide_eq_true_eq,decide_eq_false_iff_not,Bool.not_not] at h)<;>(try first|exact bt (by assumption) (by assumption)|contradiction|(exfalso;omega)))|((first|refine s3 (mu:=[]) ?_|(refine W_region_any (id:=5) [] ⟨[3,7,14,18],[],[],[],[],[],0⟩ mx (by kernel_rfl) ?_;intro nu _ _)|(refine W_region_any (id:=6) [] ⟨[5,9],[],[],[],[],[],0⟩ mx (by kernel_rfl) ?_;intro nu _ _)|(refine W_region_any [] c0 mx (by kernel_rfl) ?_;intro nu _ _)|refine prun_go ?_|refine drun_go ?_|refine s5 ?_|refine s6 ?_|with_reducible apply s7);simp -dsimp (disch:=omega) only[go_sem,Nat.reduceLT,Nat.reduceLeDiff,Nat.reduceEqDiff,Nat.reduceAdd,Nat.reduceMul,Int.reduceNeg,Nat.reduceBEq,reduceCtorEq,↓reduceIte,hac, hg, hd2, hz1, hn1])
               |refine e1 ?_|refine e2 ?_|refine e3 ?_|refine e4 ?_|refine e5 ?_|refine e6 ?_|refine e7 ?_|refine e8 ?_|refine e9 ?_|refine e0 (by decide) ?_|refine ea ?_|(refine And.intro ?_ ?_;omega)|refine And.intro (of_eq_true PutAt_put) ?_
               |((first|refine gn (fun h=>?_) (fun h=>?_)|refine gf (fun h=>?_) (fun h=>?_)|refine gb (fun h=>?_) (fun h=>?_)|refine gp (fun h=>?_) (fun h=>?_))<;>(try first|exact bt (by assumption) (by assumption)|contradiction|(exfalso;omega))<;>(try with_reducible apply s7)<;>(try simp -dsimp (disch:=omega) only[h,go_sem,Nat.reduceLT,Nat.reduceLeDiff,Nat.reduceEqDiff,Nat.reduceAdd,Nat.reduceMul,Int.reduceNeg,Nat.reduceBEq,reduceCtorEq,↓reduceIte,hac, hg, hd2, hz1, hn1]))|refine Exists.intro _ (Exists.intro _ (And.intro (And.intro rfl rfl) ?_))
               |refine cu (digit_spec _) ?_|refine cv (digit_spec _) ?_|refine cx (digit_spec _) ?_
               |refine cy (hfl 7 ⟨i, e⟩) ?_|refine cz (hfl 7 ⟨i, e⟩) ?_
            · (try have hz2 : ¬ (a + 1 < i) := fun k => hz ⟨hz1, k⟩)
              repeat' first
               |refine s1 ?_|refine s2 ?_|refine wt rfl ?_|refine wf rfl ?_|(refine wc rfl (fun h=>?_) (fun h=>?_)<;>(try simp only[Bool.not_eq_true',Bool.not_eq_false',decide_eq_true_eq,decide_eq_false_iff_not,Bool.not_not] at h)<;>(try first|exact bt (by assumption) (by assumption)|contradiction|(exfalso;omega)))|((first|refine s3 (mu:=[]) ?_|(refine W_region_any (id:=5) [] ⟨[3,7,14,18],[],[],[],[],[],0⟩ mx (by kernel_rfl) ?_;intro nu _ _)|(refine W_region_any (id:=6) [] ⟨[5,9],[],[],[],[],[],0⟩ mx (by kernel_rfl) ?_;intro nu _ _)|(refine W_region_any [] c0 mx (by kernel_rfl) ?_;intro nu _ _)|refine prun_go ?_|refine drun_go ?_|refine s5 ?_|refine s6 ?_|with_reducible apply s7);simp -dsimp (disch:=omega) only[go_sem,Nat.reduceLT,Nat.reduceLeDiff,Nat.reduceEqDiff,Nat.reduceAdd,Nat.reduceMul,Int.reduceNeg,Nat.reduceBEq,reduceCtorEq,↓reduceIte,hac, hg, hd2, hz1, hn1])
               |refine e1 ?_|refine e2 ?_|refine e3 ?_|refine e4 ?_|refine e5 ?_|refine e6 ?_|refine e7 ?_|refine e8 ?_|refine e9 ?_|refine e0 (by decide) ?_|refine ea ?_|(refine And.intro ?_ ?_;omega)|refine And.intro (of_eq_true PutAt_put) ?_
               |((first|refine gn (fun h=>?_) (fun h=>?_)|refine gf (fun h=>?_) (fun h=>?_)|refine gb (fun h=>?_) (fun h=>?_)|refine gp (fun h=>?_) (fun h=>?_))<;>(try first|exact bt (by assumption) (by assumption)|contradiction|(exfalso;omega))<;>(try with_reducible apply s7)<;>(try simp -dsimp (disch:=omega) only[h,go_sem,Nat.reduceLT,Nat.reduceLeDiff,Nat.reduceEqDiff,Nat.reduceAdd,Nat.reduceMul,Int.reduceNeg,Nat.reduceBEq,reduceCtorEq,↓reduceIte,hac, hg, hd2, hz1, hn1]))|refine Exists.intro _ (Exists.intro _ (And.intro (And.intro rfl rfl) ?_))
               |refine cu (digit_spec _) ?_|refine cv (digit_spec _) ?_|refine cx (digit_spec _) ?_
               |refine cy (hfl 7 ⟨i, e⟩) ?_|refine cz (hfl 7 ⟨i, e⟩) ?_
          · rw [if_neg hn]
            by_cases hz1 : ((((B s).getD a default).toNat : Int) = 48)
            · (try have hz2 : ¬ (a + 1 < i) := fun k => hz ⟨hz1, k⟩)
              repeat' first
               |refine s1 ?_|refine s2 ?_|refine wt rfl ?_|refine wf rfl ?_|(refine wc rfl (fun h=>?_) (fun h=>?_)<;>(try simp only[Bool.not_eq_true',Bool.not_eq_false',decide_eq_true_eq,decide_eq_false_iff_not,Bool.not_not] at h)<;>(try first|exact bt (by assumption) (by assumption)|contradiction|(exfalso;omega)))|((first|refine s3 (mu:=[]) ?_|(refine W_region_any (id:=5) [] ⟨[3,7,14,18],[],[],[],[],[],0⟩ mx (by kernel_rfl) ?_;intro nu _ _)|(refine W_region_any (id:=6) [] ⟨[5,9],[],[],[],[],[],0⟩ mx (by kernel_rfl) ?_;intro nu _ _)|(refine W_region_any [] c0 mx (by kernel_rfl) ?_;intro nu _ _)|refine prun_go ?_|refine drun_go ?_|refine s5 ?_|refine s6 ?_|with_reducible apply s7);simp -dsimp (disch:=omega) only[go_sem,Nat.reduceLT,Nat.reduceLeDiff,Nat.reduceEqDiff,Nat.reduceAdd,Nat.reduceMul,Int.reduceNeg,Nat.reduceBEq,reduceCtorEq,↓reduceIte,hac, hg, hd2, hz1])
               |refine e1 ?_|refine e2 ?_|refine e3 ?_|refine e4 ?_|refine e5 ?_|refine e6 ?_|refine e7 ?_|refine e8 ?_|refine e9 ?_|refine e0 (by decide) ?_|refine ea ?_|(refine And.intro ?_ ?_;omega)|refine And.intro (of_eq_true PutAt_put) ?_
               |((first|refine gn (fun h=>?_) (fun h=>?_)|refine gf (fun h=>?_) (fun h=>?_)|refine gb (fun h=>?_) (fun h=>?_)|refine gp (fun h=>?_) (fun h=>?_))<;>(try first|exact bt (by assumption) (by assumption)|contradiction|(exfalso;omega))<;>(try with_reducible apply s7)<;>(try simp -dsimp (disch:=omega) only[h,go_sem,Nat.reduceLT,Nat.reduceLeDiff,Nat.reduceEqDiff,Nat.reduceAdd,Nat.reduceMul,Int.reduceNeg,Nat.reduceBEq,reduceCtorEq,↓reduceIte,hac, hg, hd2, hz1]))|refine Exists.intro _ (Exists.intro _ (And.intro (And.intro rfl rfl) ?_))
               |refine cu (digit_spec _) ?_|refine cv (digit_spec _) ?_|refine cx (digit_spec _) ?_
               |refine cy (hfl 7 ⟨i, e⟩) ?_|refine cz (hfl 7 ⟨i, e⟩) ?_
            · (try have hz2 : ¬ (a + 1 < i) := fun k => hz ⟨hz1, k⟩)
              repeat' first
               |refine s1 ?_|refine s2 ?_|refine wt rfl ?_|refine wf rfl ?_|(refine wc rfl (fun h=>?_) (fun h=>?_)<;>(try simp only[Bool.not_eq_true',Bool.not_eq_false',decide_eq_true_eq,decide_eq_false_iff_not,Bool.not_not] at h)<;>(try first|exact bt (by assumption) (by assumption)|contradiction|(exfalso;omega)))|((first|refine s3 (mu:=[]) ?_|(refine W_region_any (id:=5) [] ⟨[3,7,14,18],[],[],[],[],[],0⟩ mx (by kernel_rfl) ?_;intro nu _ _)|(refine W_region_any (id:=6) [] ⟨[5,9],[],[],[],[],[],0⟩ mx (by kernel_rfl) ?_;intro nu _ _)|(refine W_region_any [] c0 mx (by kernel_rfl) ?_;intro nu _ _)|refine prun_go ?_|refine drun_go ?_|refine s5 ?_|refine s6 ?_|with_reducible apply s7);simp -dsimp (disch:=omega) only[go_sem,Nat.reduceLT,Nat.reduceLeDiff,Nat.reduceEqDiff,Nat.reduceAdd,Nat.reduceMul,Int.reduceNeg,Nat.reduceBEq,reduceCtorEq,↓reduceIte,hac, hg, hd2, hz1])
               |refine e1 ?_|refine e2 ?_|refine e3 ?_|refine e4 ?_|refine e5 ?_|refine e6 ?_|refine e7 ?_|refine e8 ?_|refine e9 ?_|refine e0 (by decide) ?_|refine ea ?_|(refine And.intro ?_ ?_;omega)|refine And.intro (of_eq_true PutAt_put) ?_
               |((first|refine gn (fun h=>?_) (fun h=>?_)|refine gf (fun h=>?_) (fun h=>?_)|refine gb (fun h=>?_) (fun h=>?_)|refine gp (fun h=>?_) (fun h=>?_))<;>(try first|exact bt (by assumption) (by assumption)|contradiction|(exfalso;omega))<;>(try with_reducible apply s7)<;>(try simp -dsimp (disch:=omega) only[h,go_sem,Nat.reduceLT,Nat.reduceLeDiff,Nat.reduceEqDiff,Nat.reduceAdd,Nat.reduceMul,Int.reduceNeg,Nat.reduceBEq,reduceCtorEq,↓reduceIte,hac, hg, hd2, hz1]))|refine Exists.intro _ (Exists.intro _ (And.intro (And.intro rfl rfl) ?_))
               |refine cu (digit_spec _) ?_|refine cv (digit_spec _) ?_|refine cx (digit_spec _) ?_
               |refine cy (hfl 7 ⟨i, e⟩) ?_|refine cz (hfl 7 ⟨i, e⟩) ?_
    · have hie : i = (B s).length := by omega
      rw [List.drop_eq_nil_of_le (by omega), numR] at hr
      injection hr with q1 q2
      subst q1; subst q2
      rw [hac]
      by_cases hz : ((((B s).getD a default).toNat : Int) = 48) ∧ a + 1 < i
      · rw [if_pos hz]
        have hz1 := hz.1; have hz2 := hz.2
        repeat' first
         |refine s1 ?_|refine s2 ?_|refine wt rfl ?_|refine wf rfl ?_|(refine wc rfl (fun h=>?_) (fun h=>?_)<;>(try simp only[Bool.not_eq_true',Bool.not_eq_false',decide_eq_true_eq,decide_eq_false_iff_not,Bool.not_not] at h)<;>(try first|exact bt (by assumption) (by assumption)|contradiction|(exfalso;omega)))|((first|refine s3 (mu:=[]) ?_|(refine W_region_any (id:=5) [] ⟨[3,7,14,18],[],[],[],[],[],0⟩ mx (by kernel_rfl) ?_;intro nu _ _)|(refine W_region_any (id:=6) [] ⟨[5,9],[],[],[],[],[],0⟩ mx (by kernel_rfl) ?_;intro nu _ _)|(refine W_region_any [] c0 mx (by kernel_rfl) ?_;intro nu _ _)|refine prun_go ?_|refine drun_go ?_|refine s5 ?_|refine s6 ?_|with_reducible apply s7);simp -dsimp (disch:=omega) only[go_sem,Nat.reduceLT,Nat.reduceLeDiff,Nat.reduceEqDiff,Nat.reduceAdd,Nat.reduceMul,Int.reduceNeg,Nat.reduceBEq,reduceCtorEq,↓reduceIte,hac, hz1, hz2])
         |refine e1 ?_|refine e2 ?_|refine e3 ?_|refine e4 ?_|refine e5 ?_|refine e6 ?_|refine e7 ?_|refine e8 ?_|refine e9 ?_|refine e0 (by decide) ?_|refine ea ?_|(refine And.intro ?_ ?_;omega)|refine And.intro (of_eq_true PutAt_put) ?_
         |((first|refine gn (fun h=>?_) (fun h=>?_)|refine gf (fun h=>?_) (fun h=>?_)|refine gb (fun h=>?_) (fun h=>?_)|refine gp (fun h=>?_) (fun h=>?_))<;>(try first|exact bt (by assumption) (by assumption)|contradiction|(exfalso;omega))<;>(try with_reducible apply s7)<;>(try simp -dsimp (disch:=omega) only[h,go_sem,Nat.reduceLT,Nat.reduceLeDiff,Nat.reduceEqDiff,Nat.reduceAdd,Nat.reduceMul,Int.reduceNeg,Nat.reduceBEq,reduceCtorEq,↓reduceIte,hac, hz1, hz2]))|refine Exists.intro _ (Exists.intro _ (And.intro (And.intro rfl rfl) ?_))
         |refine cu (digit_spec _) ?_|refine cv (digit_spec _) ?_|refine cx (digit_spec _) ?_
         |refine cy (hfl 4 ⟨i, e⟩) ?_|refine cz (hfl 4 ⟨i, e⟩) ?_
      · rw [if_neg hz]
        by_cases hn : m < 1 ∨ 65535 < m
        · rw [if_pos hn]
          by_cases hz1 : ((((B s).getD a default).toNat : Int) = 48) <;> by_cases hn1 : m < 1
          · (try have hz2 : ¬ (a + 1 < i) := fun k => hz ⟨hz1, k⟩)
            repeat' first
             |refine s1 ?_|refine s2 ?_|refine wt rfl ?_|refine wf rfl ?_|(refine wc rfl (fun h=>?_) (fun h=>?_)<;>(try simp only[Bool.not_eq_true',Bool.not_eq_false',decide_eq_true_eq,decide_eq_false_iff_not,Bool.not_not] at h)<;>(try first|exact bt (by assumption) (by assumption)|contradiction|(exfalso;omega)))|((first|refine s3 (mu:=[]) ?_|(refine W_region_any (id:=5) [] ⟨[3,7,14,18],[],[],[],[],[],0⟩ mx (by kernel_rfl) ?_;intro nu _ _)|(refine W_region_any (id:=6) [] ⟨[5,9],[],[],[],[],[],0⟩ mx (by kernel_rfl) ?_;intro nu _ _)|(refine W_region_any [] c0 mx (by kernel_rfl) ?_;intro nu _ _)|refine prun_go ?_|refine drun_go ?_|refine s5 ?_|refine s6 ?_|with_reducible apply s7);simp -dsimp (disch:=omega) only[go_sem,Nat.reduceLT,Nat.reduceLeDiff,Nat.reduceEqDiff,Nat.reduceAdd,Nat.reduceMul,Int.reduceNeg,Nat.reduceBEq,reduceCtorEq,↓reduceIte,hac, hz1, hn1])
             |refine e1 ?_|refine e2 ?_|refine e3 ?_|refine e4 ?_|refine e5 ?_|refine e6 ?_|refine e7 ?_|refine e8 ?_|refine e9 ?_|refine e0 (by decide) ?_|refine ea ?_|(refine And.intro ?_ ?_;omega)|refine And.intro (of_eq_true PutAt_put) ?_
             |((first|refine gn (fun h=>?_) (fun h=>?_)|refine gf (fun h=>?_) (fun h=>?_)|refine gb (fun h=>?_) (fun h=>?_)|refine gp (fun h=>?_) (fun h=>?_))<;>(try first|exact bt (by assumption) (by assumption)|contradiction|(exfalso;omega))<;>(try with_reducible apply s7)<;>(try simp -dsimp (disch:=omega) only[h,go_sem,Nat.reduceLT,Nat.reduceLeDiff,Nat.reduceEqDiff,Nat.reduceAdd,Nat.reduceMul,Int.reduceNeg,Nat.reduceBEq,reduceCtorEq,↓reduceIte,hac, hz1, hn1]))|refine Exists.intro _ (Exists.intro _ (And.intro (And.intro rfl rfl) ?_))
             |refine cu (digit_spec _) ?_|refine cv (digit_spec _) ?_|refine cx (digit_spec _) ?_
             |refine cy (hfl 7 ⟨i, e⟩) ?_|refine cz (hfl 7 ⟨i, e⟩) ?_
          · (try have hz2 : ¬ (a + 1 < i) := fun k => hz ⟨hz1, k⟩)
            repeat' first
             |refine s1 ?_|refine s2 ?_|refine wt rfl ?_|refine wf rfl ?_|(refine wc rfl (fun h=>?_) (fun h=>?_)<;>(try simp only[Bool.not_eq_true',Bool.not_eq_false',decide_eq_true_eq,decide_eq_false_iff_not,Bool.not_not] at h)<;>(try first|exact bt (by assumption) (by assumption)|contradiction|(exfalso;omega)))|((first|refine s3 (mu:=[]) ?_|(refine W_region_any (id:=5) [] ⟨[3,7,14,18],[],[],[],[],[],0⟩ mx (by kernel_rfl) ?_;intro nu _ _)|(refine W_region_any (id:=6) [] ⟨[5,9],[],[],[],[],[],0⟩ mx (by kernel_rfl) ?_;intro nu _ _)|(refine W_region_any [] c0 mx (by kernel_rfl) ?_;intro nu _ _)|refine prun_go ?_|refine drun_go ?_|refine s5 ?_|refine s6 ?_|with_reducible apply s7);simp -dsimp (disch:=omega) only[go_sem,Nat.reduceLT,Nat.reduceLeDiff,Nat.reduceEqDiff,Nat.reduceAdd,Nat.reduceMul,Int.reduceNeg,Nat.reduceBEq,reduceCtorEq,↓reduceIte,hac, hz1, hn1])
             |refine e1 ?_|refine e2 ?_|refine e3 ?_|refine e4 ?_|refine e5 ?_|refine e6 ?_|refine e7 ?_|refine e8 ?_|refine e9 ?_|refine e0 (by decide) ?_|refine ea ?_|(refine And.intro ?_ ?_;omega)|refine And.intro (of_eq_true PutAt_put) ?_
             |((first|refine gn (fun h=>?_) (fun h=>?_)|refine gf (fun h=>?_) (fun h=>?_)|refine gb (fun h=>?_) (fun h=>?_)|refine gp (fun h=>?_) (fun h=>?_))<;>(try first|exact bt (by assumption) (by assumption)|contradiction|(exfalso;omega))<;>(try with_reducible apply s7)<;>(try simp -dsimp (disch:=omega) only[h,go_sem,Nat.reduceLT,Nat.reduceLeDiff,Nat.reduceEqDiff,Nat.reduceAdd,Nat.reduceMul,Int.reduceNeg,Nat.reduceBEq,reduceCtorEq,↓reduceIte,hac, hz1, hn1]))|refine Exists.intro _ (Exists.intro _ (And.intro (And.intro rfl rfl) ?_))
             |refine cu (digit_spec _) ?_|refine cv (digit_spec _) ?_|refine cx (digit_spec _) ?_
             |refine cy (hfl 7 ⟨i, e⟩) ?_|refine cz (hfl 7 ⟨i, e⟩) ?_
          · (try have hz2 : ¬ (a + 1 < i) := fun k => hz ⟨hz1, k⟩)
            repeat' first
             |refine s1 ?_|refine s2 ?_|refine wt rfl ?_|refine wf rfl ?_|(refine wc rfl (fun h=>?_) (fun h=>?_)<;>(try simp only[Bool.not_eq_true',Bool.not_eq_false',decide_eq_true_eq,decide_eq_false_iff_not,Bool.not_not] at h)<;>(try first|exact bt (by assumption) (by assumption)|contradiction|(exfalso;omega)))|((first|refine s3 (mu:=[]) ?_|(refine W_region_any (id:=5) [] ⟨[3,7,14,18],[],[],[],[],[],0⟩ mx (by kernel_rfl) ?_;intro nu _ _)|(refine W_region_any (id:=6) [] ⟨[5,9],[],[],[],[],[],0⟩ mx (by kernel_rfl) ?_;intro nu _ _)|(refine W_region_any [] c0 mx (by kernel_rfl) ?_;intro nu _ _)|refine prun_go ?_|refine drun_go ?_|refine s5 ?_|refine s6 ?_|with_reducible apply s7);simp -dsimp (disch:=omega) only[go_sem,Nat.reduceLT,Nat.reduceLeDiff,Nat.reduceEqDiff,Nat.reduceAdd,Nat.reduceMul,Int.reduceNeg,Nat.reduceBEq,reduceCtorEq,↓reduceIte,hac, hz1, hn1])
             |refine e1 ?_|refine e2 ?_|refine e3 ?_|refine e4 ?_|refine e5 ?_|refine e6 ?_|refine e7 ?_|refine e8 ?_|refine e9 ?_|refine e0 (by decide) ?_|refine ea ?_|(refine And.intro ?_ ?_;omega)|refine And.intro (of_eq_true PutAt_put) ?_
             |((first|refine gn (fun h=>?_) (fun h=>?_)|refine gf (fun h=>?_) (fun h=>?_)|refine gb (fun h=>?_) (fun h=>?_)|refine gp (fun h=>?_) (fun h=>?_))<;>(try first|exact bt (by assumption) (by assumption)|contradiction|(exfalso;omega))<;>(try with_reducible apply s7)<;>(try simp -dsimp (disch:=omega) only[h,go_sem,Nat.reduceLT,Nat.reduceLeDiff,Nat.reduceEqDiff,Nat.reduceAdd,Nat.reduceMul,Int.reduceNeg,Nat.reduceBEq,reduceCtorEq,↓reduceIte,hac, hz1, hn1]))|refine Exists.intro _ (Exists.intro _ (And.intro (And.intro rfl rfl) ?_))
             |refine cu (digit_spec _) ?_|refine cv (digit_spec _) ?_|refine cx (digit_spec _) ?_
             |refine cy (hfl 7 ⟨i, e⟩) ?_|refine cz (hfl 7 ⟨i, e⟩) ?_
          · (try have hz2 : ¬ (a + 1 < i) := fun k => hz ⟨hz1, k⟩)
            repeat' first
             |refine s1 ?_|refine s2 ?_|refine wt rfl ?_|refine wf rfl ?_|(refine wc rfl (fun h=>?_) (fun h=>?_)<;>(try simp only[Bool.not_eq_true',Bool.not_eq_false',decide_eq_true_eq,decide_eq_false_iff_not,Bool.not_not] at h)<;>(try first|exact bt (by assumption) (by assumption)|contradiction|(exfalso;omega)))|((first|refine s3 (mu:=[]) ?_|(refine W_region_any (id:=5) [] ⟨[3,7,14,18],[],[],[],[],[],0⟩ mx (by kernel_rfl) ?_;intro nu _ _)|(refine W_region_any (id:=6) [] ⟨[5,9],[],[],[],[],[],0⟩ mx (by kernel_rfl) ?_;intro nu _ _)|(refine W_region_any [] c0 mx (by kernel_rfl) ?_;intro nu _ _)|refine prun_go ?_|refine drun_go ?_|refine s5 ?_|refine s6 ?_|with_reducible apply s7);simp -dsimp (disch:=omega) only[go_sem,Nat.reduceLT,Nat.reduceLeDiff,Nat.reduceEqDiff,Nat.reduceAdd,Nat.reduceMul,Int.reduceNeg,Nat.reduceBEq,reduceCtorEq,↓reduceIte,hac, hz1, hn1])
             |refine e1 ?_|refine e2 ?_|refine e3 ?_|refine e4 ?_|refine e5 ?_|refine e6 ?_|refine e7 ?_|refine e8 ?_|refine e9 ?_|refine e0 (by decide) ?_|refine ea ?_|(refine And.intro ?_ ?_;omega)|refine And.intro (of_eq_true PutAt_put) ?_
             |((first|refine gn (fun h=>?_) (fun h=>?_)|refine gf (fun h=>?_) (fun h=>?_)|refine gb (fun h=>?_) (fun h=>?_)|refine gp (fun h=>?_) (fun h=>?_))<;>(try first|exact bt (by assumption) (by assumption)|contradiction|(exfalso;omega))<;>(try with_reducible apply s7)<;>(try simp -dsimp (disch:=omega) only[h,go_sem,Nat.reduceLT,Nat.reduceLeDiff,Nat.reduceEqDiff,Nat.reduceAdd,Nat.reduceMul,Int.reduceNeg,Nat.reduceBEq,reduceCtorEq,↓reduceIte,hac, hz1, hn1]))|refine Exists.intro _ (Exists.intro _ (And.intro (And.intro rfl rfl) ?_))
             |refine cu (digit_spec _) ?_|refine cv (digit_spec _) ?_|refine cx (digit_spec _) ?_
             |refine cy (hfl 7 ⟨i, e⟩) ?_|refine cz (hfl 7 ⟨i, e⟩) ?_
        · rw [if_neg hn]
          by_cases hz1 : ((((B s).getD a default).toNat : Int) = 48)
          · (try have hz2 : ¬ (a + 1 < i) := fun k => hz ⟨hz1, k⟩)
            repeat' first
             |refine s1 ?_|refine s2 ?_|refine wt rfl ?_|refine wf rfl ?_|(refine wc rfl (fun h=>?_) (fun h=>?_)<;>(try simp only[Bool.not_eq_true',Bool.not_eq_false',decide_eq_true_eq,decide_eq_false_iff_not,Bool.not_not] at h)<;>(try first|exact bt (by assumption) (by assumption)|contradiction|(exfalso;omega)))|((first|refine s3 (mu:=[]) ?_|(refine W_region_any (id:=5) [] ⟨[3,7,14,18],[],[],[],[],[],0⟩ mx (by kernel_rfl) ?_;intro nu _ _)|(refine W_region_any (id:=6) [] ⟨[5,9],[],[],[],[],[],0⟩ mx (by kernel_rfl) ?_;intro nu _ _)|(refine W_region_any [] c0 mx (by kernel_rfl) ?_;intro nu _ _)|refine prun_go ?_|refine drun_go ?_|refine s5 ?_|refine s6 ?_|with_reducible apply s7);simp -dsimp (disch:=omega) only[go_sem,Nat.reduceLT,Nat.reduceLeDiff,Nat.reduceEqDiff,Nat.reduceAdd,Nat.reduceMul,Int.reduceNeg,Nat.reduceBEq,reduceCtorEq,↓reduceIte,hac, hz1])
             |refine e1 ?_|refine e2 ?_|refine e3 ?_|refine e4 ?_|refine e5 ?_|refine e6 ?_|refine e7 ?_|refine e8 ?_|refine e9 ?_|refine e0 (by decide) ?_|refine ea ?_|(refine And.intro ?_ ?_;omega)|refine And.intro (of_eq_true PutAt_put) ?_
             |((first|refine gn (fun h=>?_) (fun h=>?_)|refine gf (fun h=>?_) (fun h=>?_)|refine gb (fun h=>?_) (fun h=>?_)|refine gp (fun h=>?_) (fun h=>?_))<;>(try first|exact bt (by assumption) (by assumption)|contradiction|(exfalso;omega))<;>(try with_reducible apply s7)<;>(try simp -dsimp (disch:=omega) only[h,go_sem,Nat.reduceLT,Nat.reduceLeDiff,Nat.reduceEqDiff,Nat.reduceAdd,Nat.reduceMul,Int.reduceNeg,Nat.reduceBEq,reduceCtorEq,↓reduceIte,hac, hz1]))|refine Exists.intro _ (Exists.intro _ (And.intro (And.intro rfl rfl) ?_))
             |refine cu (digit_spec _) ?_|refine cv (digit_spec _) ?_|refine cx (digit_spec _) ?_
             |refine cy (hfl 7 ⟨i, e⟩) ?_|refine cz (hfl 7 ⟨i, e⟩) ?_
          · (try have hz2 : ¬ (a + 1 < i) := fun k => hz ⟨hz1, k⟩)
            repeat' first
             |refine s1 ?_|refine s2 ?_|refine wt rfl ?_|refine wf rfl ?_|(refine wc rfl (fun h=>?_) (fun h=>?_)<;>(try simp only[Bool.not_eq_true',Bool.not_eq_false',decide_eq_true_eq,decide_eq_false_iff_not,Bool.not_not] at h)<;>(try first|exact bt (by assumption) (by assumption)|contradiction|(exfalso;omega)))|((first|refine s3 (mu:=[]) ?_|(refine W_region_any (id:=5) [] ⟨[3,7,14,18],[],[],[],[],[],0⟩ mx (by kernel_rfl) ?_;intro nu _ _)|(refine W_region_any (id:=6) [] ⟨[5,9],[],[],[],[],[],0⟩ mx (by kernel_rfl) ?_;intro nu _ _)|(refine W_region_any [] c0 mx (by kernel_rfl) ?_;intro nu _ _)|refine prun_go ?_|refine drun_go ?_|refine s5 ?_|refine s6 ?_|with_reducible apply s7);simp -dsimp (disch:=omega) only[go_sem,Nat.reduceLT,Nat.reduceLeDiff,Nat.reduceEqDiff,Nat.reduceAdd,Nat.reduceMul,Int.reduceNeg,Nat.reduceBEq,reduceCtorEq,↓reduceIte,hac, hz1])
             |refine e1 ?_|refine e2 ?_|refine e3 ?_|refine e4 ?_|refine e5 ?_|refine e6 ?_|refine e7 ?_|refine e8 ?_|refine e9 ?_|refine e0 (by decide) ?_|refine ea ?_|(refine And.intro ?_ ?_;omega)|refine And.intro (of_eq_true PutAt_put) ?_
             |((first|refine gn (fun h=>?_) (fun h=>?_)|refine gf (fun h=>?_) (fun h=>?_)|refine gb (fun h=>?_) (fun h=>?_)|refine gp (fun h=>?_) (fun h=>?_))<;>(try first|exact bt (by assumption) (by assumption)|contradiction|(exfalso;omega))<;>(try with_reducible apply s7)<;>(try simp -dsimp (disch:=omega) only[h,go_sem,Nat.reduceLT,Nat.reduceLeDiff,Nat.reduceEqDiff,Nat.reduceAdd,Nat.reduceMul,Int.reduceNeg,Nat.reduceBEq,reduceCtorEq,↓reduceIte,hac, hz1]))|refine Exists.intro _ (Exists.intro _ (And.intro (And.intro rfl rfl) ?_))
             |refine cu (digit_spec _) ?_|refine cv (digit_spec _) ?_|refine cx (digit_spec _) ?_
             |refine cy (hfl 7 ⟨i, e⟩) ?_|refine cz (hfl 7 ⟨i, e⟩) ?_
  · rw [if_neg (by rw [hd]; simp)]
    repeat' first
     |refine s1 ?_|refine s2 ?_|refine wt rfl ?_|refine wf rfl ?_|(refine wc rfl (fun h=>?_) (fun h=>?_)<;>(try simp only[Bool.not_eq_true',Bool.not_eq_false',decide_eq_true_eq,decide_eq_false_iff_not,Bool.not_not] at h)<;>(try first|exact bt (by assumption) (by assumption)|contradiction|(exfalso;omega)))|((first|refine s3 (mu:=[]) ?_|(refine W_region_any [] c0 mx (by kernel_rfl) ?_;intro nu _ _)|refine prun_go ?_|refine drun_go ?_|refine s5 ?_|refine s6 ?_|with_reducible apply s7);simp -dsimp (disch:=omega) only[go_sem,Nat.reduceLT,Nat.reduceLeDiff,Nat.reduceEqDiff,Nat.reduceAdd,Nat.reduceMul,Int.reduceNeg,Nat.reduceBEq,reduceCtorEq,↓reduceIte,hd])
     |refine e1 ?_|refine e2 ?_|refine e3 ?_|refine e4 ?_|refine e5 ?_|refine e6 ?_|refine e7 ?_|refine e8 ?_|refine e9 ?_|refine e0 (by decide) ?_|refine ea ?_|(refine And.intro ?_ ?_;omega)|refine And.intro (of_eq_true PutAt_put) ?_
     |((first|refine gn (fun h=>?_) (fun h=>?_)|refine gf (fun h=>?_) (fun h=>?_)|refine gb (fun h=>?_) (fun h=>?_)|refine gp (fun h=>?_) (fun h=>?_))<;>(try first|exact bt (by assumption) (by assumption)|contradiction|(exfalso;omega))<;>(try with_reducible apply s7)<;>(try simp -dsimp (disch:=omega) only[h,go_sem,Nat.reduceLT,Nat.reduceLeDiff,Nat.reduceEqDiff,Nat.reduceAdd,Nat.reduceMul,Int.reduceNeg,Nat.reduceBEq,reduceCtorEq,↓reduceIte,hd]))|refine Exists.intro _ (Exists.intro _ (And.intro (And.intro rfl rfl) ?_))
     |refine cy (hpk) ?_|refine cz (hpk) ?_
     |refine cu (hdg) ?_|refine cv (hdg) ?_|refine cx (hdg) ?_
     |refine cy (hfl 4 ⟨a, e⟩) ?_|refine cz (hfl 4 ⟨a, e⟩) ?_
end
end Go.Proofs.YtaealcimocpnnaaGreat
