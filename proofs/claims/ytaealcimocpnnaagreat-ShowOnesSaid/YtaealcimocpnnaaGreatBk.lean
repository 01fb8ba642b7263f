/- asre.Parse. Conditions: none. -/
import Derived.Test.YtaealcimocpnnaaGreatBj
set_option linter.unusedVariables false
set_option linter.unusedSimpArgs false
namespace Go.Proofs.YtaealcimocpnnaaGreat
open Go.Kern
set_option maxRecDepth 100000
set_option maxHeartbeats 4000000
attribute [local irreducible] PCall W
attribute [local go_sem] pO

theorem choice_all (s : ByteArray) (hs : s.size ≤ 1000) : ∀ n, n ≤ 8 → ChS s n
  | 0, _ => choice_zero s hs
  | n + 1, h => choice_spec s hs n (by omega) (choice_all s hs n (by omega))

section
variable (s : ByteArray) (hs : s.size ≤ 1000)
include hs
theorem parse_spec (σ : Store) :
    PCall Tryz.prog 129 [.str s] σ (fun r t => (∃ x, r = .tup [x, .int .i64 (parseE (B s))]) ∧ t = σ) := by
  have hl := length_B s
  by_cases hlong : 64 < (B s).length
  · have hE : parseE (B s) = 2 := by rw [parseE, if_pos hlong]
    rw [hE]
    refine PCall_w [.tmp 2, .tmp 3] 64 Tryz.func129 (by rfl) rfl rfl rfl rfl ?_
    repeat' first
     |refine s1 ?_|refine s2 ?_|refine wt rfl ?_|refine wf rfl ?_|(refine wc rfl (fun h=>?_) (fun h=>?_)<;>(try simp only[Bool.not_eq_true',Bool.not_eq_false',decide_eq_true_eq,decide_eq_false_iff_not,Bool.not_not] at h)<;>(try first|exact bt (by assumption) (by assumption)|contradiction|(exfalso;omega)))|((first|refine s3 (mu:=[]) ?_|(refine W_region_any [] c0 mx (by kernel_rfl) ?_;intro nu _ _)|refine prun_go ?_|refine drun_go ?_|refine s5 ?_|refine s6 ?_|with_reducible apply s7);simp -dsimp (disch:=omega) only[go_sem,Nat.reduceLT,Nat.reduceLeDiff,Nat.reduceEqDiff,Nat.reduceAdd,Nat.reduceMul,Int.reduceNeg,Nat.reduceBEq,reduceCtorEq,↓reduceIte])
     |refine e1 ?_|refine e2 ?_|refine e3 ?_|refine e4 ?_|refine e5 ?_|refine e6 ?_|refine e7 ?_|refine e8 ?_|refine e9 ?_|refine e0 (by decide) ?_|refine ea ?_|(refine And.intro ?_ ?_;omega)|refine And.intro (of_eq_true PutAt_put) ?_
     |((first|refine gn (fun h=>?_) (fun h=>?_)|refine gf (fun h=>?_) (fun h=>?_)|refine gb (fun h=>?_) (fun h=>?_)|refine gp (fun h=>?_) (fun h=>?_))<;>(try first|exact bt (by assumption) (by assumption)|contradiction|(exfalso;omega))<;>(try with_reducible apply s7)<;>(try simp -dsimp (disch:=omega) only[h,go_sem,Nat.reduceLT,Nat.reduceLeDiff,Nat.reduceEqDiff,Nat.reduceAdd,Nat.reduceMul,Int.reduceNeg,Nat.reduceBEq,reduceCtorEq,↓reduceIte]))|refine Exists.intro _ (Exists.intro _ (And.intro (And.intro rfl rfl) ?_))
    exact ⟨_, Store.Sub.refl _, ⟨_, rfl⟩, rfl⟩
  · have h1 : ∀ o (σ : Store), _ := fun o σ => take_spec s hs ⟨0, 0⟩ (Nat.zero_le _) 94 o σ
    have hl1 := (take_mono (B s) 94).len ⟨0, 0⟩ (Nat.zero_le _)
    obtain ⟨b1, p1, hp1⟩ : ∃ b1 p1, takeB (B s) 94 ⟨0, 0⟩ = (b1, p1) := ⟨_, _, rfl⟩
    simp only [hp1] at h1 hl1
    have h2 := fun o => choice_all s hs 8 (Nat.le_refl _) p1 hl1 o
    have hl2 := (choice_mono (B s) 8).len p1 hl1
    obtain ⟨p2, hp2⟩ : ∃ x, choiceB (B s) 8 p1 = x := ⟨_, rfl⟩
    simp only [hp2] at h2 hl2
    have h3 := fun o => take_spec s hs p2 hl2 36 o
    have hl3 := (take_mono (B s) 36).len p2 hl2
    obtain ⟨b3, p3, hp3⟩ : ∃ b1 p1, takeB (B s) 36 p2 = (b1, p1) := ⟨_, _, rfl⟩
    simp only [hp3] at h3 hl3
    have h4 := fun o => peek_spec s hs p3 hl3 o
    have hE : parseE (B s) = if p3.e = 0 then (if skipB (B s) p3.at_ < (B s).length then 4 else 0) else p3.e := by
      rw [parseE, if_neg hlong]; simp only [hp1, hp2, hp3]
    have h89 : (9 - ((8 : Nat) : Int)) = 1 := by omega
    simp only [h89] at h2
    have h5 : ∀ (o : Nat) (q : PS) (σ : Store), PCall Tryz.prog 166 [.ptr o 0 0, .int .i64 4] (σ.put o (pO s q)) (fun r t => r = .tup [] ∧ t = σ.put o (pO s (failB 4 q))) := fun o q σ => fail_spec s q 4 o σ
    obtain ⟨a3, e3⟩ := p3
    simp only at hE h4 hl3
    have hsk := skipB_len (B s) hl3
    obtain ⟨a4, ha4⟩ : ∃ x, skipB (B s) a3 = x := ⟨_, rfl⟩
    simp only [ha4] at hE h4 hsk
    rw [hE]
    by_cases he : e3 = 0
    · subst he
      rw [if_pos rfl]
      by_cases hlt : a4 < (B s).length
      · rw [if_pos hlt]
        refine PCall_w [.tmp 2, .tmp 3] 64 Tryz.func129 (by rfl) rfl rfl rfl rfl ?_
        repeat' first
         |refine s1 ?_|refine s2 ?_|refine wt rfl ?_|refine wf rfl ?_|(refine wc rfl (fun h=>?_) (fun h=>?_)<;>(try simp only[Bool.not_eq_true',Bool.not_eq_false',decide_eq_true_eq,decide_eq_false_iff_not,Bool.not_not] at h)<;>(try first|exact bt (by assumption) (by assumption)|contradiction|(exfalso;omega)))|((first|refine s3 (mu:=[11,15]) ?_|(refine W_region_any [11,15] c0 mx (by kernel_rfl) ?_;intro nu _ _)|refine prun_go ?_|refine drun_go ?_|refine s5 ?_|refine s6 ?_|with_reducible apply s7);simp -dsimp (disch:=omega) only[go_sem,Nat.reduceLT,Nat.reduceLeDiff,Nat.reduceEqDiff,Nat.reduceAdd,Nat.reduceMul,Int.reduceNeg,Nat.reduceBEq,reduceCtorEq,↓reduceIte])
         |refine e1 ?_|refine e2 ?_|refine e3 ?_|refine e4 ?_|refine e5 ?_|refine e6 ?_|refine e7 ?_|refine e8 ?_|refine e9 ?_|refine e0 (by decide) ?_|refine ea ?_|(refine And.intro ?_ ?_;omega)|refine And.intro (of_eq_true PutAt_put) ?_
         |((first|refine gn (fun h=>?_) (fun h=>?_)|refine gf (fun h=>?_) (fun h=>?_)|refine gb (fun h=>?_) (fun h=>?_)|refine gp (fun h=>?_) (fun h=>?_))<;>(try first|exact bt (by assumption) (by assumption)|contradiction|(exfalso;omega))<;>(try with_reducible apply s7)<;>(try simp -dsimp (disch:=omega) only[h,go_sem,Nat.reduceLT,Nat.reduceLeDiff,Nat.reduceEqDiff,Nat.reduceAdd,Nat.reduceMul,Int.reduceNeg,Nat.reduceBEq,reduceCtorEq,↓reduceIte]))|refine Exists.intro _ (Exists.intro _ (And.intro (And.intro rfl rfl) ?_))
        intro o ho
        repeat' first
         |refine s1 ?_|refine s2 ?_|refine wt rfl ?_|refine wf rfl ?_|(refine wc rfl (fun h=>?_) (fun h=>?_)<;>(try simp only[Bool.not_eq_true',Bool.not_eq_false',decide_eq_true_eq,decide_eq_false_iff_not,Bool.not_not] at h)<;>(try first|exact bt (by assumption) (by assumption)|contradiction|(exfalso;omega)))|((first|refine s3 (mu:=[11,15]) ?_|(refine W_region_any [11,15] c0 mx (by kernel_rfl) ?_;intro nu _ _)|refine prun_go ?_|refine drun_go ?_|refine s5 ?_|refine s6 ?_|with_reducible apply s7);simp -dsimp (disch:=omega) only[go_sem,Nat.reduceLT,Nat.reduceLeDiff,Nat.reduceEqDiff,Nat.reduceAdd,Nat.reduceMul,Int.reduceNeg,Nat.reduceBEq,reduceCtorEq,↓reduceIte])
         |refine e1 ?_|refine e2 ?_|refine e3 ?_|refine e4 ?_|refine e5 ?_|refine e6 ?_|refine e7 ?_|refine e8 ?_|refine e9 ?_|refine e0 (by decide) ?_|refine ea ?_|(refine And.intro ?_ ?_;omega)|refine And.intro (of_eq_true PutAt_put) ?_
         |((first|refine gn (fun h=>?_) (fun h=>?_)|refine gf (fun h=>?_) (fun h=>?_)|refine gb (fun h=>?_) (fun h=>?_)|refine gp (fun h=>?_) (fun h=>?_))<;>(try first|exact bt (by assumption) (by assumption)|contradiction|(exfalso;omega))<;>(try with_reducible apply s7)<;>(try simp -dsimp (disch:=omega) only[h,go_sem,Nat.reduceLT,Nat.reduceLeDiff,Nat.reduceEqDiff,Nat.reduceAdd,Nat.reduceMul,Int.reduceNeg,Nat.reduceBEq,reduceCtorEq,↓reduceIte]))|refine Exists.intro _ (Exists.intro _ (And.intro (And.intro rfl rfl) ?_))
         |refine cy (h1 o _) ?_|refine cz (h1 o _) ?_
        intro x hx
        have hxo := alloc_ne hx
        rw [put_oth hxo] at hx
        have sw := put_swap hxo
        have ot := put_oth hxo
        simp only [sw]
        repeat' first
         |refine s1 ?_|refine s2 ?_|refine wt rfl ?_|refine wf rfl ?_|(refine wc rfl (fun h=>?_) (fun h=>?_)<;>(try simp only[Bool.not_eq_true',Bool.not_eq_false',decide_eq_true_eq,decide_eq_false_iff_not,Bool.not_not] at h)<;>(try first|exact bt (by assumption) (by assumption)|contradiction|(exfalso;omega)))|((first|refine s3 (mu:=[]) ?_|(refine W_region_any (id:=10) [] ⟨[3],[],[],[],[],[],0⟩ mx (by kernel_rfl) ?_;intro nu _ _)|(refine W_region_any [] c0 mx (by kernel_rfl) ?_;intro nu _ _)|refine prun_go ?_|refine drun_go ?_|refine s5 ?_|refine s6 ?_|with_reducible apply s7);simp -dsimp (disch:=omega) only[go_sem,Nat.reduceLT,Nat.reduceLeDiff,Nat.reduceEqDiff,Nat.reduceAdd,Nat.reduceMul,Int.reduceNeg,Nat.reduceBEq,reduceCtorEq,↓reduceIte,sw, ot])
         |refine e1 ?_|refine e2 ?_|refine e3 ?_|refine e4 ?_|refine e5 ?_|refine e6 ?_|refine e7 ?_|refine e8 ?_|refine e9 ?_|refine e0 (by decide) ?_|refine ea ?_|(refine And.intro ?_ ?_;omega)|refine And.intro (of_eq_true PutAt_put) ?_
         |((first|refine gn (fun h=>?_) (fun h=>?_)|refine gf (fun h=>?_) (fun h=>?_)|refine gb (fun h=>?_) (fun h=>?_)|refine gp (fun h=>?_) (fun h=>?_))<;>(try first|exact bt (by assumption) (by assumption)|contradiction|(exfalso;omega))<;>(try with_reducible apply s7)<;>(try simp -dsimp (disch:=omega) only[h,go_sem,Nat.reduceLT,Nat.reduceLeDiff,Nat.reduceEqDiff,Nat.reduceAdd,Nat.reduceMul,Int.reduceNeg,Nat.reduceBEq,reduceCtorEq,↓reduceIte,sw, ot]))|refine Exists.intro _ (Exists.intro _ (And.intro (And.intro rfl rfl) ?_))
         |refine cy (h2 o _) ?_|refine cz (h2 o _) ?_
         |refine cy (h3 o _) ?_|refine cz (h3 o _) ?_
         |refine cy (h4 o _) ?_|refine cz (h4 o _) ?_
         |refine cy (h5 o ⟨a4, 0⟩ _) ?_|refine cz (h5 o ⟨a4, 0⟩ _) ?_
        all_goals exact ⟨_, keep_new (keep_new (fun _ _ h => h) hx) ho, ⟨_, rfl⟩, rfl⟩
      · rw [if_neg hlt]
        have hc0 : chr (B s) a4 = 0 := if_neg hlt
        refine PCall_w [.tmp 2, .tmp 3] 64 Tryz.func129 (by rfl) rfl rfl rfl rfl ?_
        repeat' first
         |refine s1 ?_|refine s2 ?_|refine wt rfl ?_|refine wf rfl ?_|(refine wc rfl (fun h=>?_) (fun h=>?_)<;>(try simp only[Bool.not_eq_true',Bool.not_eq_false',decide_eq_true_eq,decide_eq_false_iff_not,Bool.not_not] at h)<;>(try first|exact bt (by assumption) (by assumption)|contradiction|(exfalso;omega)))|((first|refine s3 (mu:=[11,15]) ?_|(refine W_region_any [11,15] c0 mx (by kernel_rfl) ?_;intro nu _ _)|refine prun_go ?_|refine drun_go ?_|refine s5 ?_|refine s6 ?_|with_reducible apply s7);simp -dsimp (disch:=omega) only[go_sem,Nat.reduceLT,Nat.reduceLeDiff,Nat.reduceEqDiff,Nat.reduceAdd,Nat.reduceMul,Int.reduceNeg,Nat.reduceBEq,reduceCtorEq,↓reduceIte])
         |refine e1 ?_|refine e2 ?_|refine e3 ?_|refine e4 ?_|refine e5 ?_|refine e6 ?_|refine e7 ?_|refine e8 ?_|refine e9 ?_|refine e0 (by decide) ?_|refine ea ?_|(refine And.intro ?_ ?_;omega)|refine And.intro (of_eq_true PutAt_put) ?_
         |((first|refine gn (fun h=>?_) (fun h=>?_)|refine gf (fun h=>?_) (fun h=>?_)|refine gb (fun h=>?_) (fun h=>?_)|refine gp (fun h=>?_) (fun h=>?_))<;>(try first|exact bt (by assumption) (by assumption)|contradiction|(exfalso;omega))<;>(try with_reducible apply s7)<;>(try simp -dsimp (disch:=omega) only[h,go_sem,Nat.reduceLT,Nat.reduceLeDiff,Nat.reduceEqDiff,Nat.reduceAdd,Nat.reduceMul,Int.reduceNeg,Nat.reduceBEq,reduceCtorEq,↓reduceIte]))|refine Exists.intro _ (Exists.intro _ (And.intro (And.intro rfl rfl) ?_))
        intro o ho
        repeat' first
         |refine s1 ?_|refine s2 ?_|refine wt rfl ?_|refine wf rfl ?_|(refine wc rfl (fun h=>?_) (fun h=>?_)<;>(try simp only[Bool.not_eq_true',Bool.not_eq_false',decide_eq_true_eq,decide_eq_false_iff_not,Bool.not_not] at h)<;>(try first|exact bt (by assumption) (by assumption)|contradiction|(exfalso;omega)))|((first|refine s3 (mu:=[11,15]) ?_|(refine W_region_any [11,15] c0 mx (by kernel_rfl) ?_;intro nu _ _)|refine prun_go ?_|refine drun_go ?_|refine s5 ?_|refine s6 ?_|with_reducible apply s7);simp -dsimp (disch:=omega) only[go_sem,Nat.reduceLT,Nat.reduceLeDiff,Nat.reduceEqDiff,Nat.reduceAdd,Nat.reduceMul,Int.reduceNeg,Nat.reduceBEq,reduceCtorEq,↓reduceIte])
         |refine e1 ?_|refine e2 ?_|refine e3 ?_|refine e4 ?_|refine e5 ?_|refine e6 ?_|refine e7 ?_|refine e8 ?_|refine e9 ?_|refine e0 (by decide) ?_|refine ea ?_|(refine And.intro ?_ ?_;omega)|refine And.intro (of_eq_true PutAt_put) ?_
         |((first|refine gn (fun h=>?_) (fun h=>?_)|refine gf (fun h=>?_) (fun h=>?_)|refine gb (fun h=>?_) (fun h=>?_)|refine gp (fun h=>?_) (fun h=>?_))<;>(try first|exact bt (by assumption) (by assumption)|contradiction|(exfalso;omega))<;>(try with_reducible apply s7)<;>(try simp -dsimp (disch:=omega) only[h,go_sem,Nat.reduceLT,Nat.reduceLeDiff,Nat.reduceEqDiff,Nat.reduceAdd,Nat.reduceMul,Int.reduceNeg,Nat.reduceBEq,reduceCtorEq,↓reduceIte]))|refine Exists.intro _ (Exists.intro _ (And.intro (And.intro rfl rfl) ?_))
         |refine cy (h1 o _) ?_|refine cz (h1 o _) ?_
        intro x hx
        have hxo := alloc_ne hx
        rw [put_oth hxo] at hx
        have sw := put_swap hxo
        have ot := put_oth hxo
        simp only [sw]
        repeat' first
         |refine s1 ?_|refine s2 ?_|refine wt rfl ?_|refine wf rfl ?_|(refine wc rfl (fun h=>?_) (fun h=>?_)<;>(try simp only[Bool.not_eq_true',Bool.not_eq_false',decide_eq_true_eq,decide_eq_false_iff_not,Bool.not_not] at h)<;>(try first|exact bt (by assumption) (by assumption)|contradiction|(exfalso;omega)))|((first|refine s3 (mu:=[]) ?_|(refine W_region_any (id:=10) [] ⟨[3],[],[],[],[],[],0⟩ mx (by kernel_rfl) ?_;intro nu _ _)|(refine W_region_any [] c0 mx (by kernel_rfl) ?_;intro nu _ _)|refine prun_go ?_|refine drun_go ?_|refine s5 ?_|refine s6 ?_|with_reducible apply s7);simp -dsimp (disch:=omega) only[go_sem,Nat.reduceLT,Nat.reduceLeDiff,Nat.reduceEqDiff,Nat.reduceAdd,Nat.reduceMul,Int.reduceNeg,Nat.reduceBEq,reduceCtorEq,↓reduceIte,sw, ot, hc0])
         |refine e1 ?_|refine e2 ?_|refine e3 ?_|refine e4 ?_|refine e5 ?_|refine e6 ?_|refine e7 ?_|refine e8 ?_|refine e9 ?_|refine e0 (by decide) ?_|refine ea ?_|(refine And.intro ?_ ?_;omega)|refine And.intro (of_eq_true PutAt_put) ?_
         |((first|refine gn (fun h=>?_) (fun h=>?_)|refine gf (fun h=>?_) (fun h=>?_)|refine gb (fun h=>?_) (fun h=>?_)|refine gp (fun h=>?_) (fun h=>?_))<;>(try first|exact bt (by assumption) (by assumption)|contradiction|(exfalso;omega))<;>(try with_reducible apply s7)<;>(try simp -dsimp (disch:=omega) only[h,go_sem,Nat.reduceLT,Nat.reduceLeDiff,Nat.reduceEqDiff,Nat.reduceAdd,Nat.reduceMul,Int.reduceNeg,Nat.reduceBEq,reduceCtorEq,↓reduceIte,sw, ot, hc0]))|refine Exists.intro _ (Exists.intro _ (And.intro (And.intro rfl rfl) ?_))
         |refine cy (h2 o _) ?_|refine cz (h2 o _) ?_
         |refine cy (h3 o _) ?_|refine cz (h3 o _) ?_
         |refine cy (h4 o _) ?_|refine cz (h4 o _) ?_
         |refine cy (h5 o ⟨a4, 0⟩ _) ?_|refine cz (h5 o ⟨a4, 0⟩ _) ?_
        all_goals exact ⟨_, keep_new (keep_new (fun _ _ h => h) hx) ho, ⟨_, rfl⟩, rfl⟩
    · rw [if_neg he]
      refine PCall_w [.tmp 2, .tmp 3] 64 Tryz.func129 (by rfl) rfl rfl rfl rfl ?_
      repeat' first
       |refine s1 ?_|refine s2 ?_|refine wt rfl ?_|refine wf rfl ?_|(refine wc rfl (fun h=>?_) (fun h=>?_)<;>(try simp only[Bool.not_eq_true',Bool.not_eq_false',decide_eq_true_eq,decide_eq_false_iff_not,Bool.not_not] at h)<;>(try first|exact bt (by assumption) (by assumption)|contradiction|(exfalso;omega)))|((first|refine s3 (mu:=[11,15]) ?_|(refine W_region_any [11,15] c0 mx (by kernel_rfl) ?_;intro nu _ _)|refine prun_go ?_|refine drun_go ?_|refine s5 ?_|refine s6 ?_|with_reducible apply s7);simp -dsimp (disch:=omega) only[go_sem,Nat.reduceLT,Nat.reduceLeDiff,Nat.reduceEqDiff,Nat.reduceAdd,Nat.reduceMul,Int.reduceNeg,Nat.reduceBEq,reduceCtorEq,↓reduceIte])
       |refine e1 ?_|refine e2 ?_|refine e3 ?_|refine e4 ?_|refine e5 ?_|refine e6 ?_|refine e7 ?_|refine e8 ?_|refine e9 ?_|refine e0 (by decide) ?_|refine ea ?_|(refine And.intro ?_ ?_;omega)|refine And.intro (of_eq_true PutAt_put) ?_
       |((first|refine gn (fun h=>?_) (fun h=>?_)|refine gf (fun h=>?_) (fun h=>?_)|refine gb (fun h=>?_) (fun h=>?_)|refine gp (fun h=>?_) (fun h=>?_))<;>(try first|exact bt (by assumption) (by assumption)|contradiction|(exfalso;omega))<;>(try with_reducible apply s7)<;>(try simp -dsimp (disch:=omega) only[h,go_sem,Nat.reduceLT,Nat.reduceLeDiff,Nat.reduceEqDiff,Nat.reduceAdd,Nat.reduceMul,Int.reduceNeg,Nat.reduceBEq,reduceCtorEq,↓reduceIte]))|refine Exists.intro _ (Exists.intro _ (And.intro (And.intro rfl rfl) ?_))
      intro o ho
      repeat' first
       |refine s1 ?_|refine s2 ?_|refine wt rfl ?_|refine wf rfl ?_|(refine wc rfl (fun h=>?_) (fun h=>?_)<;>(try simp only[Bool.not_eq_true',Bool.not_eq_false',decide_eq_true_eq,decide_eq_false_iff_not,Bool.not_not] at h)<;>(try first|exact bt (by assumption) (by assumption)|contradiction|(exfalso;omega)))|((first|refine s3 (mu:=[11,15]) ?_|(refine W_region_any [11,15] c0 mx (by kernel_rfl) ?_;intro nu _ _)|refine prun_go ?_|refine drun_go ?_|refine s5 ?_|refine s6 ?_|with_reducible apply s7);simp -dsimp (disch:=omega) only[go_sem,Nat.reduceLT,Nat.reduceLeDiff,Nat.reduceEqDiff,Nat.reduceAdd,Nat.reduceMul,Int.reduceNeg,Nat.reduceBEq,reduceCtorEq,↓reduceIte])
       |refine e1 ?_|refine e2 ?_|refine e3 ?_|refine e4 ?_|refine e5 ?_|refine e6 ?_|refine e7 ?_|refine e8 ?_|refine e9 ?_|refine e0 (by decide) ?_|refine ea ?_|(refine And.intro ?_ ?_;omega)|refine And.intro (of_eq_true PutAt_put) ?_
       |((first|refine gn (fun h=>?_) (fun h=>?_)|refine gf (fun h=>?_) (fun h=>?_)|refine gb (fun h=>?_) (fun h=>?_)|refine gp (fun h=>?_) (fun h=>?_))<;>(try first|exact bt (by assumption) (by assumption)|contradiction|(exfalso;omega))<;>(try with_reducible apply s7)<;>(try simp -dsimp (disch:=omega) only[h,go_sem,Nat.reduceLT,Nat.reduceLeDiff,Nat.reduceEqDiff,Nat.reduceAdd,Nat.reduceMul,Int.reduceNeg,Nat.reduceBEq,reduceCtorEq,↓reduceIte]))|refine Exists.intro _ (Exists.intro _ (And.intro (And.intro rfl rfl) ?_))
       |refine cy (h1 o _) ?_|refine cz (h1 o _) ?_
      intro x hx
      have hxo := alloc_ne hx
      rw [put_oth hxo] at hx
      have sw := put_swap hxo
      have ot := put_oth hxo
      simp only [sw]
      repeat' first
       |refine s1 ?_|refine s2 ?_|refine wt rfl ?_|refine wf rfl ?_|(refine wc rfl (fun h=>?_) (fun h=>?_)<;>(try simp only[Bool.not_eq_true',Bool.not_eq_false',decide_eq_true_eq,decide_eq_false_iff_not,Bool.not_not] at h)<;>(try first|exact bt (by assumption) (by assumption)|contradiction|(exfalso;omega)))|((first|refine s3 (mu:=[]) ?_|(refine W_region_any (id:=10) [] ⟨[3],[],[],[],[],[],0⟩ mx (by kernel_rfl) ?_;intro nu _ _)|(refine W_region_any [] c0 mx (by kernel_rfl) ?_;intro nu _ _)|refine prun_go ?_|refine drun_go ?_|refine s5 ?_|refine s6 ?_|with_reducible apply s7);simp -dsimp (disch:=omega) only[go_sem,Nat.reduceLT,Nat.reduceLeDiff,Nat.reduceEqDiff,Nat.reduceAdd,Nat.reduceMul,Int.reduceNeg,Nat.reduceBEq,reduceCtorEq,↓reduceIte,sw, ot, he])
       |refine e1 ?_|refine e2 ?_|refine e3 ?_|refine e4 ?_|refine e5 ?_|refine e6 ?_|refine e7 ?_|refine e8 ?_|refine e9 ?_|refine e0 (by decide) ?_|refine ea ?_|(refine And.intro ?_ ?_;omega)|refine And.intro (of_eq_true PutAt_put) ?_
       |((first|refine gn (fun h=>?_) (fun h=>?_)|refine gf (fun h=>?_) (fun h=>?_)|refine gb (fun h=>?_) (fun h=>?_)|refine gp (fun h=>?_) (fun h=>?_))<;>(try first|exact bt (by assumption) (by assumption)|contradiction|(exfalso;omega))<;>(try with_reducible apply s7)<;>(try simp -dsimp (disch:=omega) only[h,go_sem,Nat.reduceLT,Nat.reduceLeDiff,Nat.reduceEqDiff,Nat.reduceAdd,Nat.reduceMul,Int.reduceNeg,Nat.reduceBEq,reduceCtorEq,↓reduceIte,sw, ot, he]))|refine Exists.intro _ (Exists.intro _ (And.intro (And.intro rfl rfl) ?_))
       |refine cy (h2 o _) ?_|refine cz (h2 o _) ?_
       |refine cy (h3 o _) ?_|refine cz (h3 o _) ?_
       |refine cy (h4 o _) ?_|refine cz (h4 o _) ?_
       |refine cy (h5 o ⟨a4, 0⟩ _) ?_|refine cz (h5 o ⟨a4, 0⟩ _) ?_
      all_goals exact ⟨_, keep_new (keep_new (fun _ _ h => h) hx) ho, ⟨_, rfl⟩, rfl⟩
end
end Go.Proofs.YtaealcimocpnnaaGreat
