/- Contracts of asre's parser, fifth part: choice. Conditions: none. -/
import Derived.Test.YtaealcimocpnnaaGreatBi
set_option linter.unusedVariables false
set_option linter.unusedSimpArgs false
namespace Go.Proofs.YtaealcimocpnnaaGreat
open Go.Kern
set_option maxRecDepth 100000
set_option maxHeartbeats 4000000
attribute [local irreducible] PCall W
attribute [local go_sem] pO

theorem Sub_in {σ X : Store} {q o : Nat} {N x : Ob} (h : ∀ c y, σ c = some y → X c = some y) (hq : σ q = none) : Store.Sub (σ.put o x) ((X.put q N).put o x) := fun c y hy => by
  simp only [Store.put] at hy ⊢
  split
  · rename_i e; rw [if_pos e] at hy; exact hy
  · rename_i e; rw [if_neg e] at hy
    split
    · rename_i e2; rw [e2, hq] at hy; cases hy
    · exact h _ _ hy
theorem choice_zero (s : ByteArray) (hs : s.size ≤ 1000) : ChS s 0 := by
  intro p hp o σ
  refine PCall_isP ?_
  have h1 : ∀ σ : Store, PCall Tryz.prog 166 [.ptr o 0 0, .int .i64 2] (σ.put o (pO s p)) (fun r t => r = .tup [] ∧ t = σ.put o (pO s (failB 2 p))) := fun σ => fail_spec s p 2 o σ
  simp only [choiceB]
  refine PCall_w [.tmp 4] 53 Tryz.func164 (by rfl) rfl rfl rfl rfl ?_
  repeat' first
   |refine s1 ?_|refine s2 ?_|refine wt rfl ?_|refine wf rfl ?_|(refine wc rfl (fun h=>?_) (fun h=>?_)<;>(try simp only[Bool.not_eq_true',Bool.not_eq_false',decide_eq_true_eq,decide_eq_false_iff_not,Bool.not_not] at h)<;>(try first|exact bt (by assumption) (by assumption)|contradiction|(exfalso;omega)))|((first|refine s3 (mu:=[]) ?_|(refine W_region_any [] c0 mx (by kernel_rfl) ?_;intro nu _ _)|refine prun_go ?_|refine drun_go ?_|refine s5 ?_|refine s6 ?_|with_reducible apply s7);simp -dsimp (disch:=omega) only[go_sem,Nat.reduceLT,Nat.reduceLeDiff,Nat.reduceEqDiff,Nat.reduceAdd,Nat.reduceMul,Int.reduceNeg,Nat.reduceBEq,reduceCtorEq,↓reduceIte])
   |refine e1 ?_|refine e2 ?_|refine e3 ?_|refine e4 ?_|refine e5 ?_|refine e6 ?_|refine e7 ?_|refine e8 ?_|refine e9 ?_|refine e0 (by decide) ?_|refine ea ?_|(refine And.intro ?_ ?_;omega)|refine And.intro (of_eq_true PutAt_put) ?_
   |((first|refine gn (fun h=>?_) (fun h=>?_)|refine gf (fun h=>?_) (fun h=>?_)|refine gb (fun h=>?_) (fun h=>?_)|refine gp (fun h=>?_) (fun h=>?_))<;>(try first|exact bt (by assumption) (by assumption)|contradiction|(exfalso;omega))<;>(try with_reducible apply s7)<;>(try simp -dsimp (disch:=omega) only[h,go_sem,Nat.reduceLT,Nat.reduceLeDiff,Nat.reduceEqDiff,Nat.reduceAdd,Nat.reduceMul,Int.reduceNeg,Nat.reduceBEq,reduceCtorEq,↓reduceIte]))|refine Exists.intro _ (Exists.intro _ (And.intro (And.intro rfl rfl) ?_))
   |refine cy (h1 _) ?_|refine cz (h1 _) ?_

section
variable (s : ByteArray) (hs : s.size ≤ 1000)
include hs
theorem choice_spec (n : Nat) (hn : n ≤ 7) (hch : ChS s n) : ChS s (n + 1) := by
  intro p hp o σ
  refine PCall_isP ?_
  have hl := length_B s
  have hd : (9 - ((n + 1 : Nat) : Int)) = 8 - n := by omega
  rw [hd]
  simp only [choiceB]
  obtain ⟨ch, hchE⟩ : ∃ f, choiceB (B s) n = f := ⟨_, rfl⟩
  have hmo := choice_mono (B s) n
  have hit : ∀ (p : PS), p.at_ ≤ (B s).length → ∀ (σ : Store), PCall Tryz.prog 187 [.ptr o 0 0, .int .i64 (8 - n)] (σ.put o (pO s p)) (fun r t => r = gpt ∧ t = σ.put o (pO s (itemB (B s) ch p))) := fun p hp σ => by
    rw [← hchE]; exact item_spec s hs n (by omega) hch p hp o σ
  rw [hchE] at hmo ⊢
  refine PCall_w [.tmp 4] 53 Tryz.func164 (by rfl) rfl rfl rfl rfl ?_
  repeat' first
   |refine s1 ?_|refine s2 ?_|refine wt rfl ?_|refine wf rfl ?_|(refine wc rfl (fun h=>?_) (fun h=>?_)<;>(try simp only[Bool.not_eq_true',Bool.not_eq_false',decide_eq_true_eq,decide_eq_false_iff_not,Bool.not_not] at h)<;>(try first|exact bt (by assumption) (by assumption)|contradiction|(exfalso;omega)))|((first|refine s3 (mu:=[14]) ?_|(refine W_region_any [14] c0 mx (by kernel_rfl) ?_;intro nu _ _)|refine prun_go ?_|refine drun_go ?_|refine s5 ?_|refine s6 ?_|with_reducible apply s7);simp -dsimp (disch:=omega) only[go_sem,Nat.reduceLT,Nat.reduceLeDiff,Nat.reduceEqDiff,Nat.reduceAdd,Nat.reduceMul,Int.reduceNeg,Nat.reduceBEq,reduceCtorEq,↓reduceIte])
   |refine e1 ?_|refine e2 ?_|refine e3 ?_|refine e4 ?_|refine e5 ?_|refine e6 ?_|refine e7 ?_|refine e8 ?_|refine e9 ?_|refine e0 (by decide) ?_|refine ea ?_|(refine And.intro ?_ ?_;omega)|refine And.intro (of_eq_true PutAt_put) ?_
   |((first|refine gn (fun h=>?_) (fun h=>?_)|refine gf (fun h=>?_) (fun h=>?_)|refine gb (fun h=>?_) (fun h=>?_)|refine gp (fun h=>?_) (fun h=>?_))<;>(try first|exact bt (by assumption) (by assumption)|contradiction|(exfalso;omega))<;>(try with_reducible apply s7)<;>(try simp -dsimp (disch:=omega) only[h,go_sem,Nat.reduceLT,Nat.reduceLeDiff,Nat.reduceEqDiff,Nat.reduceAdd,Nat.reduceMul,Int.reduceNeg,Nat.reduceBEq,reduceCtorEq,↓reduceIte]))|refine Exists.intro _ (Exists.intro _ (And.intro (And.intro rfl rfl) ?_))
  intro q hq
  have hqo := alloc_ne hq
  have sw := put_swap hqo
  have ot := put_oth hqo
  rw [ot] at hq
  simp only [sw]
  repeat' first
   |refine s1 ?_|refine s2 ?_|refine wt rfl ?_|refine wf rfl ?_|(refine wc rfl (fun h=>?_) (fun h=>?_)<;>(try simp only[Bool.not_eq_true',Bool.not_eq_false',decide_eq_true_eq,decide_eq_false_iff_not,Bool.not_not] at h)<;>(try first|exact bt (by assumption) (by assumption)|contradiction|(exfalso;omega)))|((first|refine s3 (mu:=[]) ?_|(refine W_region_any [] c0 mx (by kernel_rfl) ?_;intro nu _ _)|refine prun_go ?_|refine drun_go ?_|refine s5 ?_|refine s6 ?_|with_reducible apply s7);simp -dsimp (disch:=omega) only[go_sem,Nat.reduceLT,Nat.reduceLeDiff,Nat.reduceEqDiff,Nat.reduceAdd,Nat.reduceMul,Int.reduceNeg,Nat.reduceBEq,reduceCtorEq,↓reduceIte,sw, ot])
   |refine e1 ?_|refine e2 ?_|refine e3 ?_|refine e4 ?_|refine e5 ?_|refine e6 ?_|refine e7 ?_|refine e8 ?_|refine e9 ?_|refine e0 (by decide) ?_|refine ea ?_|(refine And.intro ?_ ?_;omega)|refine And.intro (of_eq_true PutAt_put) ?_
   |((first|refine gn (fun h=>?_) (fun h=>?_)|refine gf (fun h=>?_) (fun h=>?_)|refine gb (fun h=>?_) (fun h=>?_)|refine gp (fun h=>?_) (fun h=>?_))<;>(try first|exact bt (by assumption) (by assumption)|contradiction|(exfalso;omega))<;>(try with_reducible apply s7)<;>(try simp -dsimp (disch:=omega) only[h,go_sem,Nat.reduceLT,Nat.reduceLeDiff,Nat.reduceEqDiff,Nat.reduceAdd,Nat.reduceMul,Int.reduceNeg,Nat.reduceBEq,reduceCtorEq,↓reduceIte,sw, ot]))|refine Exists.intro _ (Exists.intro _ (And.intro (And.intro rfl rfl) ?_))
  refine W_loop_st (fun x : Lp => [(0, .ptr o 0 0), (1, .int .i64 (8 - n)), (5, .ptr q 0 0)]) (fun x => (x.τ.put q (nodeO 2 false .nil [] x.k x.rows)).put o (pO s x.p))
    (fun x => x.p.at_ ≤ (B s).length ∧ altB (B s) ch x.fuel x.p = altB (B s) ch ((B s).length + 2) p ∧ x.rows.length + x.fuel = (B s).length + 2 ∧ (B s).length < x.p.at_ + x.fuel ∧ rowsOk 1 x.rows = true ∧ (∀ c y, σ c = some y → x.τ c = some y) ∧ KindOk σ x.τ q o 215 1 x.k x.rows) (fun x => x.fuel)
    ⟨(B s).length + 2, p, .nil, [], σ⟩ ⟨hp, rfl, by simp, by simp only; omega, by rfl, fun _ _ h => h, .inr (.inl ⟨rfl, rfl⟩)⟩ (Env.Sub_of_has (by simp [Env.Has, Env.get])) (by simp only [pO, nodeO]; exact Store.Sub.refl _) ?_
  rintro ⟨fuel, p5, k, rows, τ⟩ ⟨i1, i2, i3, i4, i5, i6, i7⟩
  simp only at i1 i2 i3 i4 i5 i6 i7 ⊢
  rw [← i2]
  obtain ⟨f, rfl⟩ : ∃ f, fuel = f + 1 := ⟨fuel - 1, by omega⟩
  obtain ⟨N, hN⟩ : ∃ N, nodeO 2 false .nil [] k rows = N := ⟨_, rfl⟩
  rw [hN]
  repeat' first
   |refine s1 ?_|refine s2 ?_|refine wt rfl ?_|refine wf rfl ?_|(refine wc rfl (fun h=>?_) (fun h=>?_)<;>(try simp only[Bool.not_eq_true',Bool.not_eq_false',decide_eq_true_eq,decide_eq_false_iff_not,Bool.not_not] at h)<;>(try first|exact bt (by assumption) (by assumption)|contradiction|(exfalso;omega)))|((first|refine s3 (mu:=[16]) ?_|(refine W_region_any [16] c0 mx (by kernel_rfl) ?_;intro nu _ _)|refine prun_go ?_|refine drun_go ?_|refine s5 ?_|refine s6 ?_|with_reducible apply s7);simp -dsimp (disch:=omega) only[go_sem,Nat.reduceLT,Nat.reduceLeDiff,Nat.reduceEqDiff,Nat.reduceAdd,Nat.reduceMul,Int.reduceNeg,Nat.reduceBEq,reduceCtorEq,↓reduceIte])
   |refine e1 ?_|refine e2 ?_|refine e3 ?_|refine e4 ?_|refine e5 ?_|refine e6 ?_|refine e7 ?_|refine e8 ?_|refine e9 ?_|refine e0 (by decide) ?_|refine ea ?_|(refine And.intro ?_ ?_;omega)|refine And.intro (of_eq_true PutAt_put) ?_
   |((first|refine gn (fun h=>?_) (fun h=>?_)|refine gf (fun h=>?_) (fun h=>?_)|refine gb (fun h=>?_) (fun h=>?_)|refine gp (fun h=>?_) (fun h=>?_))<;>(try first|exact bt (by assumption) (by assumption)|contradiction|(exfalso;omega))<;>(try with_reducible apply s7)<;>(try simp -dsimp (disch:=omega) only[h,go_sem,Nat.reduceLT,Nat.reduceLeDiff,Nat.reduceEqDiff,Nat.reduceAdd,Nat.reduceMul,Int.reduceNeg,Nat.reduceBEq,reduceCtorEq,↓reduceIte]))|refine Exists.intro _ (Exists.intro _ (And.intro (And.intro rfl rfl) ?_))
  intro r hr
  have hro := alloc_ne hr
  rw [put_oth hro] at hr
  have hrq := alloc_ne hr
  have swr := put_swap hro
  have otr := put_oth hro
  obtain ⟨τ1, hτ1⟩ : ∃ t, τ.put q N = t := ⟨_, rfl⟩
  rw [hτ1] at hr ⊢
  simp only [swr]
  repeat' first
   |refine s1 ?_|refine s2 ?_|refine wt rfl ?_|refine wf rfl ?_|(refine wc rfl (fun h=>?_) (fun h=>?_)<;>(try simp only[Bool.not_eq_true',Bool.not_eq_false',decide_eq_true_eq,decide_eq_false_iff_not,Bool.not_not] at h)<;>(try first|exact bt (by assumption) (by assumption)|contradiction|(exfalso;omega)))|((first|refine s3 (mu:=[]) ?_|(refine W_region_any [] c0 mx (by kernel_rfl) ?_;intro nu _ _)|refine prun_go ?_|refine drun_go ?_|refine s5 ?_|refine s6 ?_|with_reducible apply s7);simp -dsimp (disch:=omega) only[go_sem,Nat.reduceLT,Nat.reduceLeDiff,Nat.reduceEqDiff,Nat.reduceAdd,Nat.reduceMul,Int.reduceNeg,Nat.reduceBEq,reduceCtorEq,↓reduceIte,swr, otr])
   |refine e1 ?_|refine e2 ?_|refine e3 ?_|refine e4 ?_|refine e5 ?_|refine e6 ?_|refine e7 ?_|refine e8 ?_|refine e9 ?_|refine e0 (by decide) ?_|refine ea ?_|(refine And.intro ?_ ?_;omega)|refine And.intro (of_eq_true PutAt_put) ?_
   |((first|refine gn (fun h=>?_) (fun h=>?_)|refine gf (fun h=>?_) (fun h=>?_)|refine gb (fun h=>?_) (fun h=>?_)|refine gp (fun h=>?_) (fun h=>?_))<;>(try first|exact bt (by assumption) (by assumption)|contradiction|(exfalso;omega))<;>(try with_reducible apply s7)<;>(try simp -dsimp (disch:=omega) only[h,go_sem,Nat.reduceLT,Nat.reduceLeDiff,Nat.reduceEqDiff,Nat.reduceAdd,Nat.reduceMul,Int.reduceNeg,Nat.reduceBEq,reduceCtorEq,↓reduceIte,swr, otr]))|refine Exists.intro _ (Exists.intro _ (And.intro (And.intro rfl rfl) ?_))
  refine W_loop_st (fun y : Lp => [(0, .ptr o 0 0), (1, .int .i64 (8 - n)), (5, .ptr q 0 0), (6, .ptr r 0 0)]) (fun y => (y.τ.put r (nodeO 1 false .nil [] y.k y.rows)).put o (pO s y.p))
    (fun y => y.p.at_ ≤ (B s).length ∧ rowB (B s) ch y.fuel y.p = rowB (B s) ch ((B s).length + 2) p5 ∧ y.rows.length + y.fuel = (B s).length + 2 ∧ (y.p.e = 0 → (B s).length < y.p.at_ + y.fuel) ∧ rowsOk 1 y.rows = true ∧ (∀ c z, τ1 c = some z → y.τ c = some z) ∧ KindOk τ1 y.τ r o 215 1 y.k y.rows) (fun y => y.fuel)
    ⟨(B s).length + 2, p5, .nil, [], τ1⟩ ⟨i1, rfl, by simp, fun _ => by simp only; omega, by rfl, fun _ _ h => h, .inr (.inl ⟨rfl, rfl⟩)⟩ (Env.Sub_of_has (by simp [Env.Has, Env.get])) (by simp only [pO, nodeO]; exact Store.Sub.refl _) ?_
  rintro ⟨g, p6, k', rows', τ'⟩ ⟨j1, j2, j3, j4, j5, j6, j7⟩
  simp only at j1 j2 j3 j4 j5 j6 j7 ⊢
  have hq1 : τ' q = some N := j6 _ _ (by rw [← hτ1]; exact put_same _ _ _)
  have hq2 : q ≠ r := fun e => by rw [← hτ1, ← e, put_same] at hr; cases hr
  have otq := put_oth hq2
  obtain ⟨at6, r6⟩ := p6
  simp only at j1 j4
  by_cases he : r6 = 0
  · subst he
    have hf := j4 rfl
    obtain ⟨g', rfl⟩ : ∃ f, g = f + 1 := ⟨g - 1, by omega⟩
    have hpk := peek_spec s hs ⟨at6, 0⟩ j1 o
    have hsk := skipB_len (B s) j1
    have hsl := skipB_le (B s) at6
    obtain ⟨a, ha⟩ : ∃ a, skipB (B s) at6 = a := ⟨_, rfl⟩
    simp only [ha] at hpk hsk hsl
    have hb := begins_spec (chr (B s) a)
    simp only [rowB, ha, if_true] at j2
    simp only [nodeO]
    cases hbz : beginsZ (chr (B s) a) with
    | true =>
      rw [hbz] at hb
      rw [if_pos hbz] at j2
      have hit1 := hit ⟨a, 0⟩ hsk
      have hl7 := (item_mono (B s) hmo).len ⟨a, 0⟩ hsk
      have hgo := item_go (B s) hmo ⟨a, 0⟩ hsk
      obtain ⟨p7, hp7⟩ : ∃ x, itemB (B s) ch ⟨a, 0⟩ = x := ⟨_, rfl⟩
      rw [hp7] at hl7 hgo j2
      simp only [hp7] at hit1
      repeat' first
       |((fail_if_success (first|show W _ _ (Code.seq (Code.region 7 _ _) _) _ _ _|show W _ _ (Code.seq (Code.seq (Code.region 7 _ _) _) _) _ _ _));refine s1 ?_)|refine s2 ?_|refine wt rfl ?_|refine wf rfl ?_|(refine wc rfl (fun h=>?_) (fun h=>?_)<;>(try simp only[Bool.not_eq_true',Bool.not_eq_false',decide_eq_true_eq,decide_eq_false_iff_not,Bool.not_not] at h)<;>(try first|exact bt (by assumption) (by assumption)|contradiction|(exfalso;omega)))|((fail_if_success (first|show W _ _ (Code.region 7 _ _) _ _ _));(first|refine s3 (mu:=[]) ?_|(refine W_region_any [] c0 mx (by kernel_rfl) ?_;intro nu _ _)|refine prun_go ?_|refine drun_go ?_|refine s5 ?_|refine s6 ?_|with_reducible apply s7);simp -dsimp (disch:=omega) only[go_sem,Nat.reduceLT,Nat.reduceLeDiff,Nat.reduceEqDiff,Nat.reduceAdd,Nat.reduceMul,Int.reduceNeg,Nat.reduceBEq,reduceCtorEq,↓reduceIte])
       |refine e1 ?_|refine e2 ?_|refine e3 ?_|refine e4 ?_|refine e5 ?_|refine e6 ?_|refine e7 ?_|refine e8 ?_|refine e9 ?_|refine e0 (by decide) ?_|refine ea ?_|(refine And.intro ?_ ?_;omega)|refine And.intro (of_eq_true PutAt_put) ?_
       |((first|refine gn (fun h=>?_) (fun h=>?_)|refine gf (fun h=>?_) (fun h=>?_)|refine gb (fun h=>?_) (fun h=>?_)|refine gp (fun h=>?_) (fun h=>?_))<;>(try first|exact bt (by assumption) (by assumption)|contradiction|(exfalso;omega))<;>(try with_reducible apply s7)<;>(try simp -dsimp (disch:=omega) only[h,go_sem,Nat.reduceLT,Nat.reduceLeDiff,Nat.reduceEqDiff,Nat.reduceAdd,Nat.reduceMul,Int.reduceNeg,Nat.reduceBEq,reduceCtorEq,↓reduceIte]))|refine Exists.intro _ (Exists.intro _ (And.intro (And.intro rfl rfl) ?_))
       |refine cy (hpk _) ?_|refine cz (hpk _) ?_
       |refine cu (hb) ?_|refine cv (hb) ?_|refine cx (hb) ?_
      refine W_region_late (id:=7) [] ⟨[4],[7,9,12],[],[9],[],[7],o⟩ mx (by kernel_rfl) ⟨_, put_same _ _ _⟩ ?_
      intro nu hnu hni
      have e9' := hnu 9 (by simp)
      have n9 := alloc_ne e9'
      rw [put_oth n9] at e9'
      have n9r := alloc_ne e9'
      rw [put_oth n9r] at e9'
      have w9 := put_swap n9
      have w9r := put_swap n9r
      have o9 := put_oth n9
      have o9r := put_oth n9r
      rcases j7 with rfl | ⟨rfl, rfl⟩ | ⟨t, rfl, ht, htr, hto, hts⟩
      · skip
        simp -dsimp (disch:=omega) only[go_sem,Nat.reduceLT,Nat.reduceLeDiff,Nat.reduceEqDiff,Nat.reduceAdd,Nat.reduceMul,Int.reduceNeg,Nat.reduceBEq,reduceCtorEq,↓reduceIte,swr, otr, w9, w9r, o9, o9r, j5, ps_under n9r n9, ps_in hro]
        repeat' first
         |refine s1 ?_|refine s2 ?_|refine wt rfl ?_|refine wf rfl ?_|(refine wc rfl (fun h=>?_) (fun h=>?_)<;>(try simp only[Bool.not_eq_true',Bool.not_eq_false',decide_eq_true_eq,decide_eq_false_iff_not,Bool.not_not] at h)<;>(try first|exact bt (by assumption) (by assumption)|contradiction|(exfalso;omega)))|((first|refine s3 (mu:=[]) ?_|(refine W_region_any [] c0 mx (by kernel_rfl) ?_;intro nu _ _)|refine prun_go ?_|refine drun_go ?_|refine s5 ?_|refine s6 ?_|with_reducible apply s7);simp -dsimp (disch:=omega) only[go_sem,Nat.reduceLT,Nat.reduceLeDiff,Nat.reduceEqDiff,Nat.reduceAdd,Nat.reduceMul,Int.reduceNeg,Nat.reduceBEq,reduceCtorEq,↓reduceIte,swr, otr, w9, w9r, o9, o9r, j5, ps_under n9r n9, ps_in hro])
         |refine e1 ?_|refine e2 ?_|refine e3 ?_|refine e4 ?_|refine e5 ?_|refine e6 ?_|refine e7 ?_|refine e8 ?_|refine e9 ?_|refine e0 (by decide) ?_|refine ea ?_|(refine And.intro ?_ ?_;omega)|refine And.intro (of_eq_true PutAt_put) ?_|refine And.intro (show PutSome _ _ by simp only[PutSome_self,PutSome_put,PutSome_same,swr, otr, w9, w9r, o9, o9r, j5, ps_under n9r n9, ps_in hro]) ?_
         |((first|refine gn (fun h=>?_) (fun h=>?_)|refine gf (fun h=>?_) (fun h=>?_)|refine gb (fun h=>?_) (fun h=>?_)|refine gp (fun h=>?_) (fun h=>?_))<;>(try first|exact bt (by assumption) (by assumption)|contradiction|(exfalso;omega))<;>(try with_reducible apply s7)<;>(try simp -dsimp (disch:=omega) only[h,go_sem,Nat.reduceLT,Nat.reduceLeDiff,Nat.reduceEqDiff,Nat.reduceAdd,Nat.reduceMul,Int.reduceNeg,Nat.reduceBEq,reduceCtorEq,↓reduceIte,swr, otr, w9, w9r, o9, o9r, j5, ps_under n9r n9, ps_in hro]))|refine Exists.intro _ (Exists.intro _ (And.intro (And.intro rfl rfl) ?_))
         |refine cy (hit1 _) ?_|refine cz (hit1 _) ?_
        refine ⟨⟨g', p7, .tip (nu 9), rows' ++ [gpt], τ'.put (nu 9) (.tip (rows' ++ [gpt]).length 215 1)⟩, by simp, ⟨hl7, j2, by simp at j3 ⊢; omega, fun h0 => by have := hgo h0 rfl; simp only at this ⊢; omega, by simp only [rowsOk_append, j5]; rfl, keep_new j6 (none_of j6 e9'), .inr (.inr ⟨(nu 9), rfl, put_same _ _ _, n9r, n9, none_of j6 e9'⟩)⟩, Env.Sub_of_has (by simp [Env.Has, Env.get]), by simp only [pO, List.nil_append]; exact Store.Sub.refl _⟩
      · skip
        simp -dsimp (disch:=omega) only[go_sem,Nat.reduceLT,Nat.reduceLeDiff,Nat.reduceEqDiff,Nat.reduceAdd,Nat.reduceMul,Int.reduceNeg,Nat.reduceBEq,reduceCtorEq,↓reduceIte,swr, otr, w9, w9r, o9, o9r, j5, ps_under n9r n9, ps_in hro]
        repeat' first
         |refine s1 ?_|refine s2 ?_|refine wt rfl ?_|refine wf rfl ?_|(refine wc rfl (fun h=>?_) (fun h=>?_)<;>(try simp only[Bool.not_eq_true',Bool.not_eq_false',decide_eq_true_eq,decide_eq_false_iff_not,Bool.not_not] at h)<;>(try first|exact bt (by assumption) (by assumption)|contradiction|(exfalso;omega)))|((first|refine s3 (mu:=[]) ?_|(refine W_region_any [] c0 mx (by kernel_rfl) ?_;intro nu _ _)|refine prun_go ?_|refine drun_go ?_|refine s5 ?_|refine s6 ?_|with_reducible apply s7);simp -dsimp (disch:=omega) only[go_sem,Nat.reduceLT,Nat.reduceLeDiff,Nat.reduceEqDiff,Nat.reduceAdd,Nat.reduceMul,Int.reduceNeg,Nat.reduceBEq,reduceCtorEq,↓reduceIte,swr, otr, w9, w9r, o9, o9r, j5, ps_under n9r n9, ps_in hro])
         |refine e1 ?_|refine e2 ?_|refine e3 ?_|refine e4 ?_|refine e5 ?_|refine e6 ?_|refine e7 ?_|refine e8 ?_|refine e9 ?_|refine e0 (by decide) ?_|refine ea ?_|(refine And.intro ?_ ?_;omega)|refine And.intro (of_eq_true PutAt_put) ?_|refine And.intro (show PutSome _ _ by simp only[PutSome_self,PutSome_put,PutSome_same,swr, otr, w9, w9r, o9, o9r, j5, ps_under n9r n9, ps_in hro]) ?_
         |((first|refine gn (fun h=>?_) (fun h=>?_)|refine gf (fun h=>?_) (fun h=>?_)|refine gb (fun h=>?_) (fun h=>?_)|refine gp (fun h=>?_) (fun h=>?_))<;>(try first|exact bt (by assumption) (by assumption)|contradiction|(exfalso;omega))<;>(try with_reducible apply s7)<;>(try simp -dsimp (disch:=omega) only[h,go_sem,Nat.reduceLT,Nat.reduceLeDiff,Nat.reduceEqDiff,Nat.reduceAdd,Nat.reduceMul,Int.reduceNeg,Nat.reduceBEq,reduceCtorEq,↓reduceIte,swr, otr, w9, w9r, o9, o9r, j5, ps_under n9r n9, ps_in hro]))|refine Exists.intro _ (Exists.intro _ (And.intro (And.intro rfl rfl) ?_))
         |refine cy (hit1 _) ?_|refine cz (hit1 _) ?_
        refine ⟨⟨g', p7, .tip (nu 9), [] ++ [gpt], τ'.put (nu 9) (.tip ([] ++ [gpt]).length 215 1)⟩, by simp, ⟨hl7, j2, by simp at j3 ⊢; omega, fun h0 => by have := hgo h0 rfl; simp only at this ⊢; omega, by simp only [rowsOk_append, j5]; rfl, keep_new j6 (none_of j6 e9'), .inr (.inr ⟨(nu 9), rfl, put_same _ _ _, n9r, n9, none_of j6 e9'⟩)⟩, Env.Sub_of_has (by simp [Env.Has, Env.get]), by simp only [pO, List.nil_append]; exact Store.Sub.refl _⟩
      · have wt := put_swap hto
        have wtr := put_swap htr
        have ott := put_oth hto
        have ottr := put_oth htr
        simp -dsimp (disch:=omega) only[go_sem,Nat.reduceLT,Nat.reduceLeDiff,Nat.reduceEqDiff,Nat.reduceAdd,Nat.reduceMul,Int.reduceNeg,Nat.reduceBEq,reduceCtorEq,↓reduceIte,swr, otr, wt, wtr, ott, ottr, ht, j5, ps_under htr hto, ps_in hro]
        repeat' first
         |refine s1 ?_|refine s2 ?_|refine wt rfl ?_|refine wf rfl ?_|(refine wc rfl (fun h=>?_) (fun h=>?_)<;>(try simp only[Bool.not_eq_true',Bool.not_eq_false',decide_eq_true_eq,decide_eq_false_iff_not,Bool.not_not] at h)<;>(try first|exact bt (by assumption) (by assumption)|contradiction|(exfalso;omega)))|((first|refine s3 (mu:=[]) ?_|(refine W_region_any [] c0 mx (by kernel_rfl) ?_;intro nu _ _)|refine prun_go ?_|refine drun_go ?_|refine s5 ?_|refine s6 ?_|with_reducible apply s7);simp -dsimp (disch:=omega) only[go_sem,Nat.reduceLT,Nat.reduceLeDiff,Nat.reduceEqDiff,Nat.reduceAdd,Nat.reduceMul,Int.reduceNeg,Nat.reduceBEq,reduceCtorEq,↓reduceIte,swr, otr, wt, wtr, ott, ottr, ht, j5, ps_under htr hto, ps_in hro])
         |refine e1 ?_|refine e2 ?_|refine e3 ?_|refine e4 ?_|refine e5 ?_|refine e6 ?_|refine e7 ?_|refine e8 ?_|refine e9 ?_|refine e0 (by decide) ?_|refine ea ?_|(refine And.intro ?_ ?_;omega)|refine And.intro (of_eq_true PutAt_put) ?_|refine And.intro (show PutSome _ _ by simp only[PutSome_self,PutSome_put,PutSome_same,swr, otr, wt, wtr, ott, ottr, ht, j5, ps_under htr hto, ps_in hro]) ?_
         |((first|refine gn (fun h=>?_) (fun h=>?_)|refine gf (fun h=>?_) (fun h=>?_)|refine gb (fun h=>?_) (fun h=>?_)|refine gp (fun h=>?_) (fun h=>?_))<;>(try first|exact bt (by assumption) (by assumption)|contradiction|(exfalso;omega))<;>(try with_reducible apply s7)<;>(try simp -dsimp (disch:=omega) only[h,go_sem,Nat.reduceLT,Nat.reduceLeDiff,Nat.reduceEqDiff,Nat.reduceAdd,Nat.reduceMul,Int.reduceNeg,Nat.reduceBEq,reduceCtorEq,↓reduceIte,swr, otr, wt, wtr, ott, ottr, ht, j5, ps_under htr hto, ps_in hro]))|refine Exists.intro _ (Exists.intro _ (And.intro (And.intro rfl rfl) ?_))
         |refine cy (hit1 _) ?_|refine cz (hit1 _) ?_
        refine ⟨⟨g', p7, .tip t, rows' ++ [gpt], τ'.put t (.tip (rows' ++ [gpt]).length 215 1)⟩, by simp, ⟨hl7, j2, by simp at j3 ⊢; omega, fun h0 => by have := hgo h0 rfl; simp only at this ⊢; omega, by simp only [rowsOk_append, j5]; rfl, keep_new j6 hts, .inr (.inr ⟨t, rfl, put_same _ _ _, htr, hto, hts⟩)⟩, Env.Sub_of_has (by simp [Env.Has, Env.get]), by simp only [pO, List.nil_append]; exact Store.Sub.refl _⟩
    | false =>
      rw [hbz] at hb
      rw [if_neg (by rw [hbz]; simp)] at j2
      repeat' first
       |((fail_if_success (first|show W _ _ (Code.seq (Code.region 8 _ _) _) _ _ _|show W _ _ (Code.seq (Code.seq (Code.region 8 _ _) _) _) _ _ _));refine s1 ?_)|refine s2 ?_|refine wt rfl ?_|refine wf rfl ?_|(refine wc rfl (fun h=>?_) (fun h=>?_)<;>(try simp only[Bool.not_eq_true',Bool.not_eq_false',decide_eq_true_eq,decide_eq_false_iff_not,Bool.not_not] at h)<;>(try first|exact bt (by assumption) (by assumption)|contradiction|(exfalso;omega)))|((fail_if_success (first|show W _ _ (Code.region 8 _ _) _ _ _));(first|refine s3 (mu:=[]) ?_|(refine W_region_any [] c0 mx (by kernel_rfl) ?_;intro nu _ _)|refine prun_go ?_|refine drun_go ?_|refine s5 ?_|refine s6 ?_|with_reducible apply s7);simp -dsimp (disch:=omega) only[go_sem,Nat.reduceLT,Nat.reduceLeDiff,Nat.reduceEqDiff,Nat.reduceAdd,Nat.reduceMul,Int.reduceNeg,Nat.reduceBEq,reduceCtorEq,↓reduceIte])
       |refine e1 ?_|refine e2 ?_|refine e3 ?_|refine e4 ?_|refine e5 ?_|refine e6 ?_|refine e7 ?_|refine e8 ?_|refine e9 ?_|refine e0 (by decide) ?_|refine ea ?_|(refine And.intro ?_ ?_;omega)|refine And.intro (of_eq_true PutAt_put) ?_
       |((first|refine gn (fun h=>?_) (fun h=>?_)|refine gf (fun h=>?_) (fun h=>?_)|refine gb (fun h=>?_) (fun h=>?_)|refine gp (fun h=>?_) (fun h=>?_))<;>(try first|exact bt (by assumption) (by assumption)|contradiction|(exfalso;omega))<;>(try with_reducible apply s7)<;>(try simp -dsimp (disch:=omega) only[h,go_sem,Nat.reduceLT,Nat.reduceLeDiff,Nat.reduceEqDiff,Nat.reduceAdd,Nat.reduceMul,Int.reduceNeg,Nat.reduceBEq,reduceCtorEq,↓reduceIte]))|refine Exists.intro _ (Exists.intro _ (And.intro (And.intro rfl rfl) ?_))
       |refine cy (hpk _) ?_|refine cz (hpk _) ?_
       |refine cu (hb) ?_|refine cv (hb) ?_|refine cx (hb) ?_
      have hr2 : rowB (B s) ch ((B s).length + 2) p5 = ⟨a, 0⟩ := j2.symm
      have tk := take_spec s hs ⟨a, 0⟩ hsk 124 o
      have hl8 := (take_mono (B s) 124).len ⟨a, 0⟩ hsk
      have hte := fun h => take_err (B s) (c := 124) (p := ⟨a, 0⟩) h
      have hrm := (row_mono (B s) hmo ((B s).length + 2)).le p5 i1
      obtain ⟨b8, p8, hp8⟩ : ∃ b8 p8, takeB (B s) 124 ⟨a, 0⟩ = (b8, p8) := ⟨_, _, rfl⟩
      rw [hr2] at hrm
      simp only [hp8] at tk hl8 hte hrm
      have k5 : ∀ c y, σ c = some y → τ1 c = some y := by rw [← hτ1]; exact keep_new i6 hq
      have k6 : ∀ c y, σ c = some y → τ' c = some y := fun c y h => j6 c y (k5 c y h)
      obtain ⟨R, hR⟩ : ∃ x, nodeO 1 false .nil [] k' rows' = x := ⟨_, rfl⟩
      have k7 : ∀ c y, σ c = some y → (τ'.put r R) c = some y := keep_new k6 (none_of k5 hr)
      simp only [nodeO] at hR
      rw [hR]
      rw [← hN] at hq1
      simp only [nodeO] at hq1
      rcases i7 with rfl | ⟨rfl, rfl⟩ | ⟨t, rfl, ht, htq, hto, hts⟩
      · skip
        repeat' first
         |((fail_if_success (first|show W _ _ (Code.seq (Code.region 9 _ _) _) _ _ _|show W _ _ (Code.seq (Code.seq (Code.region 9 _ _) _) _) _ _ _));refine s1 ?_)|refine s2 ?_|refine wt rfl ?_|refine wf rfl ?_|(refine wc rfl (fun h=>?_) (fun h=>?_)<;>(try simp only[Bool.not_eq_true',Bool.not_eq_false',decide_eq_true_eq,decide_eq_false_iff_not,Bool.not_not] at h)<;>(try first|exact bt (by assumption) (by assumption)|contradiction|(exfalso;omega)))|((fail_if_success (first|show W _ _ (Code.region 9 _ _) _ _ _));(first|refine s3 (mu:=[]) ?_|(refine W_region_any [] c0 mx (by kernel_rfl) ?_;intro nu _ _)|refine prun_go ?_|refine drun_go ?_|refine s5 ?_|refine s6 ?_|with_reducible apply s7);simp -dsimp (disch:=omega) only[go_sem,Nat.reduceLT,Nat.reduceLeDiff,Nat.reduceEqDiff,Nat.reduceAdd,Nat.reduceMul,Int.reduceNeg,Nat.reduceBEq,reduceCtorEq,↓reduceIte,ot, otq, hq1, i5])
         |refine e1 ?_|refine e2 ?_|refine e3 ?_|refine e4 ?_|refine e5 ?_|refine e6 ?_|refine e7 ?_|refine e8 ?_|refine e9 ?_|refine e0 (by decide) ?_|refine ea ?_|(refine And.intro ?_ ?_;omega)|refine And.intro (of_eq_true PutAt_put) ?_
         |((first|refine gn (fun h=>?_) (fun h=>?_)|refine gf (fun h=>?_) (fun h=>?_)|refine gb (fun h=>?_) (fun h=>?_)|refine gp (fun h=>?_) (fun h=>?_))<;>(try first|exact bt (by assumption) (by assumption)|contradiction|(exfalso;omega))<;>(try with_reducible apply s7)<;>(try simp -dsimp (disch:=omega) only[h,go_sem,Nat.reduceLT,Nat.reduceLeDiff,Nat.reduceEqDiff,Nat.reduceAdd,Nat.reduceMul,Int.reduceNeg,Nat.reduceBEq,reduceCtorEq,↓reduceIte,ot, otq, hq1, i5]))|refine Exists.intro _ (Exists.intro _ (And.intro (And.intro rfl rfl) ?_))
        intro c hc
        have hco := alloc_ne hc
        rw [put_oth hco] at hc
        have hcr := alloc_ne hc
        rw [put_oth hcr] at hc
        have hqc : q ≠ c := fun e => by rw [← e, hq1] at hc; cases hc
        have hcσ := none_of k6 hc
        have hcq : c ≠ q := fun e => hqc e.symm
        have k8 := keep_new (x := .tip (rows ++ [AV.ptr r 0 0]).length 215 1) k7 hcσ
        cases b8 with
        | true =>
          have haf : altB (B s) ch f p8 = altB (B s) ch (f + 1) p5 := by simp only [altB, hr2, hp8, if_true]
          simp -dsimp (disch:=omega) only[go_sem,Nat.reduceLT,Nat.reduceLeDiff,Nat.reduceEqDiff,Nat.reduceAdd,Nat.reduceMul,Int.reduceNeg,Nat.reduceBEq,reduceCtorEq,↓reduceIte,sw, ot, otq, hq1, i5, put_swap hco, put_oth hqc]
          repeat' first
           |refine s1 ?_|refine s2 ?_|refine wt rfl ?_|refine wf rfl ?_|(refine wc rfl (fun h=>?_) (fun h=>?_)<;>(try simp only[Bool.not_eq_true',Bool.not_eq_false',decide_eq_true_eq,decide_eq_false_iff_not,Bool.not_not] at h)<;>(try first|exact bt (by assumption) (by assumption)|contradiction|(exfalso;omega)))|((first|refine s3 (mu:=[]) ?_|(refine W_region_any [] c0 mx (by kernel_rfl) ?_;intro nu _ _)|refine prun_go ?_|refine drun_go ?_|refine s5 ?_|refine s6 ?_|with_reducible apply s7);simp -dsimp (disch:=omega) only[go_sem,Nat.reduceLT,Nat.reduceLeDiff,Nat.reduceEqDiff,Nat.reduceAdd,Nat.reduceMul,Int.reduceNeg,Nat.reduceBEq,reduceCtorEq,↓reduceIte,sw, ot, otq, hq1, i5, put_swap hco, put_oth hqc])
           |refine e1 ?_|refine e2 ?_|refine e3 ?_|refine e4 ?_|refine e5 ?_|refine e6 ?_|refine e7 ?_|refine e8 ?_|refine e9 ?_|refine e0 (by decide) ?_|refine ea ?_|(refine And.intro ?_ ?_;omega)|refine And.intro (of_eq_true PutAt_put) ?_
           |((first|refine gn (fun h=>?_) (fun h=>?_)|refine gf (fun h=>?_) (fun h=>?_)|refine gb (fun h=>?_) (fun h=>?_)|refine gp (fun h=>?_) (fun h=>?_))<;>(try first|exact bt (by assumption) (by assumption)|contradiction|(exfalso;omega))<;>(try with_reducible apply s7)<;>(try simp -dsimp (disch:=omega) only[h,go_sem,Nat.reduceLT,Nat.reduceLeDiff,Nat.reduceEqDiff,Nat.reduceAdd,Nat.reduceMul,Int.reduceNeg,Nat.reduceBEq,reduceCtorEq,↓reduceIte,sw, ot, otq, hq1, i5, put_swap hco, put_oth hqc]))|refine Exists.intro _ (Exists.intro _ (And.intro (And.intro rfl rfl) ?_))
           |refine cy (tk _) ?_|refine cz (tk _) ?_
          refine ⟨⟨f, p8, .tip c, rows ++ [.ptr r 0 0], (τ'.put r R).put c (.tip (rows ++ [AV.ptr r 0 0]).length 215 1)⟩, by simp, ⟨hl8, by first | exact haf | exact haf.trans i2, by simp at i3 ⊢; omega, by have := (hte rfl).2.2; simp only at this hrm ⊢; omega, by simp only [rowsOk_append, i5]; rfl, k8, .inr (.inr ⟨c, rfl, put_same _ _ _, hcq, hco, hcσ⟩)⟩, Env.Sub_of_has (by simp [Env.Has, Env.get]), by simp only [pO, nodeO, List.nil_append]; exact Store.Sub.refl _⟩
        | false =>
          have haf : altB (B s) ch (f + 1) p5 = p8 := by simp only [altB, hr2, hp8, Bool.false_eq_true, if_false]
          rw [haf]
          simp -dsimp (disch:=omega) only[go_sem,Nat.reduceLT,Nat.reduceLeDiff,Nat.reduceEqDiff,Nat.reduceAdd,Nat.reduceMul,Int.reduceNeg,Nat.reduceBEq,reduceCtorEq,↓reduceIte,sw, ot, otq, hq1, i5, put_swap hco, put_oth hqc]
          repeat' first
           |refine s1 ?_|refine s2 ?_|refine wt rfl ?_|refine wf rfl ?_|(refine wc rfl (fun h=>?_) (fun h=>?_)<;>(try simp only[Bool.not_eq_true',Bool.not_eq_false',decide_eq_true_eq,decide_eq_false_iff_not,Bool.not_not] at h)<;>(try first|exact bt (by assumption) (by assumption)|contradiction|(exfalso;omega)))|((first|refine s3 (mu:=[]) ?_|(refine W_region_any [] c0 mx (by kernel_rfl) ?_;intro nu _ _)|refine prun_go ?_|refine drun_go ?_|refine s5 ?_|refine s6 ?_|with_reducible apply s7);simp -dsimp (disch:=omega) only[go_sem,Nat.reduceLT,Nat.reduceLeDiff,Nat.reduceEqDiff,Nat.reduceAdd,Nat.reduceMul,Int.reduceNeg,Nat.reduceBEq,reduceCtorEq,↓reduceIte,sw, ot, otq, hq1, i5, put_swap hco, put_oth hqc])
           |refine e1 ?_|refine e2 ?_|refine e3 ?_|refine e4 ?_|refine e5 ?_|refine e6 ?_|refine e7 ?_|refine e8 ?_|refine e9 ?_|refine e0 (by decide) ?_|refine ea ?_|(refine And.intro ?_ ?_;omega)|refine And.intro (of_eq_true PutAt_put) ?_
           |((first|refine gn (fun h=>?_) (fun h=>?_)|refine gf (fun h=>?_) (fun h=>?_)|refine gb (fun h=>?_) (fun h=>?_)|refine gp (fun h=>?_) (fun h=>?_))<;>(try first|exact bt (by assumption) (by assumption)|contradiction|(exfalso;omega))<;>(try with_reducible apply s7)<;>(try simp -dsimp (disch:=omega) only[h,go_sem,Nat.reduceLT,Nat.reduceLeDiff,Nat.reduceEqDiff,Nat.reduceAdd,Nat.reduceMul,Int.reduceNeg,Nat.reduceBEq,reduceCtorEq,↓reduceIte,sw, ot, otq, hq1, i5, put_swap hco, put_oth hqc]))|refine Exists.intro _ (Exists.intro _ (And.intro (And.intro rfl rfl) ?_))
           |refine cy (tk _) ?_|refine cz (tk _) ?_
          all_goals exact Sub_in k8 hq
      · skip
        repeat' first
         |((fail_if_success (first|show W _ _ (Code.seq (Code.region 9 _ _) _) _ _ _|show W _ _ (Code.seq (Code.seq (Code.region 9 _ _) _) _) _ _ _));refine s1 ?_)|refine s2 ?_|refine wt rfl ?_|refine wf rfl ?_|(refine wc rfl (fun h=>?_) (fun h=>?_)<;>(try simp only[Bool.not_eq_true',Bool.not_eq_false',decide_eq_true_eq,decide_eq_false_iff_not,Bool.not_not] at h)<;>(try first|exact bt (by assumption) (by assumption)|contradiction|(exfalso;omega)))|((fail_if_success (first|show W _ _ (Code.region 9 _ _) _ _ _));(first|refine s3 (mu:=[]) ?_|(refine W_region_any [] c0 mx (by kernel_rfl) ?_;intro nu _ _)|refine prun_go ?_|refine drun_go ?_|refine s5 ?_|refine s6 ?_|with_reducible apply s7);simp -dsimp (disch:=omega) only[go_sem,Nat.reduceLT,Nat.reduceLeDiff,Nat.reduceEqDiff,Nat.reduceAdd,Nat.reduceMul,Int.reduceNeg,Nat.reduceBEq,reduceCtorEq,↓reduceIte,ot, otq, hq1, i5])
         |refine e1 ?_|refine e2 ?_|refine e3 ?_|refine e4 ?_|refine e5 ?_|refine e6 ?_|refine e7 ?_|refine e8 ?_|refine e9 ?_|refine e0 (by decide) ?_|refine ea ?_|(refine And.intro ?_ ?_;omega)|refine And.intro (of_eq_true PutAt_put) ?_
         |((first|refine gn (fun h=>?_) (fun h=>?_)|refine gf (fun h=>?_) (fun h=>?_)|refine gb (fun h=>?_) (fun h=>?_)|refine gp (fun h=>?_) (fun h=>?_))<;>(try first|exact bt (by assumption) (by assumption)|contradiction|(exfalso;omega))<;>(try with_reducible apply s7)<;>(try simp -dsimp (disch:=omega) only[h,go_sem,Nat.reduceLT,Nat.reduceLeDiff,Nat.reduceEqDiff,Nat.reduceAdd,Nat.reduceMul,Int.reduceNeg,Nat.reduceBEq,reduceCtorEq,↓reduceIte,ot, otq, hq1, i5]))|refine Exists.intro _ (Exists.intro _ (And.intro (And.intro rfl rfl) ?_))
        intro c hc
        have hco := alloc_ne hc
        rw [put_oth hco] at hc
        have hcr := alloc_ne hc
        rw [put_oth hcr] at hc
        have hqc : q ≠ c := fun e => by rw [← e, hq1] at hc; cases hc
        have hcσ := none_of k6 hc
        have hcq : c ≠ q := fun e => hqc e.symm
        have k8 := keep_new (x := .tip ([] ++ [AV.ptr r 0 0]).length 215 1) k7 hcσ
        cases b8 with
        | true =>
          have haf : altB (B s) ch f p8 = altB (B s) ch (f + 1) p5 := by simp only [altB, hr2, hp8, if_true]
          simp -dsimp (disch:=omega) only[go_sem,Nat.reduceLT,Nat.reduceLeDiff,Nat.reduceEqDiff,Nat.reduceAdd,Nat.reduceMul,Int.reduceNeg,Nat.reduceBEq,reduceCtorEq,↓reduceIte,sw, ot, otq, hq1, i5, put_swap hco, put_oth hqc]
          repeat' first
           |refine s1 ?_|refine s2 ?_|refine wt rfl ?_|refine wf rfl ?_|(refine wc rfl (fun h=>?_) (fun h=>?_)<;>(try simp only[Bool.not_eq_true',Bool.not_eq_false',decide_eq_true_eq,decide_eq_false_iff_not,Bool.not_not] at h)<;>(try first|exact bt (by assumption) (by assumption)|contradiction|(exfalso;omega)))|((first|refine s3 (mu:=[]) ?_|(refine W_region_any [] c0 mx (by kernel_rfl) ?_;intro nu _ _)|refine prun_go ?_|refine drun_go ?_|refine s5 ?_|refine s6 ?_|with_reducible apply s7);simp -dsimp (disch:=omega) only[go_sem,Nat.reduceLT,Nat.reduceLeDiff,Nat.reduceEqDiff,Nat.reduceAdd,Nat.reduceMul,Int.reduceNeg,Nat.reduceBEq,reduceCtorEq,↓reduceIte,sw, ot, otq, hq1, i5, put_swap hco, put_oth hqc])
           |refine e1 ?_|refine e2 ?_|refine e3 ?_|refine e4 ?_|refine e5 ?_|refine e6 ?_|refine e7 ?_|refine e8 ?_|refine e9 ?_|refine e0 (by decide) ?_|refine ea ?_|(refine And.intro ?_ ?_;omega)|refine And.intro (of_eq_true PutAt_put) ?_
           |((first|refine gn (fun h=>?_) (fun h=>?_)|refine gf (fun h=>?_) (fun h=>?_)|refine gb (fun h=>?_) (fun h=>?_)|refine gp (fun h=>?_) (fun h=>?_))<;>(try first|exact bt (by assumption) (by assumption)|contradiction|(exfalso;omega))<;>(try with_reducible apply s7)<;>(try simp -dsimp (disch:=omega) only[h,go_sem,Nat.reduceLT,Nat.reduceLeDiff,Nat.reduceEqDiff,Nat.reduceAdd,Nat.reduceMul,Int.reduceNeg,Nat.reduceBEq,reduceCtorEq,↓reduceIte,sw, ot, otq, hq1, i5, put_swap hco, put_oth hqc]))|refine Exists.intro _ (Exists.intro _ (And.intro (And.intro rfl rfl) ?_))
           |refine cy (tk _) ?_|refine cz (tk _) ?_
          refine ⟨⟨f, p8, .tip c, [] ++ [.ptr r 0 0], (τ'.put r R).put c (.tip ([] ++ [AV.ptr r 0 0]).length 215 1)⟩, by simp, ⟨hl8, by first | exact haf | exact haf.trans i2, by simp at i3 ⊢; omega, by have := (hte rfl).2.2; simp only at this hrm ⊢; omega, by simp only [rowsOk_append, i5]; rfl, k8, .inr (.inr ⟨c, rfl, put_same _ _ _, hcq, hco, hcσ⟩)⟩, Env.Sub_of_has (by simp [Env.Has, Env.get]), by simp only [pO, nodeO, List.nil_append]; exact Store.Sub.refl _⟩
        | false =>
          have haf : altB (B s) ch (f + 1) p5 = p8 := by simp only [altB, hr2, hp8, Bool.false_eq_true, if_false]
          rw [haf]
          simp -dsimp (disch:=omega) only[go_sem,Nat.reduceLT,Nat.reduceLeDiff,Nat.reduceEqDiff,Nat.reduceAdd,Nat.reduceMul,Int.reduceNeg,Nat.reduceBEq,reduceCtorEq,↓reduceIte,sw, ot, otq, hq1, i5, put_swap hco, put_oth hqc]
          repeat' first
           |refine s1 ?_|refine s2 ?_|refine wt rfl ?_|refine wf rfl ?_|(refine wc rfl (fun h=>?_) (fun h=>?_)<;>(try simp only[Bool.not_eq_true',Bool.not_eq_false',decide_eq_true_eq,decide_eq_false_iff_not,Bool.not_not] at h)<;>(try first|exact bt (by assumption) (by assumption)|contradiction|(exfalso;omega)))|((first|refine s3 (mu:=[]) ?_|(refine W_region_any [] c0 mx (by kernel_rfl) ?_;intro nu _ _)|refine prun_go ?_|refine drun_go ?_|refine s5 ?_|refine s6 ?_|with_reducible apply s7);simp -dsimp (disch:=omega) only[go_sem,Nat.reduceLT,Nat.reduceLeDiff,Nat.reduceEqDiff,Nat.reduceAdd,Nat.reduceMul,Int.reduceNeg,Nat.reduceBEq,reduceCtorEq,↓reduceIte,sw, ot, otq, hq1, i5, put_swap hco, put_oth hqc])
           |refine e1 ?_|refine e2 ?_|refine e3 ?_|refine e4 ?_|refine e5 ?_|refine e6 ?_|refine e7 ?_|refine e8 ?_|refine e9 ?_|refine e0 (by decide) ?_|refine ea ?_|(refine And.intro ?_ ?_;omega)|refine And.intro (of_eq_true PutAt_put) ?_
           |((first|refine gn (fun h=>?_) (fun h=>?_)|refine gf (fun h=>?_) (fun h=>?_)|refine gb (fun h=>?_) (fun h=>?_)|refine gp (fun h=>?_) (fun h=>?_))<;>(try first|exact bt (by assumption) (by assumption)|contradiction|(exfalso;omega))<;>(try with_reducible apply s7)<;>(try simp -dsimp (disch:=omega) only[h,go_sem,Nat.reduceLT,Nat.reduceLeDiff,Nat.reduceEqDiff,Nat.reduceAdd,Nat.reduceMul,Int.reduceNeg,Nat.reduceBEq,reduceCtorEq,↓reduceIte,sw, ot, otq, hq1, i5, put_swap hco, put_oth hqc]))|refine Exists.intro _ (Exists.intro _ (And.intro (And.intro rfl rfl) ?_))
           |refine cy (tk _) ?_|refine cz (tk _) ?_
          all_goals exact Sub_in k8 hq
      · have ht1 : τ1 t = some (.tip rows.length 215 1) := by rw [← hτ1, put_oth htq]; exact ht
        have htr : t ≠ r := fun e => by rw [e, hr] at ht1; cases ht1
        have ht2 := j6 _ _ ht1
        have hqt : q ≠ t := fun e => htq e.symm
        have hcσ := hts
        have hcq := htq
        have hco := hto
        have k8 := keep_new (x := .tip (rows ++ [AV.ptr r 0 0]).length 215 1) k7 hcσ
        cases b8 with
        | true =>
          have haf : altB (B s) ch f p8 = altB (B s) ch (f + 1) p5 := by simp only [altB, hr2, hp8, if_true]
          repeat' first
           |refine s1 ?_|refine s2 ?_|refine wt rfl ?_|refine wf rfl ?_|(refine wc rfl (fun h=>?_) (fun h=>?_)<;>(try simp only[Bool.not_eq_true',Bool.not_eq_false',decide_eq_true_eq,decide_eq_false_iff_not,Bool.not_not] at h)<;>(try first|exact bt (by assumption) (by assumption)|contradiction|(exfalso;omega)))|((first|refine s3 (mu:=[]) ?_|(refine W_region_any [] c0 mx (by kernel_rfl) ?_;intro nu _ _)|refine prun_go ?_|refine drun_go ?_|refine s5 ?_|refine s6 ?_|with_reducible apply s7);simp -dsimp (disch:=omega) only[go_sem,Nat.reduceLT,Nat.reduceLeDiff,Nat.reduceEqDiff,Nat.reduceAdd,Nat.reduceMul,Int.reduceNeg,Nat.reduceBEq,reduceCtorEq,↓reduceIte,sw, ot, otq, hq1, i5, put_swap hto, put_oth hto, put_oth htr, ht2, put_oth hqt])
           |refine e1 ?_|refine e2 ?_|refine e3 ?_|refine e4 ?_|refine e5 ?_|refine e6 ?_|refine e7 ?_|refine e8 ?_|refine e9 ?_|refine e0 (by decide) ?_|refine ea ?_|(refine And.intro ?_ ?_;omega)|refine And.intro (of_eq_true PutAt_put) ?_
           |((first|refine gn (fun h=>?_) (fun h=>?_)|refine gf (fun h=>?_) (fun h=>?_)|refine gb (fun h=>?_) (fun h=>?_)|refine gp (fun h=>?_) (fun h=>?_))<;>(try first|exact bt (by assumption) (by assumption)|contradiction|(exfalso;omega))<;>(try with_reducible apply s7)<;>(try simp -dsimp (disch:=omega) only[h,go_sem,Nat.reduceLT,Nat.reduceLeDiff,Nat.reduceEqDiff,Nat.reduceAdd,Nat.reduceMul,Int.reduceNeg,Nat.reduceBEq,reduceCtorEq,↓reduceIte,sw, ot, otq, hq1, i5, put_swap hto, put_oth hto, put_oth htr, ht2, put_oth hqt]))|refine Exists.intro _ (Exists.intro _ (And.intro (And.intro rfl rfl) ?_))
           |refine cy (tk _) ?_|refine cz (tk _) ?_
          refine ⟨⟨f, p8, .tip t, rows ++ [.ptr r 0 0], (τ'.put r R).put t (.tip (rows ++ [AV.ptr r 0 0]).length 215 1)⟩, by simp, ⟨hl8, by first | exact haf | exact haf.trans i2, by simp at i3 ⊢; omega, by have := (hte rfl).2.2; simp only at this hrm ⊢; omega, by simp only [rowsOk_append, i5]; rfl, k8, .inr (.inr ⟨t, rfl, put_same _ _ _, hcq, hco, hcσ⟩)⟩, Env.Sub_of_has (by simp [Env.Has, Env.get]), by simp only [pO, nodeO, List.nil_append]; exact Store.Sub.refl _⟩
        | false =>
          have haf : altB (B s) ch (f + 1) p5 = p8 := by simp only [altB, hr2, hp8, Bool.false_eq_true, if_false]
          rw [haf]
          repeat' first
           |refine s1 ?_|refine s2 ?_|refine wt rfl ?_|refine wf rfl ?_|(refine wc rfl (fun h=>?_) (fun h=>?_)<;>(try simp only[Bool.not_eq_true',Bool.not_eq_false',decide_eq_true_eq,decide_eq_false_iff_not,Bool.not_not] at h)<;>(try first|exact bt (by assumption) (by assumption)|contradiction|(exfalso;omega)))|((first|refine s3 (mu:=[]) ?_|(refine W_region_any [] c0 mx (by kernel_rfl) ?_;intro nu _ _)|refine prun_go ?_|refine drun_go ?_|refine s5 ?_|refine s6 ?_|with_reducible apply s7);simp -dsimp (disch:=omega) only[go_sem,Nat.reduceLT,Nat.reduceLeDiff,Nat.reduceEqDiff,Nat.reduceAdd,Nat.reduceMul,Int.reduceNeg,Nat.reduceBEq,reduceCtorEq,↓reduceIte,sw, ot, otq, hq1, i5, put_swap hto, put_oth hto, put_oth htr, ht2, put_oth hqt])
           |refine e1 ?_|refine e2 ?_|refine e3 ?_|refine e4 ?_|refine e5 ?_|refine e6 ?_|refine e7 ?_|refine e8 ?_|refine e9 ?_|refine e0 (by decide) ?_|refine ea ?_|(refine And.intro ?_ ?_;omega)|refine And.intro (of_eq_true PutAt_put) ?_
           |((first|refine gn (fun h=>?_) (fun h=>?_)|refine gf (fun h=>?_) (fun h=>?_)|refine gb (fun h=>?_) (fun h=>?_)|refine gp (fun h=>?_) (fun h=>?_))<;>(try first|exact bt (by assumption) (by assumption)|contradiction|(exfalso;omega))<;>(try with_reducible apply s7)<;>(try simp -dsimp (disch:=omega) only[h,go_sem,Nat.reduceLT,Nat.reduceLeDiff,Nat.reduceEqDiff,Nat.reduceAdd,Nat.reduceMul,Int.reduceNeg,Nat.reduceBEq,reduceCtorEq,↓reduceIte,sw, ot, otq, hq1, i5, put_swap hto, put_oth hto, put_oth htr, ht2, put_oth hqt]))|refine Exists.intro _ (Exists.intro _ (And.intro (And.intro rfl rfl) ?_))
           |refine cy (tk _) ?_|refine cz (tk _) ?_
          all_goals exact Sub_in k8 hq
  · have hz : rowB (B s) ch g ⟨at6, r6⟩ = ⟨at6, r6⟩ := by
      cases g with
      | zero => rfl
      | succ n => rw [rowB, if_neg he]
    rw [hz] at j2
    simp only [nodeO]
    repeat' first
     |((fail_if_success (first|show W _ _ (Code.seq (Code.region 8 _ _) _) _ _ _|show W _ _ (Code.seq (Code.seq (Code.region 8 _ _) _) _) _ _ _));refine s1 ?_)|refine s2 ?_|refine wt rfl ?_|refine wf rfl ?_|(refine wc rfl (fun h=>?_) (fun h=>?_)<;>(try simp only[Bool.not_eq_true',Bool.not_eq_false',decide_eq_true_eq,decide_eq_false_iff_not,Bool.not_not] at h)<;>(try first|exact bt (by assumption) (by assumption)|contradiction|(exfalso;omega)))|((fail_if_success (first|show W _ _ (Code.region 8 _ _) _ _ _));(first|refine s3 (mu:=[]) ?_|(refine W_region_any [] c0 mx (by kernel_rfl) ?_;intro nu _ _)|refine prun_go ?_|refine drun_go ?_|refine s5 ?_|refine s6 ?_|with_reducible apply s7);simp -dsimp (disch:=omega) only[go_sem,Nat.reduceLT,Nat.reduceLeDiff,Nat.reduceEqDiff,Nat.reduceAdd,Nat.reduceMul,Int.reduceNeg,Nat.reduceBEq,reduceCtorEq,↓reduceIte,he])
     |refine e1 ?_|refine e2 ?_|refine e3 ?_|refine e4 ?_|refine e5 ?_|refine e6 ?_|refine e7 ?_|refine e8 ?_|refine e9 ?_|refine e0 (by decide) ?_|refine ea ?_|(refine And.intro ?_ ?_;omega)|refine And.intro (of_eq_true PutAt_put) ?_
     |((first|refine gn (fun h=>?_) (fun h=>?_)|refine gf (fun h=>?_) (fun h=>?_)|refine gb (fun h=>?_) (fun h=>?_)|refine gp (fun h=>?_) (fun h=>?_))<;>(try first|exact bt (by assumption) (by assumption)|contradiction|(exfalso;omega))<;>(try with_reducible apply s7)<;>(try simp -dsimp (disch:=omega) only[h,go_sem,Nat.reduceLT,Nat.reduceLeDiff,Nat.reduceEqDiff,Nat.reduceAdd,Nat.reduceMul,Int.reduceNeg,Nat.reduceBEq,reduceCtorEq,↓reduceIte,he]))|refine Exists.intro _ (Exists.intro _ (And.intro (And.intro rfl rfl) ?_))
    have hr2 : rowB (B s) ch ((B s).length + 2) p5 = ⟨at6, r6⟩ := j2.symm
    have tk := take_spec s hs ⟨at6, r6⟩ j1 124 o
    have hl8 := (take_mono (B s) 124).len ⟨at6, r6⟩ j1
    have hte := fun h => take_err (B s) (c := 124) (p := ⟨at6, r6⟩) h
    have hrm := (row_mono (B s) hmo ((B s).length + 2)).le p5 i1
    obtain ⟨b8, p8, hp8⟩ : ∃ b8 p8, takeB (B s) 124 ⟨at6, r6⟩ = (b8, p8) := ⟨_, _, rfl⟩
    rw [hr2] at hrm
    simp only [hp8] at tk hl8 hte hrm
    have k5 : ∀ c y, σ c = some y → τ1 c = some y := by rw [← hτ1]; exact keep_new i6 hq
    have k6 : ∀ c y, σ c = some y → τ' c = some y := fun c y h => j6 c y (k5 c y h)
    obtain ⟨R, hR⟩ : ∃ x, nodeO 1 false .nil [] k' rows' = x := ⟨_, rfl⟩
    have k7 : ∀ c y, σ c = some y → (τ'.put r R) c = some y := keep_new k6 (none_of k5 hr)
    simp only [nodeO] at hR
    rw [hR]
    rw [← hN] at hq1
    simp only [nodeO] at hq1
    rcases i7 with rfl | ⟨rfl, rfl⟩ | ⟨t, rfl, ht, htq, hto, hts⟩
    · skip
      repeat' first
       |((fail_if_success (first|show W _ _ (Code.seq (Code.region 9 _ _) _) _ _ _|show W _ _ (Code.seq (Code.seq (Code.region 9 _ _) _) _) _ _ _));refine s1 ?_)|refine s2 ?_|refine wt rfl ?_|refine wf rfl ?_|(refine wc rfl (fun h=>?_) (fun h=>?_)<;>(try simp only[Bool.not_eq_true',Bool.not_eq_false',decide_eq_true_eq,decide_eq_false_iff_not,Bool.not_not] at h)<;>(try first|exact bt (by assumption) (by assumption)|contradiction|(exfalso;omega)))|((fail_if_success (first|show W _ _ (Code.region 9 _ _) _ _ _));(first|refine s3 (mu:=[]) ?_|(refine W_region_any [] c0 mx (by kernel_rfl) ?_;intro nu _ _)|refine prun_go ?_|refine drun_go ?_|refine s5 ?_|refine s6 ?_|with_reducible apply s7);simp -dsimp (disch:=omega) only[go_sem,Nat.reduceLT,Nat.reduceLeDiff,Nat.reduceEqDiff,Nat.reduceAdd,Nat.reduceMul,Int.reduceNeg,Nat.reduceBEq,reduceCtorEq,↓reduceIte,ot, otq, hq1, i5])
       |refine e1 ?_|refine e2 ?_|refine e3 ?_|refine e4 ?_|refine e5 ?_|refine e6 ?_|refine e7 ?_|refine e8 ?_|refine e9 ?_|refine e0 (by decide) ?_|refine ea ?_|(refine And.intro ?_ ?_;omega)|refine And.intro (of_eq_true PutAt_put) ?_
       |((first|refine gn (fun h=>?_) (fun h=>?_)|refine gf (fun h=>?_) (fun h=>?_)|refine gb (fun h=>?_) (fun h=>?_)|refine gp (fun h=>?_) (fun h=>?_))<;>(try first|exact bt (by assumption) (by assumption)|contradiction|(exfalso;omega))<;>(try with_reducible apply s7)<;>(try simp -dsimp (disch:=omega) only[h,go_sem,Nat.reduceLT,Nat.reduceLeDiff,Nat.reduceEqDiff,Nat.reduceAdd,Nat.reduceMul,Int.reduceNeg,Nat.reduceBEq,reduceCtorEq,↓reduceIte,ot, otq, hq1, i5]))|refine Exists.intro _ (Exists.intro _ (And.intro (And.intro rfl rfl) ?_))
      intro c hc
      have hco := alloc_ne hc
      rw [put_oth hco] at hc
      have hcr := alloc_ne hc
      rw [put_oth hcr] at hc
      have hqc : q ≠ c := fun e => by rw [← e, hq1] at hc; cases hc
      have hcσ := none_of k6 hc
      have hcq : c ≠ q := fun e => hqc e.symm
      have k8 := keep_new (x := .tip (rows ++ [AV.ptr r 0 0]).length 215 1) k7 hcσ
      cases b8 with
      | true =>
        have haf : altB (B s) ch f p8 = altB (B s) ch (f + 1) p5 := by simp only [altB, hr2, hp8, if_true]
        simp -dsimp (disch:=omega) only[go_sem,Nat.reduceLT,Nat.reduceLeDiff,Nat.reduceEqDiff,Nat.reduceAdd,Nat.reduceMul,Int.reduceNeg,Nat.reduceBEq,reduceCtorEq,↓reduceIte,sw, ot, otq, hq1, i5, put_swap hco, put_oth hqc]
        repeat' first
         |refine s1 ?_|refine s2 ?_|refine wt rfl ?_|refine wf rfl ?_|(refine wc rfl (fun h=>?_) (fun h=>?_)<;>(try simp only[Bool.not_eq_true',Bool.not_eq_false',decide_eq_true_eq,decide_eq_false_iff_not,Bool.not_not] at h)<;>(try first|exact bt (by assumption) (by assumption)|contradiction|(exfalso;omega)))|((first|refine s3 (mu:=[]) ?_|(refine W_region_any [] c0 mx (by kernel_rfl) ?_;intro nu _ _)|refine prun_go ?_|refine drun_go ?_|refine s5 ?_|refine s6 ?_|with_reducible apply s7);simp -dsimp (disch:=omega) only[go_sem,Nat.reduceLT,Nat.reduceLeDiff,Nat.reduceEqDiff,Nat.reduceAdd,Nat.reduceMul,Int.reduceNeg,Nat.reduceBEq,reduceCtorEq,↓reduceIte,sw, ot, otq, hq1, i5, put_swap hco, put_oth hqc])
         |refine e1 ?_|refine e2 ?_|refine e3 ?_|refine e4 ?_|refine e5 ?_|refine e6 ?_|refine e7 ?_|refine e8 ?_|refine e9 ?_|refine e0 (by decide) ?_|refine ea ?_|(refine And.intro ?_ ?_;omega)|refine And.intro (of_eq_true PutAt_put) ?_
         |((first|refine gn (fun h=>?_) (fun h=>?_)|refine gf (fun h=>?_) (fun h=>?_)|refine gb (fun h=>?_) (fun h=>?_)|refine gp (fun h=>?_) (fun h=>?_))<;>(try first|exact bt (by assumption) (by assumption)|contradiction|(exfalso;omega))<;>(try with_reducible apply s7)<;>(try simp -dsimp (disch:=omega) only[h,go_sem,Nat.reduceLT,Nat.reduceLeDiff,Nat.reduceEqDiff,Nat.reduceAdd,Nat.reduceMul,Int.reduceNeg,Nat.reduceBEq,reduceCtorEq,↓reduceIte,sw, ot, otq, hq1, i5, put_swap hco, put_oth hqc]))|refine Exists.intro _ (Exists.intro _ (And.intro (And.intro rfl rfl) ?_))
         |refine cy (tk _) ?_|refine cz (tk _) ?_
        refine ⟨⟨f, p8, .tip c, rows ++ [.ptr r 0 0], (τ'.put r R).put c (.tip (rows ++ [AV.ptr r 0 0]).length 215 1)⟩, by simp, ⟨hl8, by first | exact haf | exact haf.trans i2, by simp at i3 ⊢; omega, by have := (hte rfl).2.2; simp only at this hrm ⊢; omega, by simp only [rowsOk_append, i5]; rfl, k8, .inr (.inr ⟨c, rfl, put_same _ _ _, hcq, hco, hcσ⟩)⟩, Env.Sub_of_has (by simp [Env.Has, Env.get]), by simp only [pO, nodeO, List.nil_append]; exact Store.Sub.refl _⟩
      | false =>
        have haf : altB (B s) ch (f + 1) p5 = p8 := by simp only [altB, hr2, hp8, Bool.false_eq_true, if_false]
        rw [haf]
        simp -dsimp (disch:=omega) only[go_sem,Nat.reduceLT,Nat.reduceLeDiff,Nat.reduceEqDiff,Nat.reduceAdd,Nat.reduceMul,Int.reduceNeg,Nat.reduceBEq,reduceCtorEq,↓reduceIte,sw, ot, otq, hq1, i5, put_swap hco, put_oth hqc]
        repeat' first
         |refine s1 ?_|refine s2 ?_|refine wt rfl ?_|refine wf rfl ?_|(refine wc rfl (fun h=>?_) (fun h=>?_)<;>(try simp only[Bool.not_eq_true',Bool.not_eq_false',decide_eq_true_eq,decide_eq_false_iff_not,Bool.not_not] at h)<;>(try first|exact bt (by assumption) (by assumption)|contradiction|(exfalso;omega)))|((first|refine s3 (mu:=[]) ?_|(refine W_region_any [] c0 mx (by kernel_rfl) ?_;intro nu _ _)|refine prun_go ?_|refine drun_go ?_|refine s5 ?_|refine s6 ?_|with_reducible apply s7);simp -dsimp (disch:=omega) only[go_sem,Nat.reduceLT,Nat.reduceLeDiff,Nat.reduceEqDiff,Nat.reduceAdd,Nat.reduceMul,Int.reduceNeg,Nat.reduceBEq,reduceCtorEq,↓reduceIte,sw, ot, otq, hq1, i5, put_swap hco, put_oth hqc])
         |refine e1 ?_|refine e2 ?_|refine e3 ?_|refine e4 ?_|refine e5 ?_|refine e6 ?_|refine e7 ?_|refine e8 ?_|refine e9 ?_|refine e0 (by decide) ?_|refine ea ?_|(refine And.intro ?_ ?_;omega)|refine And.intro (of_eq_true PutAt_put) ?_
         |((first|refine gn (fun h=>?_) (fun h=>?_)|refine gf (fun h=>?_) (fun h=>?_)|refine gb (fun h=>?_) (fun h=>?_)|refine gp (fun h=>?_) (fun h=>?_))<;>(try first|exact bt (by assumption) (by assumption)|contradiction|(exfalso;omega))<;>(try with_reducible apply s7)<;>(try simp -dsimp (disch:=omega) only[h,go_sem,Nat.reduceLT,Nat.reduceLeDiff,Nat.reduceEqDiff,Nat.reduceAdd,Nat.reduceMul,Int.reduceNeg,Nat.reduceBEq,reduceCtorEq,↓reduceIte,sw, ot, otq, hq1, i5, put_swap hco, put_oth hqc]))|refine Exists.intro _ (Exists.intro _ (And.intro (And.intro rfl rfl) ?_))
         |refine cy (tk _) ?_|refine cz (tk _) ?_
        all_goals exact Sub_in k8 hq
    · skip
      repeat' first
       |((fail_if_success (first|show W _ _ (Code.seq (Code.region 9 _ _) _) _ _ _|show W _ _ (Code.seq (Code.seq (Code.region 9 _ _) _) _) _ _ _));refine s1 ?_)|refine s2 ?_|refine wt rfl ?_|refine wf rfl ?_|(refine wc rfl (fun h=>?_) (fun h=>?_)<;>(try simp only[Bool.not_eq_true',Bool.not_eq_false',decide_eq_true_eq,decide_eq_false_iff_not,Bool.not_not] at h)<;>(try first|exact bt (by assumption) (by assumption)|contradiction|(exfalso;omega)))|((fail_if_success (first|show W _ _ (Code.region 9 _ _) _ _ _));(first|refine s3 (mu:=[]) ?_|(refine W_region_any [] c0 mx (by kernel_rfl) ?_;intro nu _ _)|refine prun_go ?_|refine drun_go ?_|refine s5 ?_|refine s6 ?_|with_reducible apply s7);simp -dsimp (disch:=omega) only[go_sem,Nat.reduceLT,Nat.reduceLeDiff,Nat.reduceEqDiff,Nat.reduceAdd,Nat.reduceMul,Int.reduceNeg,Nat.reduceBEq,reduceCtorEq,↓reduceIte,ot, otq, hq1, i5])
       |refine e1 ?_|refine e2 ?_|refine e3 ?_|refine e4 ?_|refine e5 ?_|refine e6 ?_|refine e7 ?_|refine e8 ?_|refine e9 ?_|refine e0 (by decide) ?_|refine ea ?_|(refine And.intro ?_ ?_;omega)|refine And.intro (of_eq_true PutAt_put) ?_
       |((first|refine gn (fun h=>?_) (fun h=>?_)|refine gf (fun h=>?_) (fun h=>?_)|refine gb (fun h=>?_) (fun h=>?_)|refine gp (fun h=>?_) (fun h=>?_))<;>(try first|exact bt (by assumption) (by assumption)|contradiction|(exfalso;omega))<;>(try with_reducible apply s7)<;>(try simp -dsimp (disch:=omega) only[h,go_sem,Nat.reduceLT,Nat.reduceLeDiff,Nat.reduceEqDiff,Nat.reduceAdd,Nat.reduceMul,Int.reduceNeg,Nat.reduceBEq,reduceCtorEq,↓reduceIte,ot, otq, hq1, i5]))|refine Exists.intro _ (Exists.intro _ (And.intro (And.intro rfl rfl) ?_))
      intro c hc
      have hco := alloc_ne hc
      rw [put_oth hco] at hc
      have hcr := alloc_ne hc
      rw [put_oth hcr] at hc
      have hqc : q ≠ c := fun e => by rw [← e, hq1] at hc; cases hc
      have hcσ := none_of k6 hc
      have hcq : c ≠ q := fun e => hqc e.symm
      have k8 := keep_new (x := .tip ([] ++ [AV.ptr r 0 0]).length 215 1) k7 hcσ
      cases b8 with
      | true =>
        have haf : altB (B s) ch f p8 = altB (B s) ch (f + 1) p5 := by simp only [altB, hr2, hp8, if_true]
        simp -dsimp (disch:=omega) only[go_sem,Nat.reduceLT,Nat.reduceLeDiff,Nat.reduceEqDiff,Nat.reduceAdd,Nat.reduceMul,Int.reduceNeg,Nat.reduceBEq,reduceCtorEq,↓reduceIte,sw, ot, otq, hq1, i5, put_swap hco, put_oth hqc]
        repeat' first
         |refine s1 ?_|refine s2 ?_|refine wt rfl ?_|refine wf rfl ?_|(refine wc rfl (fun h=>?_) (fun h=>?_)<;>(try simp only[Bool.not_eq_true',Bool.not_eq_false',decide_eq_true_eq,decide_eq_false_iff_not,Bool.not_not] at h)<;>(try first|exact bt (by assumption) (by assumption)|contradiction|(exfalso;omega)))|((first|refine s3 (mu:=[]) ?_|(refine W_region_any [] c0 mx (by kernel_rfl) ?_;intro nu _ _)|refine prun_go ?_|refine drun_go ?_|refine s5 ?_|refine s6 ?_|with_reducible apply s7);simp -dsimp (disch:=omega) only[go_sem,Nat.reduceLT,Nat.reduceLeDiff,Nat.reduceEqDiff,Nat.reduceAdd,Nat.reduceMul,Int.reduceNeg,Nat.reduceBEq,reduceCtorEq,↓reduceIte,sw, ot, otq, hq1, i5, put_swap hco, put_oth hqc])
         |refine e1 ?_|refine e2 ?_|refine e3 ?_|refine e4 ?_|refine e5 ?_|refine e6 ?_|refine e7 ?_|refine e8 ?_|refine e9 ?_|refine e0 (by decide) ?_|refine ea ?_|(refine And.intro ?_ ?_;omega)|refine And.intro (of_eq_true PutAt_put) ?_
         |((first|refine gn (fun h=>?_) (fun h=>?_)|refine gf (fun h=>?_) (fun h=>?_)|refine gb (fun h=>?_) (fun h=>?_)|refine gp (fun h=>?_) (fun h=>?_))<;>(try first|exact bt (by assumption) (by assumption)|contradiction|(exfalso;omega))<;>(try with_reducible apply s7)<;>(try simp -dsimp (disch:=omega) only[h,go_sem,Nat.reduceLT,Nat.reduceLeDiff,Nat.reduceEqDiff,Nat.reduceAdd,Nat.reduceMul,Int.reduceNeg,Nat.reduceBEq,reduceCtorEq,↓reduceIte,sw, ot, otq, hq1, i5, put_swap hco, put_oth hqc]))|refine Exists.intro _ (Exists.intro _ (And.intro (And.intro rfl rfl) ?_))
         |refine cy (tk _) ?_|refine cz (tk _) ?_
        refine ⟨⟨f, p8, .tip c, [] ++ [.ptr r 0 0], (τ'.put r R).put c (.tip ([] ++ [AV.ptr r 0 0]).length 215 1)⟩, by simp, ⟨hl8, by first | exact haf | exact haf.trans i2, by simp at i3 ⊢; omega, by have := (hte rfl).2.2; simp only at this hrm ⊢; omega, by simp only [rowsOk_append, i5]; rfl, k8, .inr (.inr ⟨c, rfl, put_same _ _ _, hcq, hco, hcσ⟩)⟩, Env.Sub_of_has (by simp [Env.Has, Env.get]), by simp only [pO, nodeO, List.nil_append]; exact Store.Sub.refl _⟩
      | false =>
        have haf : altB (B s) ch (f + 1) p5 = p8 := by simp only [altB, hr2, hp8, Bool.false_eq_true, if_false]
        rw [haf]
        simp -dsimp (disch:=omega) only[go_sem,Nat.reduceLT,Nat.reduceLeDiff,Nat.reduceEqDiff,Nat.reduceAdd,Nat.reduceMul,Int.reduceNeg,Nat.reduceBEq,reduceCtorEq,↓reduceIte,sw, ot, otq, hq1, i5, put_swap hco, put_oth hqc]
        repeat' first
         |refine s1 ?_|refine s2 ?_|refine wt rfl ?_|refine wf rfl ?_|(refine wc rfl (fun h=>?_) (fun h=>?_)<;>(try simp only[Bool.not_eq_true',Bool.not_eq_false',decide_eq_true_eq,decide_eq_false_iff_not,Bool.not_not] at h)<;>(try first|exact bt (by assumption) (by assumption)|contradiction|(exfalso;omega)))|((first|refine s3 (mu:=[]) ?_|(refine W_region_any [] c0 mx (by kernel_rfl) ?_;intro nu _ _)|refine prun_go ?_|refine drun_go ?_|refine s5 ?_|refine s6 ?_|with_reducible apply s7);simp -dsimp (disch:=omega) only[go_sem,Nat.reduceLT,Nat.reduceLeDiff,Nat.reduceEqDiff,Nat.reduceAdd,Nat.reduceMul,Int.reduceNeg,Nat.reduceBEq,reduceCtorEq,↓reduceIte,sw, ot, otq, hq1, i5, put_swap hco, put_oth hqc])
         |refine e1 ?_|refine e2 ?_|refine e3 ?_|refine e4 ?_|refine e5 ?_|refine e6 ?_|refine e7 ?_|refine e8 ?_|refine e9 ?_|refine e0 (by decide) ?_|refine ea ?_|(refine And.intro ?_ ?_;omega)|refine And.intro (of_eq_true PutAt_put) ?_
         |((first|refine gn (fun h=>?_) (fun h=>?_)|refine gf (fun h=>?_) (fun h=>?_)|refine gb (fun h=>?_) (fun h=>?_)|refine gp (fun h=>?_) (fun h=>?_))<;>(try first|exact bt (by assumption) (by assumption)|contradiction|(exfalso;omega))<;>(try with_reducible apply s7)<;>(try simp -dsimp (disch:=omega) only[h,go_sem,Nat.reduceLT,Nat.reduceLeDiff,Nat.reduceEqDiff,Nat.reduceAdd,Nat.reduceMul,Int.reduceNeg,Nat.reduceBEq,reduceCtorEq,↓reduceIte,sw, ot, otq, hq1, i5, put_swap hco, put_oth hqc]))|refine Exists.intro _ (Exists.intro _ (And.intro (And.intro rfl rfl) ?_))
         |refine cy (tk _) ?_|refine cz (tk _) ?_
        all_goals exact Sub_in k8 hq
    · have ht1 : τ1 t = some (.tip rows.length 215 1) := by rw [← hτ1, put_oth htq]; exact ht
      have htr : t ≠ r := fun e => by rw [e, hr] at ht1; cases ht1
      have ht2 := j6 _ _ ht1
      have hqt : q ≠ t := fun e => htq e.symm
      have hcσ := hts
      have hcq := htq
      have hco := hto
      have k8 := keep_new (x := .tip (rows ++ [AV.ptr r 0 0]).length 215 1) k7 hcσ
      cases b8 with
      | true =>
        have haf : altB (B s) ch f p8 = altB (B s) ch (f + 1) p5 := by simp only [altB, hr2, hp8, if_true]
        repeat' first
         |refine s1 ?_|refine s2 ?_|refine wt rfl ?_|refine wf rfl ?_|(refine wc rfl (fun h=>?_) (fun h=>?_)<;>(try simp only[Bool.not_eq_true',Bool.not_eq_false',decide_eq_true_eq,decide_eq_false_iff_not,Bool.not_not] at h)<;>(try first|exact bt (by assumption) (by assumption)|contradiction|(exfalso;omega)))|((first|refine s3 (mu:=[]) ?_|(refine W_region_any [] c0 mx (by kernel_rfl) ?_;intro nu _ _)|refine prun_go ?_|refine drun_go ?_|refine s5 ?_|refine s6 ?_|with_reducible apply s7);simp -dsimp (disch:=omega) only[go_sem,Nat.reduceLT,Nat.reduceLeDiff,Nat.reduceEqDiff,Nat.reduceAdd,Nat.reduceMul,Int.reduceNeg,Nat.reduceBEq,reduceCtorEq,↓reduceIte,sw, ot, otq, hq1, i5, put_swap hto, put_oth hto, put_oth htr, ht2, put_oth hqt])
         |refine e1 ?_|refine e2 ?_|refine e3 ?_|refine e4 ?_|refine e5 ?_|refine e6 ?_|refine e7 ?_|refine e8 ?_|refine e9 ?_|refine e0 (by decide) ?_|refine ea ?_|(refine And.intro ?_ ?_;omega)|refine And.intro (of_eq_true PutAt_put) ?_
         |((first|refine gn (fun h=>?_) (fun h=>?_)|refine gf (fun h=>?_) (fun h=>?_)|refine gb (fun h=>?_) (fun h=>?_)|refine gp (fun h=>?_) (fun h=>?_))<;>(try first|exact bt (by assumption) (by assumption)|contradiction|(exfalso;omega))<;>(try with_reducible apply s7)<;>(try simp -dsimp (disch:=omega) only[h,go_sem,Nat.reduceLT,Nat.reduceLeDiff,Nat.reduceEqDiff,Nat.reduceAdd,Nat.reduceMul,Int.reduceNeg,Nat.reduceBEq,reduceCtorEq,↓reduceIte,sw, ot, otq, hq1, i5, put_swap hto, put_oth hto, put_oth htr, ht2, put_oth hqt]))|refine Exists.intro _ (Exists.intro _ (And.intro (And.intro rfl rfl) ?_))
         |refine cy (tk _) ?_|refine cz (tk _) ?_
        refine ⟨⟨f, p8, .tip t, rows ++ [.ptr r 0 0], (τ'.put r R).put t (.tip (rows ++ [AV.ptr r 0 0]).length 215 1)⟩, by simp, ⟨hl8, by first | exact haf | exact haf.trans i2, by simp at i3 ⊢; omega, by have := (hte rfl).2.2; simp only at this hrm ⊢; omega, by simp only [rowsOk_append, i5]; rfl, k8, .inr (.inr ⟨t, rfl, put_same _ _ _, hcq, hco, hcσ⟩)⟩, Env.Sub_of_has (by simp [Env.Has, Env.get]), by simp only [pO, nodeO, List.nil_append]; exact Store.Sub.refl _⟩
      | false =>
        have haf : altB (B s) ch (f + 1) p5 = p8 := by simp only [altB, hr2, hp8, Bool.false_eq_true, if_false]
        rw [haf]
        repeat' first
         |refine s1 ?_|refine s2 ?_|refine wt rfl ?_|refine wf rfl ?_|(refine wc rfl (fun h=>?_) (fun h=>?_)<;>(try simp only[Bool.not_eq_true',Bool.not_eq_false',decide_eq_true_eq,decide_eq_false_iff_not,Bool.not_not] at h)<;>(try first|exact bt (by assumption) (by assumption)|contradiction|(exfalso;omega)))|((first|refine s3 (mu:=[]) ?_|(refine W_region_any [] c0 mx (by kernel_rfl) ?_;intro nu _ _)|refine prun_go ?_|refine drun_go ?_|refine s5 ?_|refine s6 ?_|with_reducible apply s7);simp -dsimp (disch:=omega) only[go_sem,Nat.reduceLT,Nat.reduceLeDiff,Nat.reduceEqDiff,Nat.reduceAdd,Nat.reduceMul,Int.reduceNeg,Nat.reduceBEq,reduceCtorEq,↓reduceIte,sw, ot, otq, hq1, i5, put_swap hto, put_oth hto, put_oth htr, ht2, put_oth hqt])
         |refine e1 ?_|refine e2 ?_|refine e3 ?_|refine e4 ?_|refine e5 ?_|refine e6 ?_|refine e7 ?_|refine e8 ?_|refine e9 ?_|refine e0 (by decide) ?_|refine ea ?_|(refine And.intro ?_ ?_;omega)|refine And.intro (of_eq_true PutAt_put) ?_
         |((first|refine gn (fun h=>?_) (fun h=>?_)|refine gf (fun h=>?_) (fun h=>?_)|refine gb (fun h=>?_) (fun h=>?_)|refine gp (fun h=>?_) (fun h=>?_))<;>(try first|exact bt (by assumption) (by assumption)|contradiction|(exfalso;omega))<;>(try with_reducible apply s7)<;>(try simp -dsimp (disch:=omega) only[h,go_sem,Nat.reduceLT,Nat.reduceLeDiff,Nat.reduceEqDiff,Nat.reduceAdd,Nat.reduceMul,Int.reduceNeg,Nat.reduceBEq,reduceCtorEq,↓reduceIte,sw, ot, otq, hq1, i5, put_swap hto, put_oth hto, put_oth htr, ht2, put_oth hqt]))|refine Exists.intro _ (Exists.intro _ (And.intro (And.intro rfl rfl) ?_))
         |refine cy (tk _) ?_|refine cz (tk _) ?_
        all_goals exact Sub_in k8 hq
end
end Go.Proofs.YtaealcimocpnnaaGreat
