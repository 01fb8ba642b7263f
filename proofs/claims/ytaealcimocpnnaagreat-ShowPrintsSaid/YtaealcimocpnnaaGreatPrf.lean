/- What the claim needs, part 6: Ce Cf Cp By Cq. Conditions: none. -/
import Derived.Test.YtaealcimocpnnaaGreatPre
import Derived.Test.YtaealcimocpnnaaGreatRows
set_option linter.unusedVariables false
set_option linter.unusedSimpArgs false
set_option linter.unusedSectionVars false
namespace Go.Proofs.YtaealcimocpnnaaGreat
open Go.Kern Go.RowKit
theorem endC : (⟨#[59]⟩ : ByteArray) ++ (⟨#[10]⟩ : ByteArray) = ⟨#[59, 10]⟩ := rfl
theorem endC' (a : ByteArray) : (⟨#[59]⟩ : ByteArray) ++ ((⟨#[10]⟩ : ByteArray) ++ a) = ⟨#[59, 10]⟩ ++ a := by rw [← asA]; rfl
theorem some_two {a p : ByteArray} (x : ByteArray) (hp : repB 2 ++ (a ++ blk) = p) : someB true [a, x] = p ++ x ++ (⟨#[59, 10]⟩ : ByteArray) := by
  rw [← hp]
  simp only [someB, semi, lineB, joinOf, joinT, asA, emA, if_true, endC]
theorem some_bl {a p y : ByteArray} (x : ByteArray) (hp : repB 2 ++ a = p) (hy : y = blk ++ x) : someB true [a, x] = p ++ y ++ (⟨#[59, 10]⟩ : ByteArray) := by
  rw [← hp, hy]
  simp only [someB, semi, lineB, joinOf, joinT, asA, emA, if_true, endC]
theorem some_no (ws : List ByteArray) : someB false ws = ⟨#[]⟩ := rfl
theorem cat_join {α : Type} (f : α → ByteArray) : ∀ l : List α, l ≠ [] → catB (l.map fun c => blk ++ f c) = blk ++ joinOf blk (l.map f)
  | [], h => absurd rfl h
  | [x], _ => by simp only [List.map_cons, List.map_nil, catB, joinOf, joinT, emA]
  | x :: y :: r, _ => by
    have ih := cat_join f (y :: r) (by simp)
    simp only [List.map_cons, catB, joinOf, joinT] at ih ⊢
    rw [ih]; simp only [asA]
theorem cut8 (x : ByteArray) {a b : ByteArray} (h : a = b) : x ++ a = x ++ b := by rw [h]
set_option maxRecDepth 100000
set_option maxHeartbeats 4000000
attribute [local irreducible] PCall W
theorem rcls_spec (c : Cls) (hc : c.Good) (hcom : (c.m.c.asn = 0 ∧ c.m.c.n = 0) ∨ comMay c.m.c = true) (hpre : eachP 16 (fun n => withinZ n 1 65535) c.s.pre = true) : Pure Tryz.prog 41 [eCls c] (.str (clsText c)) := by
  intro σ
  obtain ⟨wd, hwd⟩ : ∃ wd, (if c.permit = true then (⟨#[32, 112, 101, 114, 109, 105, 116, 32]⟩ : ByteArray) else (⟨#[32, 100, 101, 110, 121, 32]⟩ : ByteArray)) = wd := ⟨_, rfl⟩
  have zw : wd.size ≤ 8 := by rw [← hwd]; split <;> decide
  have l0 : lineB 1 [if c.permit = true then (⟨#[112, 101, 114, 109, 105, 116]⟩ : ByteArray) else (⟨#[100, 101, 110, 121]⟩ : ByteArray), digB c.n, (⟨#[123]⟩ : ByteArray)] = wd ++ digB c.n ++ (⟨#[32, 123, 10]⟩ : ByteArray) := by
    rw [← hwd]
    simp only [lineB, joinOf, joinT, asA, emA]
    split <;> rfl
  have d1 := rnum_spec c.n hc.n0 (by have := hc.n1; omega)
  have z1 := digB_size c.n (by have := hc.n1; omega)
  obtain ⟨a0, h0⟩ : ∃ a, wd ++ digB c.n ++ (⟨#[32, 123, 10]⟩ : ByteArray) = a := ⟨_, rfl⟩
  have y0 : a0.size ≤ 100 := by rw [← h0]; simp only [szA, show ((⟨#[32, 123, 10]⟩ : ByteArray)).size = 3 from rfl]; omega
  have ye : ((⟨#[59, 10]⟩ : ByteArray)).size = 2 := rfl
  refine PCall_q [.tmp 2] 134 Tryz.func41 (by rfl) rfl rfl rfl rfl ?_
  repeat' first |((fail_if_success (first|show W _ _ (Code.seq (Code.region 2 _ _) _) _ _ _|show W _ _ (Code.seq (Code.seq (Code.region 2 _ _) _) _) _ _ _));refine s1 ?_)|refine gS ?_|refine wT rfl ?_|refine wF rfl ?_|refine wt rfl ?_|refine wf rfl ?_|(refine wC rfl (fun h=>?_) (fun h=>?_)<;>(try contradiction))|((fail_if_success (first|show W _ _ (Code.region 2 _ _) _ _ _));(first|refine rd ?_|refine ry [] c0 fun nu _ _=>?_);simp -dsimp (disch:=omega) only[go_sem])|refine e0 (by decide) ?_|(refine And.intro ?_ ?_;omega)|refine And.intro (of_eq_true PutAt_put) ?_|refine gT ?_|refine gF ?_|(refine gI (fun h=>?_) (fun h=>?_)<;>(try contradiction)<;>(try refine rd ?_)<;>(try simp -dsimp (disch:=omega) only[go_sem,h]))|refine Exists.intro _ (Exists.intro _ (And.intro (And.intro rfl rfl) ?_)) |fail
  refine W_mid [(1, .ip (eCls c) 0), (3, .str wd)] σ ?_ ?_
  · skip
    repeat' first |refine s1 ?_|refine gS ?_|refine wT rfl ?_|refine wF rfl ?_|refine wt rfl ?_|refine wf rfl ?_|(refine wC rfl (fun h=>?_) (fun h=>?_)<;>(try contradiction))|((first|refine rd ?_|refine ry [] c0 fun nu _ _=>?_);simp -dsimp (disch:=omega) only[go_sem])|refine e0 (by decide) ?_|(refine And.intro ?_ ?_;omega)|refine And.intro (of_eq_true PutAt_put) ?_|refine gT ?_|refine gF ?_|(refine gI (fun h=>?_) (fun h=>?_)<;>(try contradiction)<;>(try refine rd ?_)<;>(try simp -dsimp (disch:=omega) only[go_sem,h]))|refine Exists.intro _ (Exists.intro _ (And.intro (And.intro rfl rfl) ?_)) |fail
    · exact ⟨Env.Sub_of_has (by simp [Env.Has, Env.get, eCls, ← hwd, h]), Store.Sub.refl _⟩
    · exact ⟨Env.Sub_of_has (by simp [Env.Has, Env.get, eCls, ← hwd, h]), Store.Sub.refl _⟩
  have yc : ((⟨#[32, 123, 10]⟩ : ByteArray)).size = 3 := rfl
  repeat' first |((fail_if_success (first|show W _ _ (Code.seq (Code.region 5 _ _) _) _ _ _|show W _ _ (Code.seq (Code.seq (Code.region 5 _ _) _) _) _ _ _));refine s1 ?_)|refine gS ?_|refine wT rfl ?_|refine wF rfl ?_|refine wt rfl ?_|refine wf rfl ?_|(refine wC rfl (fun h=>?_) (fun h=>?_)<;>(try contradiction))|((fail_if_success (first|show W _ _ (Code.region 5 _ _) _ _ _));(first|refine rd ?_|refine ry [] c0 fun nu _ _=>?_);simp -dsimp (disch:=omega) only[go_sem,szA, yc, h0])|refine e0 (by decide) ?_|(refine And.intro ?_ ?_;omega)|refine And.intro (of_eq_true PutAt_put) ?_|refine gT ?_|refine gF ?_|(refine gI (fun h=>?_) (fun h=>?_)<;>(try contradiction)<;>(try refine rd ?_)<;>(try simp -dsimp (disch:=omega) only[go_sem,h,szA, yc, h0]))|refine Exists.intro _ (Exists.intro _ (And.intro (And.intro rfl rfl) ?_)) |refine us (d1) ?_ |fail
  obtain ⟨a1, e_1⟩ : ∃ a, a0 ++ someB (!decide (c.m.list = ⟨#[]⟩)) [(⟨#[109, 97, 116, 99, 104, 32, 112, 114, 101, 102, 105, 120]⟩ : ByteArray), c.m.list] = a := ⟨_, rfl⟩
  have y1 : a1.size ≤ a0.size + 200000 := by
    rw [← e_1, szA]
    have := some_size (!decide (c.m.list = ⟨#[]⟩)) [(⟨#[109, 97, 116, 99, 104, 32, 112, 114, 101, 102, 105, 120]⟩ : ByteArray), c.m.list] (by simp) (words2 (by decide) (by have := hc.list; omega))
    omega
  refine W_mid [(1, .ip (eCls c) 0), (3, .str a1)] σ ?_ ?_
  · have yp : ((⟨#[32, 32, 109, 97, 116, 99, 104, 32, 112, 114, 101, 102, 105, 120, 32]⟩ : ByteArray)).size = 15 := rfl
    by_cases hq : ¬ c.m.list = ⟨#[]⟩
    · have hB : (!decide (c.m.list = ⟨#[]⟩)) = true := by rw [decide_eq_false hq]; rfl
      rw [hB, some_two (p := (⟨#[32, 32, 109, 97, 116, 99, 104, 32, 112, 114, 101, 102, 105, 120, 32]⟩ : ByteArray)) _ rfl] at e_1
      simp only [← asA] at e_1
      have hz := hc.list
      repeat' first |refine s1 ?_|refine gS ?_|refine wT rfl ?_|refine wF rfl ?_|refine wt rfl ?_|refine wf rfl ?_|(refine wC rfl (fun h=>?_) (fun h=>?_)<;>(try contradiction))|((first|refine rd ?_|refine ry [] c0 fun nu _ _=>?_);simp -dsimp (disch:=omega) only[go_sem,hq, szA, ye, yp, e_1])|refine e0 (by decide) ?_|(refine And.intro ?_ ?_;omega)|refine And.intro (of_eq_true PutAt_put) ?_|refine gT ?_|refine gF ?_|(refine gI (fun h=>?_) (fun h=>?_)<;>(try contradiction)<;>(try refine rd ?_)<;>(try simp -dsimp (disch:=omega) only[go_sem,h,hq, szA, ye, yp, e_1]))|refine Exists.intro _ (Exists.intro _ (And.intro (And.intro rfl rfl) ?_)) |fail
      exact ⟨Env.Sub_of_has (by simp [Env.Has, Env.get, eCls]), Store.Sub.refl _⟩
    · have hB : (!decide (c.m.list = ⟨#[]⟩)) = false := by rw [decide_eq_true (Decidable.not_not.1 hq)]; rfl
      rw [hB, some_no, emA] at e_1
      repeat' first |refine s1 ?_|refine gS ?_|refine wT rfl ?_|refine wF rfl ?_|refine wt rfl ?_|refine wf rfl ?_|(refine wC rfl (fun h=>?_) (fun h=>?_)<;>(try contradiction))|((first|refine rd ?_|refine ry [] c0 fun nu _ _=>?_);simp -dsimp (disch:=omega) only[go_sem,Decidable.not_not.1 hq])|refine e0 (by decide) ?_|(refine And.intro ?_ ?_;omega)|refine And.intro (of_eq_true PutAt_put) ?_|refine gT ?_|refine gF ?_|(refine gI (fun h=>?_) (fun h=>?_)<;>(try contradiction)<;>(try refine rd ?_)<;>(try simp -dsimp (disch:=omega) only[go_sem,h,Decidable.not_not.1 hq]))|refine Exists.intro _ (Exists.intro _ (And.intro (And.intro rfl rfl) ?_)) |fail
      exact ⟨Env.Sub_of_has (by simp [Env.Has, Env.get, eCls, e_1, Decidable.not_not.1 hq]), Store.Sub.refl _⟩
  repeat' first |((fail_if_success (first|show W _ _ (Code.seq (Code.region 7 _ _) _) _ _ _|show W _ _ (Code.seq (Code.seq (Code.region 7 _ _) _) _) _ _ _));refine s1 ?_)|refine gS ?_|refine wT rfl ?_|refine wF rfl ?_|refine wt rfl ?_|refine wf rfl ?_|(refine wC rfl (fun h=>?_) (fun h=>?_)<;>(try contradiction))|((fail_if_success (first|show W _ _ (Code.region 7 _ _) _ _ _));(first|refine rd ?_|refine ry [] c0 fun nu _ _=>?_);simp -dsimp (disch:=omega) only[go_sem])|refine e0 (by decide) ?_|(refine And.intro ?_ ?_;omega)|refine And.intro (of_eq_true PutAt_put) ?_|refine gT ?_|refine gF ?_|(refine gI (fun h=>?_) (fun h=>?_)<;>(try contradiction)<;>(try refine rd ?_)<;>(try simp -dsimp (disch:=omega) only[go_sem,h]))|refine Exists.intro _ (Exists.intro _ (And.intro (And.intro rfl rfl) ?_)) |fail
  obtain ⟨a2, e_2⟩ : ∃ a, a1 ++ someB (!decide (c.m.path = ⟨#[]⟩)) [(⟨#[109, 97, 116, 99, 104, 32, 112, 97, 116, 104]⟩ : ByteArray), quoted c.m.path] = a := ⟨_, rfl⟩
  have y2 : a2.size ≤ a1.size + 200000 := by
    rw [← e_2, szA]
    have := some_size (!decide (c.m.path = ⟨#[]⟩)) [(⟨#[109, 97, 116, 99, 104, 32, 112, 97, 116, 104]⟩ : ByteArray), quoted c.m.path] (by simp) (words2 (by decide) (by rw [quoted, szA, szA, show ((⟨#[34]⟩ : ByteArray)).size = 1 from rfl]; have := hc.path; omega))
    omega
  refine W_mid [(1, .ip (eCls c) 0), (3, .str a2)] σ ?_ ?_
  · have yp : ((⟨#[32, 32, 109, 97, 116, 99, 104, 32, 112, 97, 116, 104, 32, 34]⟩ : ByteArray)).size = 14 := rfl
    by_cases hq : ¬ c.m.path = ⟨#[]⟩
    · have hB : (!decide (c.m.path = ⟨#[]⟩)) = true := by rw [decide_eq_false hq]; rfl
      rw [hB, show someB true [(⟨#[109, 97, 116, 99, 104, 32, 112, 97, 116, 104]⟩ : ByteArray), quoted c.m.path] = (⟨#[32, 32, 109, 97, 116, 99, 104, 32, 112, 97, 116, 104, 32, 34]⟩ : ByteArray) ++ c.m.path ++ (⟨#[34, 59, 10]⟩ : ByteArray) from by rw [some_two (p := (⟨#[32, 32, 109, 97, 116, 99, 104, 32, 112, 97, 116, 104, 32]⟩ : ByteArray)) _ rfl, quoted]; simp only [asA]; rfl] at e_2
      simp only [← asA] at e_2
      have hz := hc.path
      have yq : ((⟨#[34, 59, 10]⟩ : ByteArray)).size = 3 := rfl
      repeat' first |refine s1 ?_|refine gS ?_|refine wT rfl ?_|refine wF rfl ?_|refine wt rfl ?_|refine wf rfl ?_|(refine wC rfl (fun h=>?_) (fun h=>?_)<;>(try contradiction))|((first|refine rd ?_|refine ry [] c0 fun nu _ _=>?_);simp -dsimp (disch:=omega) only[go_sem,hq, szA, ye, yp, e_2, yq])|refine e0 (by decide) ?_|(refine And.intro ?_ ?_;omega)|refine And.intro (of_eq_true PutAt_put) ?_|refine gT ?_|refine gF ?_|(refine gI (fun h=>?_) (fun h=>?_)<;>(try contradiction)<;>(try refine rd ?_)<;>(try simp -dsimp (disch:=omega) only[go_sem,h,hq, szA, ye, yp, e_2, yq]))|refine Exists.intro _ (Exists.intro _ (And.intro (And.intro rfl rfl) ?_)) |fail
      exact ⟨Env.Sub_of_has (by simp [Env.Has, Env.get, eCls]), Store.Sub.refl _⟩
    · have hB : (!decide (c.m.path = ⟨#[]⟩)) = false := by rw [decide_eq_true (Decidable.not_not.1 hq)]; rfl
      rw [hB, some_no, emA] at e_2
      repeat' first |refine s1 ?_|refine gS ?_|refine wT rfl ?_|refine wF rfl ?_|refine wt rfl ?_|refine wf rfl ?_|(refine wC rfl (fun h=>?_) (fun h=>?_)<;>(try contradiction))|((first|refine rd ?_|refine ry [] c0 fun nu _ _=>?_);simp -dsimp (disch:=omega) only[go_sem,Decidable.not_not.1 hq])|refine e0 (by decide) ?_|(refine And.intro ?_ ?_;omega)|refine And.intro (of_eq_true PutAt_put) ?_|refine gT ?_|refine gF ?_|(refine gI (fun h=>?_) (fun h=>?_)<;>(try contradiction)<;>(try refine rd ?_)<;>(try simp -dsimp (disch:=omega) only[go_sem,h,Decidable.not_not.1 hq]))|refine Exists.intro _ (Exists.intro _ (And.intro (And.intro rfl rfl) ?_)) |fail
      exact ⟨Env.Sub_of_has (by simp [Env.Has, Env.get, eCls, e_2, Decidable.not_not.1 hq]), Store.Sub.refl _⟩
  repeat' first |((fail_if_success (first|show W _ _ (Code.seq (Code.region 9 _ _) _) _ _ _|show W _ _ (Code.seq (Code.seq (Code.region 9 _ _) _) _) _ _ _));refine s1 ?_)|refine gS ?_|refine wT rfl ?_|refine wF rfl ?_|refine wt rfl ?_|refine wf rfl ?_|(refine wC rfl (fun h=>?_) (fun h=>?_)<;>(try contradiction))|((fail_if_success (first|show W _ _ (Code.region 9 _ _) _ _ _));(first|refine rd ?_|refine ry [] c0 fun nu _ _=>?_);simp -dsimp (disch:=omega) only[go_sem])|refine e0 (by decide) ?_|(refine And.intro ?_ ?_;omega)|refine And.intro (of_eq_true PutAt_put) ?_|refine gT ?_|refine gF ?_|(refine gI (fun h=>?_) (fun h=>?_)<;>(try contradiction)<;>(try refine rd ?_)<;>(try simp -dsimp (disch:=omega) only[go_sem,h]))|refine Exists.intro _ (Exists.intro _ (And.intro (And.intro rfl rfl) ?_)) |fail
  obtain ⟨a3, e_3⟩ : ∃ a, a2 ++ someB (!(decide (c.m.c.asn = 0) && decide (c.m.c.n = 0))) [(⟨#[109, 97, 116, 99, 104, 32, 99, 111, 109, 109, 117, 110, 105, 116, 121]⟩ : ByteArray), comText c.m.c] = a := ⟨_, rfl⟩
  have y3 : a3.size ≤ a2.size + 200000 := by
    rw [← e_3, szA]
    have := some_size (!(decide (c.m.c.asn = 0) && decide (c.m.c.n = 0))) [(⟨#[109, 97, 116, 99, 104, 32, 99, 111, 109, 109, 117, 110, 105, 116, 121]⟩ : ByteArray), comText c.m.c] (by simp) (words2 (by decide) (by have := comText_size c.m.c; omega))
    omega
  refine W_mid [(1, .ip (eCls c) 0), (3, .str a3)] σ ?_ ?_
  · have yp : ((⟨#[32, 32, 109, 97, 116, 99, 104, 32, 99, 111, 109, 109, 117, 110, 105, 116, 121]⟩ : ByteArray)).size = 17 := rfl
    by_cases hq : ¬ c.m.c.asn = 0
    · have hB : (!(decide (c.m.c.asn = 0) && decide (c.m.c.n = 0))) = true := by rw [decide_eq_false hq]; rfl
      rw [hB, some_bl (p := (⟨#[32, 32, 109, 97, 116, 99, 104, 32, 99, 111, 109, 109, 117, 110, 105, 116, 121]⟩ : ByteArray)) _ rfl rfl] at e_3
      simp only [← asA] at e_3
      have dc := rcommText_spec .full [c.m.c] (by simp)
      have zc := comText_size c.m.c
      have yb : blk.size = 1 := rfl
      simp only [List.map_cons, List.map_nil, catB, emA] at dc
      simp only [asA] at e_3
      simp only [← asA] at e_3
      have e_3b : a2 ++ (⟨#[32, 32, 109, 97, 116, 99, 104, 32, 99, 111, 109, 109, 117, 110, 105, 116, 121]⟩ : ByteArray) ++ (blk ++ comText c.m.c) ++ (⟨#[59, 10]⟩ : ByteArray) = a3 := by rw [← e_3]; simp only [asA]
      repeat' first |refine s1 ?_|refine gS ?_|refine wT rfl ?_|refine wF rfl ?_|refine wt rfl ?_|refine wf rfl ?_|(refine wC rfl (fun h=>?_) (fun h=>?_)<;>(try contradiction))|((first|refine rd ?_|refine ry [] c0 fun nu _ _=>?_);simp -dsimp (disch:=omega) only[go_sem,hq, szA, ye, yp, e_3, yb, e_3b])|refine e0 (by decide) ?_|(refine And.intro ?_ ?_;omega)|refine And.intro (of_eq_true PutAt_put) ?_|refine gT ?_|refine gF ?_|(refine gI (fun h=>?_) (fun h=>?_)<;>(try contradiction)<;>(try refine rd ?_)<;>(try simp -dsimp (disch:=omega) only[go_sem,h,hq, szA, ye, yp, e_3, yb, e_3b]))|refine Exists.intro _ (Exists.intro _ (And.intro (And.intro rfl rfl) ?_)) |refine us (dc) ?_ |fail
      exact ⟨Env.Sub_of_has (by simp [Env.Has, Env.get, eCls]), Store.Sub.refl _⟩
    · have hB : (!(decide (c.m.c.asn = 0) && decide (c.m.c.n = 0))) = false := by
        have q := Decidable.not_not.1 hq
        rcases hcom with q2 | q2
        · rw [decide_eq_true q2.1, decide_eq_true q2.2]; rfl
        · rw [comMay_iff] at q2; omega
      rw [hB, some_no, emA] at e_3
      repeat' first |refine s1 ?_|refine gS ?_|refine wT rfl ?_|refine wF rfl ?_|refine wt rfl ?_|refine wf rfl ?_|(refine wC rfl (fun h=>?_) (fun h=>?_)<;>(try contradiction))|((first|refine rd ?_|refine ry [] c0 fun nu _ _=>?_);simp -dsimp (disch:=omega) only[go_sem,Decidable.not_not.1 hq])|refine e0 (by decide) ?_|(refine And.intro ?_ ?_;omega)|refine And.intro (of_eq_true PutAt_put) ?_|refine gT ?_|refine gF ?_|(refine gI (fun h=>?_) (fun h=>?_)<;>(try contradiction)<;>(try refine rd ?_)<;>(try simp -dsimp (disch:=omega) only[go_sem,h,Decidable.not_not.1 hq]))|refine Exists.intro _ (Exists.intro _ (And.intro (And.intro rfl rfl) ?_)) |fail
      exact ⟨Env.Sub_of_has (by simp [Env.Has, Env.get, eCls, e_3, Decidable.not_not.1 hq]), Store.Sub.refl _⟩
  repeat' first |((fail_if_success (first|show W _ _ (Code.seq (Code.region 11 _ _) _) _ _ _|show W _ _ (Code.seq (Code.seq (Code.region 11 _ _) _) _) _ _ _));refine s1 ?_)|refine gS ?_|refine wT rfl ?_|refine wF rfl ?_|refine wt rfl ?_|refine wf rfl ?_|(refine wC rfl (fun h=>?_) (fun h=>?_)<;>(try contradiction))|((fail_if_success (first|show W _ _ (Code.region 11 _ _) _ _ _));(first|refine rd ?_|refine ry [] c0 fun nu _ _=>?_);simp -dsimp (disch:=omega) only[go_sem])|refine e0 (by decide) ?_|(refine And.intro ?_ ?_;omega)|refine And.intro (of_eq_true PutAt_put) ?_|refine gT ?_|refine gF ?_|(refine gI (fun h=>?_) (fun h=>?_)<;>(try contradiction)<;>(try refine rd ?_)<;>(try simp -dsimp (disch:=omega) only[go_sem,h]))|refine Exists.intro _ (Exists.intro _ (And.intro (And.intro rfl rfl) ?_)) |fail
  obtain ⟨a4, e_4⟩ : ∃ a, a3 ++ someB (decide ((0 : Int) ≤ c.s.pref)) [(⟨#[115, 101, 116, 32, 112, 114, 101, 102]⟩ : ByteArray), digB (max0 c.s.pref)] = a := ⟨_, rfl⟩
  have y4 : a4.size ≤ a3.size + 200000 := by
    rw [← e_4, szA]
    have := some_size (decide ((0 : Int) ≤ c.s.pref)) [(⟨#[115, 101, 116, 32, 112, 114, 101, 102]⟩ : ByteArray), digB (max0 c.s.pref)] (by simp) (words2 (by decide) (by have := digB_size (max0 c.s.pref) (by have := max0_ok hc.pref; omega); omega))
    omega
  refine W_mid [(1, .ip (eCls c) 0), (3, .str a4)] σ ?_ ?_
  · have yp : ((⟨#[32, 32, 115, 101, 116, 32, 112, 114, 101, 102, 32]⟩ : ByteArray)).size = 11 := rfl
    by_cases hq : (0 : Int) ≤ c.s.pref
    · have hB : (decide ((0 : Int) ≤ c.s.pref)) = true := decide_eq_true hq
      rw [hB, some_two (p := (⟨#[32, 32, 115, 101, 116, 32, 112, 114, 101, 102, 32]⟩ : ByteArray)) _ rfl, show max0 c.s.pref = c.s.pref from if_neg (by omega)] at e_4
      simp only [← asA] at e_4
      have hb := hc.pref
      have dc := rnum_spec c.s.pref hq (by omega)
      have zc := digB_size c.s.pref (by omega)
      repeat' first |refine s1 ?_|refine gS ?_|refine wT rfl ?_|refine wF rfl ?_|refine wt rfl ?_|refine wf rfl ?_|(refine wC rfl (fun h=>?_) (fun h=>?_)<;>(try contradiction))|((first|refine rd ?_|refine ry [] c0 fun nu _ _=>?_);simp -dsimp (disch:=omega) only[go_sem,szA, ye, yp, e_4])|refine e0 (by decide) ?_|(refine And.intro ?_ ?_;omega)|refine And.intro (of_eq_true PutAt_put) ?_|refine gT ?_|refine gF ?_|(refine gI (fun h=>?_) (fun h=>?_)<;>(try contradiction)<;>(try refine rd ?_)<;>(try simp -dsimp (disch:=omega) only[go_sem,h,szA, ye, yp, e_4]))|refine Exists.intro _ (Exists.intro _ (And.intro (And.intro rfl rfl) ?_)) |refine us (dc) ?_ |fail
      exact ⟨Env.Sub_of_has (by simp [Env.Has, Env.get, eCls]), Store.Sub.refl _⟩
    · have hB : (decide ((0 : Int) ≤ c.s.pref)) = false := decide_eq_false hq
      rw [hB, some_no, emA] at e_4
      repeat' first |refine s1 ?_|refine gS ?_|refine wT rfl ?_|refine wF rfl ?_|refine wt rfl ?_|refine wf rfl ?_|(refine wC rfl (fun h=>?_) (fun h=>?_)<;>(try contradiction))|((first|refine rd ?_|refine ry [] c0 fun nu _ _=>?_);simp -dsimp (disch:=omega) only[go_sem,hq])|refine e0 (by decide) ?_|(refine And.intro ?_ ?_;omega)|refine And.intro (of_eq_true PutAt_put) ?_|refine gT ?_|refine gF ?_|(refine gI (fun h=>?_) (fun h=>?_)<;>(try contradiction)<;>(try refine rd ?_)<;>(try simp -dsimp (disch:=omega) only[go_sem,h,hq]))|refine Exists.intro _ (Exists.intro _ (And.intro (And.intro rfl rfl) ?_)) |fail
      exact ⟨Env.Sub_of_has (by simp [Env.Has, Env.get, eCls, e_4, hq]), Store.Sub.refl _⟩
  repeat' first |((fail_if_success (first|show W _ _ (Code.seq (Code.region 13 _ _) _) _ _ _|show W _ _ (Code.seq (Code.seq (Code.region 13 _ _) _) _) _ _ _));refine s1 ?_)|refine gS ?_|refine wT rfl ?_|refine wF rfl ?_|refine wt rfl ?_|refine wf rfl ?_|(refine wC rfl (fun h=>?_) (fun h=>?_)<;>(try contradiction))|((fail_if_success (first|show W _ _ (Code.region 13 _ _) _ _ _));(first|refine rd ?_|refine ry [] c0 fun nu _ _=>?_);simp -dsimp (disch:=omega) only[go_sem])|refine e0 (by decide) ?_|(refine And.intro ?_ ?_;omega)|refine And.intro (of_eq_true PutAt_put) ?_|refine gT ?_|refine gF ?_|(refine gI (fun h=>?_) (fun h=>?_)<;>(try contradiction)<;>(try refine rd ?_)<;>(try simp -dsimp (disch:=omega) only[go_sem,h]))|refine Exists.intro _ (Exists.intro _ (And.intro (And.intro rfl rfl) ?_)) |fail
  obtain ⟨a5, e_5⟩ : ∃ a, a4 ++ someB (decide ((0 : Int) ≤ c.s.med)) [(⟨#[115, 101, 116, 32, 109, 101, 100]⟩ : ByteArray), digB (max0 c.s.med)] = a := ⟨_, rfl⟩
  have y5 : a5.size ≤ a4.size + 200000 := by
    rw [← e_5, szA]
    have := some_size (decide ((0 : Int) ≤ c.s.med)) [(⟨#[115, 101, 116, 32, 109, 101, 100]⟩ : ByteArray), digB (max0 c.s.med)] (by simp) (words2 (by decide) (by have := digB_size (max0 c.s.med) (by have := max0_ok hc.med; omega); omega))
    omega
  refine W_mid [(1, .ip (eCls c) 0), (3, .str a5)] σ ?_ ?_
  · have yp : ((⟨#[32, 32, 115, 101, 116, 32, 109, 101, 100, 32]⟩ : ByteArray)).size = 10 := rfl
    by_cases hq : (0 : Int) ≤ c.s.med
    · have hB : (decide ((0 : Int) ≤ c.s.med)) = true := decide_eq_true hq
      rw [hB, some_two (p := (⟨#[32, 32, 115, 101, 116, 32, 109, 101, 100, 32]⟩ : ByteArray)) _ rfl, show max0 c.s.med = c.s.med from if_neg (by omega)] at e_5
      simp only [← asA] at e_5
      have hb := hc.med
      have dc := rnum_spec c.s.med hq (by omega)
      have zc := digB_size c.s.med (by omega)
      repeat' first |refine s1 ?_|refine gS ?_|refine wT rfl ?_|refine wF rfl ?_|refine wt rfl ?_|refine wf rfl ?_|(refine wC rfl (fun h=>?_) (fun h=>?_)<;>(try contradiction))|((first|refine rd ?_|refine ry [] c0 fun nu _ _=>?_);simp -dsimp (disch:=omega) only[go_sem,szA, ye, yp, e_5])|refine e0 (by decide) ?_|(refine And.intro ?_ ?_;omega)|refine And.intro (of_eq_true PutAt_put) ?_|refine gT ?_|refine gF ?_|(refine gI (fun h=>?_) (fun h=>?_)<;>(try contradiction)<;>(try refine rd ?_)<;>(try simp -dsimp (disch:=omega) only[go_sem,h,szA, ye, yp, e_5]))|refine Exists.intro _ (Exists.intro _ (And.intro (And.intro rfl rfl) ?_)) |refine us (dc) ?_ |fail
      exact ⟨Env.Sub_of_has (by simp [Env.Has, Env.get, eCls]), Store.Sub.refl _⟩
    · have hB : (decide ((0 : Int) ≤ c.s.med)) = false := decide_eq_false hq
      rw [hB, some_no, emA] at e_5
      repeat' first |refine s1 ?_|refine gS ?_|refine wT rfl ?_|refine wF rfl ?_|refine wt rfl ?_|refine wf rfl ?_|(refine wC rfl (fun h=>?_) (fun h=>?_)<;>(try contradiction))|((first|refine rd ?_|refine ry [] c0 fun nu _ _=>?_);simp -dsimp (disch:=omega) only[go_sem,hq])|refine e0 (by decide) ?_|(refine And.intro ?_ ?_;omega)|refine And.intro (of_eq_true PutAt_put) ?_|refine gT ?_|refine gF ?_|(refine gI (fun h=>?_) (fun h=>?_)<;>(try contradiction)<;>(try refine rd ?_)<;>(try simp -dsimp (disch:=omega) only[go_sem,h,hq]))|refine Exists.intro _ (Exists.intro _ (And.intro (And.intro rfl rfl) ?_)) |fail
      exact ⟨Env.Sub_of_has (by simp [Env.Has, Env.get, eCls, e_5, hq]), Store.Sub.refl _⟩
  repeat' first |((fail_if_success (first|show W _ _ (Code.seq (Code.region 15 _ _) _) _ _ _|show W _ _ (Code.seq (Code.seq (Code.region 15 _ _) _) _) _ _ _));refine s1 ?_)|refine gS ?_|refine wT rfl ?_|refine wF rfl ?_|refine wt rfl ?_|refine wf rfl ?_|(refine wC rfl (fun h=>?_) (fun h=>?_)<;>(try contradiction))|((fail_if_success (first|show W _ _ (Code.region 15 _ _) _ _ _));(first|refine rd ?_|refine ry [] c0 fun nu _ _=>?_);simp -dsimp (disch:=omega) only[go_sem])|refine e0 (by decide) ?_|(refine And.intro ?_ ?_;omega)|refine And.intro (of_eq_true PutAt_put) ?_|refine gT ?_|refine gF ?_|(refine gI (fun h=>?_) (fun h=>?_)<;>(try contradiction)<;>(try refine rd ?_)<;>(try simp -dsimp (disch:=omega) only[go_sem,h]))|refine Exists.intro _ (Exists.intro _ (And.intro (And.intro rfl rfl) ?_)) |fail
  obtain ⟨a6, e_6⟩ : ∃ a, a5 ++ someB (decide ((0 : Int) ≤ c.s.origin)) [(⟨#[115, 101, 116, 32, 111, 114, 105, 103, 105, 110]⟩ : ByteArray), origin (max0 c.s.origin)] = a := ⟨_, rfl⟩
  have y6 : a6.size ≤ a5.size + 200000 := by
    rw [← e_6, szA]
    have := some_size (decide ((0 : Int) ≤ c.s.origin)) [(⟨#[115, 101, 116, 32, 111, 114, 105, 103, 105, 110]⟩ : ByteArray), origin (max0 c.s.origin)] (by simp) (words2 (by decide) (by have : (origin (max0 c.s.origin)).size ≤ 4 := (by unfold origin; split; exact (by decide); split <;> decide); omega))
    omega
  refine W_mid [(1, .ip (eCls c) 0), (3, .str a6)] σ ?_ ?_
  · have yp : ((⟨#[32, 32, 115, 101, 116, 32, 111, 114, 105, 103, 105, 110, 32]⟩ : ByteArray)).size = 13 := rfl
    by_cases hq : (0 : Int) ≤ c.s.origin
    · have hB : (decide ((0 : Int) ≤ c.s.origin)) = true := decide_eq_true hq
      rw [hB, some_two (p := (⟨#[32, 32, 115, 101, 116, 32, 111, 114, 105, 103, 105, 110, 32]⟩ : ByteArray)) _ rfl, show max0 c.s.origin = c.s.origin from if_neg (by omega)] at e_6
      simp only [← asA] at e_6
      have hb := hc.origin
      have zc : (origin c.s.origin).size ≤ 4 := by unfold origin; split; exact (by decide); split <;> decide
      have hori : [AV.str (⟨#[105, 103, 112]⟩ : ByteArray), AV.str (⟨#[101, 103, 112]⟩ : ByteArray), AV.str (⟨#[110, 111, 110, 101]⟩ : ByteArray)].getD c.s.origin.toNat .any = .str (origin c.s.origin) := by
        obtain ⟨k, hk⟩ : ∃ k, c.s.origin = k := ⟨_, rfl⟩
        rw [hk] at hb hq ⊢
        obtain rfl | rfl | rfl : k = 0 ∨ k = 1 ∨ k = 2 := by omega
        · rfl
        · rfl
        · rfl
      repeat' first |refine s1 ?_|refine gS ?_|refine wT rfl ?_|refine wF rfl ?_|refine wt rfl ?_|refine wf rfl ?_|(refine wC rfl (fun h=>?_) (fun h=>?_)<;>(try contradiction))|((first|refine rd ?_|refine ry [] c0 fun nu _ _=>?_);simp -dsimp (disch:=omega) only[go_sem,szA, ye, yp, e_6, hori])|refine e0 (by decide) ?_|(refine And.intro ?_ ?_;omega)|refine And.intro (of_eq_true PutAt_put) ?_|refine gT ?_|refine gF ?_|(refine gI (fun h=>?_) (fun h=>?_)<;>(try contradiction)<;>(try refine rd ?_)<;>(try simp -dsimp (disch:=omega) only[go_sem,h,szA, ye, yp, e_6, hori]))|refine Exists.intro _ (Exists.intro _ (And.intro (And.intro rfl rfl) ?_)) |fail
      exact ⟨Env.Sub_of_has (by simp [Env.Has, Env.get, eCls]), Store.Sub.refl _⟩
    · have hB : (decide ((0 : Int) ≤ c.s.origin)) = false := decide_eq_false hq
      rw [hB, some_no, emA] at e_6
      repeat' first |refine s1 ?_|refine gS ?_|refine wT rfl ?_|refine wF rfl ?_|refine wt rfl ?_|refine wf rfl ?_|(refine wC rfl (fun h=>?_) (fun h=>?_)<;>(try contradiction))|((first|refine rd ?_|refine ry [] c0 fun nu _ _=>?_);simp -dsimp (disch:=omega) only[go_sem,hq])|refine e0 (by decide) ?_|(refine And.intro ?_ ?_;omega)|refine And.intro (of_eq_true PutAt_put) ?_|refine gT ?_|refine gF ?_|(refine gI (fun h=>?_) (fun h=>?_)<;>(try contradiction)<;>(try refine rd ?_)<;>(try simp -dsimp (disch:=omega) only[go_sem,h,hq]))|refine Exists.intro _ (Exists.intro _ (And.intro (And.intro rfl rfl) ?_)) |fail
      exact ⟨Env.Sub_of_has (by simp [Env.Has, Env.get, eCls, e_6, hq]), Store.Sub.refl _⟩
  repeat' first |((fail_if_success (first|show W _ _ (Code.seq (Code.region 18 _ _) _) _ _ _|show W _ _ (Code.seq (Code.seq (Code.region 18 _ _) _) _) _ _ _));refine s1 ?_)|refine gS ?_|refine wT rfl ?_|refine wF rfl ?_|refine wt rfl ?_|refine wf rfl ?_|(refine wC rfl (fun h=>?_) (fun h=>?_)<;>(try contradiction))|((fail_if_success (first|show W _ _ (Code.region 18 _ _) _ _ _));(first|refine rd ?_|refine ry [] c0 fun nu _ _=>?_);simp -dsimp (disch:=omega) only[go_sem])|refine e0 (by decide) ?_|(refine And.intro ?_ ?_;omega)|refine And.intro (of_eq_true PutAt_put) ?_|refine gT ?_|refine gF ?_|(refine gI (fun h=>?_) (fun h=>?_)<;>(try contradiction)<;>(try refine rd ?_)<;>(try simp -dsimp (disch:=omega) only[go_sem,h]))|refine Exists.intro _ (Exists.intro _ (And.intro (And.intro rfl rfl) ?_)) |fail
  obtain ⟨a7, e_7⟩ : ∃ a, a6 ++ someB c.s.clear [(⟨#[115, 101, 116, 32, 99, 111, 109, 109, 117, 110, 105, 116, 121, 32, 99, 108, 101, 97, 114]⟩ : ByteArray)] = a := ⟨_, rfl⟩
  have y7 : a7.size ≤ a6.size + 200000 := by
    rw [← e_7, szA]
    have := some_size c.s.clear [(⟨#[115, 101, 116, 32, 99, 111, 109, 109, 117, 110, 105, 116, 121, 32, 99, 108, 101, 97, 114]⟩ : ByteArray)] (by simp) (words1 (by decide))
    omega
  refine W_mid [(1, .ip (eCls c) 0), (3, .str a7)] σ ?_ ?_
  · have yp : ((⟨#[32, 32, 115, 101, 116, 32, 99, 111, 109, 109, 117, 110, 105, 116, 121, 32, 99, 108, 101, 97, 114, 59, 10]⟩ : ByteArray)).size = 23 := rfl
    rcases Bool.eq_false_or_eq_true c.s.clear with hq | hq
    · rw [hq, show someB true [(⟨#[115, 101, 116, 32, 99, 111, 109, 109, 117, 110, 105, 116, 121, 32, 99, 108, 101, 97, 114]⟩ : ByteArray)] = (⟨#[32, 32, 115, 101, 116, 32, 99, 111, 109, 109, 117, 110, 105, 116, 121, 32, 99, 108, 101, 97, 114, 59, 10]⟩ : ByteArray) from rfl] at e_7
      repeat' first |refine s1 ?_|refine gS ?_|refine wT rfl ?_|refine wF rfl ?_|refine wt rfl ?_|refine wf rfl ?_|(refine wC rfl (fun h=>?_) (fun h=>?_)<;>(try contradiction))|((first|refine rd ?_|refine ry [] c0 fun nu _ _=>?_);simp -dsimp (disch:=omega) only[go_sem,hq, szA, yp, e_7])|refine e0 (by decide) ?_|(refine And.intro ?_ ?_;omega)|refine And.intro (of_eq_true PutAt_put) ?_|refine gT ?_|refine gF ?_|(refine gI (fun h=>?_) (fun h=>?_)<;>(try contradiction)<;>(try refine rd ?_)<;>(try simp -dsimp (disch:=omega) only[go_sem,h,hq, szA, yp, e_7]))|refine Exists.intro _ (Exists.intro _ (And.intro (And.intro rfl rfl) ?_)) |fail
      exact ⟨Env.Sub_of_has (by simp [Env.Has, Env.get, eCls, hq]), Store.Sub.refl _⟩
    · rw [hq, some_no, emA] at e_7
      repeat' first |refine s1 ?_|refine gS ?_|refine wT rfl ?_|refine wF rfl ?_|refine wt rfl ?_|refine wf rfl ?_|(refine wC rfl (fun h=>?_) (fun h=>?_)<;>(try contradiction))|((first|refine rd ?_|refine ry [] c0 fun nu _ _=>?_);simp -dsimp (disch:=omega) only[go_sem,hq])|refine e0 (by decide) ?_|(refine And.intro ?_ ?_;omega)|refine And.intro (of_eq_true PutAt_put) ?_|refine gT ?_|refine gF ?_|(refine gI (fun h=>?_) (fun h=>?_)<;>(try contradiction)<;>(try refine rd ?_)<;>(try simp -dsimp (disch:=omega) only[go_sem,h,hq]))|refine Exists.intro _ (Exists.intro _ (And.intro (And.intro rfl rfl) ?_)) |fail
      exact ⟨Env.Sub_of_has (by simp [Env.Has, Env.get, eCls, e_7, hq]), Store.Sub.refl _⟩
  repeat' first |((fail_if_success (first|show W _ _ (Code.seq (Code.region 20 _ _) _) _ _ _|show W _ _ (Code.seq (Code.seq (Code.region 20 _ _) _) _) _ _ _));refine s1 ?_)|refine gS ?_|refine wT rfl ?_|refine wF rfl ?_|refine wt rfl ?_|refine wf rfl ?_|(refine wC rfl (fun h=>?_) (fun h=>?_)<;>(try contradiction))|((fail_if_success (first|show W _ _ (Code.region 20 _ _) _ _ _));(first|refine rd ?_|refine ry [] c0 fun nu _ _=>?_);simp -dsimp (disch:=omega) only[go_sem])|refine e0 (by decide) ?_|(refine And.intro ?_ ?_;omega)|refine And.intro (of_eq_true PutAt_put) ?_|refine gT ?_|refine gF ?_|(refine gI (fun h=>?_) (fun h=>?_)<;>(try contradiction)<;>(try refine rd ?_)<;>(try simp -dsimp (disch:=omega) only[go_sem,h]))|refine Exists.intro _ (Exists.intro _ (And.intro (And.intro rfl rfl) ?_)) |fail
  obtain ⟨a8, e_8⟩ : ∃ a, a7 ++ someB (decide ((0 : Int) < (c.s.del.length : Int))) [(⟨#[115, 101, 116, 32, 99, 111, 109, 109, 117, 110, 105, 116, 121, 32, 100, 101, 108]⟩ : ByteArray), joinOf blk (c.s.del.map comText)] = a := ⟨_, rfl⟩
  have y8 : a8.size ≤ a7.size + 200000 := by
    rw [← e_8, szA]
    have := some_size (decide ((0 : Int) < (c.s.del.length : Int))) [(⟨#[115, 101, 116, 32, 99, 111, 109, 109, 117, 110, 105, 116, 121, 32, 100, 101, 108]⟩ : ByteArray), joinOf blk (c.s.del.map comText)] (by simp) (words2 (by decide) (by have x := joinOf_map comText 50 blk c.s.del (fun x _ => comText_size x); rw [show blk.size = 1 from rfl] at x; have := hc.del; omega))
    omega
  refine W_mid [(1, .ip (eCls c) 0), (3, .str a8)] σ ?_ ?_
  · have yp : ((⟨#[32, 32, 115, 101, 116, 32, 99, 111, 109, 109, 117, 110, 105, 116, 121, 32, 100, 101, 108]⟩ : ByteArray)).size = 19 := rfl
    by_cases hq : (0 : Int) < (c.s.del.length : Int)
    · have hB : (decide ((0 : Int) < (c.s.del.length : Int))) = true := decide_eq_true hq
      rw [hB, some_bl (p := (⟨#[32, 32, 115, 101, 116, 32, 99, 111, 109, 109, 117, 110, 105, 116, 121, 32, 100, 101, 108]⟩ : ByteArray)) _ rfl (cat_join comText c.s.del (by intro q; rw [q] at hq; simp at hq))] at e_8
      simp only [← asA] at e_8
      have hb := hc.del
      have dc := rcommText_spec c.s.kD c.s.del hc.del
      have zc := catB_map (fun c => blk ++ comText c) 51 c.s.del (fun x _ => by rw [szA, show blk.size = 1 from rfl]; have := comText_size x; omega)
      repeat' first |refine s1 ?_|refine gS ?_|refine wT rfl ?_|refine wF rfl ?_|refine wt rfl ?_|refine wf rfl ?_|(refine wC rfl (fun h=>?_) (fun h=>?_)<;>(try contradiction))|((first|refine rd ?_|refine ry [] c0 fun nu _ _=>?_);simp -dsimp (disch:=omega) only[go_sem,szA, ye, yp, e_8])|refine e0 (by decide) ?_|(refine And.intro ?_ ?_;omega)|refine And.intro (of_eq_true PutAt_put) ?_|refine gT ?_|refine gF ?_|(refine gI (fun h=>?_) (fun h=>?_)<;>(try contradiction)<;>(try refine rd ?_)<;>(try simp -dsimp (disch:=omega) only[go_sem,h,szA, ye, yp, e_8]))|refine Exists.intro _ (Exists.intro _ (And.intro (And.intro rfl rfl) ?_)) |refine us (dc) ?_ |fail
      exact ⟨Env.Sub_of_has (by simp [Env.Has, Env.get, eCls]), Store.Sub.refl _⟩
    · have hB : (decide ((0 : Int) < (c.s.del.length : Int))) = false := decide_eq_false hq
      rw [hB, some_no, emA] at e_8
      repeat' first |refine s1 ?_|refine gS ?_|refine wT rfl ?_|refine wF rfl ?_|refine wt rfl ?_|refine wf rfl ?_|(refine wC rfl (fun h=>?_) (fun h=>?_)<;>(try contradiction))|((first|refine rd ?_|refine ry [] c0 fun nu _ _=>?_);simp -dsimp (disch:=omega) only[go_sem,hq])|refine e0 (by decide) ?_|(refine And.intro ?_ ?_;omega)|refine And.intro (of_eq_true PutAt_put) ?_|refine gT ?_|refine gF ?_|(refine gI (fun h=>?_) (fun h=>?_)<;>(try contradiction)<;>(try refine rd ?_)<;>(try simp -dsimp (disch:=omega) only[go_sem,h,hq]))|refine Exists.intro _ (Exists.intro _ (And.intro (And.intro rfl rfl) ?_)) |fail
      exact ⟨Env.Sub_of_has (by simp [Env.Has, Env.get, eCls, e_8, hq]), Store.Sub.refl _⟩
  repeat' first |((fail_if_success (first|show W _ _ (Code.seq (Code.region 22 _ _) _) _ _ _|show W _ _ (Code.seq (Code.seq (Code.region 22 _ _) _) _) _ _ _));refine s1 ?_)|refine gS ?_|refine wT rfl ?_|refine wF rfl ?_|refine wt rfl ?_|refine wf rfl ?_|(refine wC rfl (fun h=>?_) (fun h=>?_)<;>(try contradiction))|((fail_if_success (first|show W _ _ (Code.region 22 _ _) _ _ _));(first|refine rd ?_|refine ry [] c0 fun nu _ _=>?_);simp -dsimp (disch:=omega) only[go_sem])|refine e0 (by decide) ?_|(refine And.intro ?_ ?_;omega)|refine And.intro (of_eq_true PutAt_put) ?_|refine gT ?_|refine gF ?_|(refine gI (fun h=>?_) (fun h=>?_)<;>(try contradiction)<;>(try refine rd ?_)<;>(try simp -dsimp (disch:=omega) only[go_sem,h]))|refine Exists.intro _ (Exists.intro _ (And.intro (And.intro rfl rfl) ?_)) |fail
  obtain ⟨a9, e_9⟩ : ∃ a, a8 ++ someB (decide ((0 : Int) < (c.s.add.length : Int))) [(⟨#[115, 101, 116, 32, 99, 111, 109, 109, 117, 110, 105, 116, 121, 32, 97, 100, 100]⟩ : ByteArray), joinOf blk (c.s.add.map comText)] = a := ⟨_, rfl⟩
  have y9 : a9.size ≤ a8.size + 200000 := by
    rw [← e_9, szA]
    have := some_size (decide ((0 : Int) < (c.s.add.length : Int))) [(⟨#[115, 101, 116, 32, 99, 111, 109, 109, 117, 110, 105, 116, 121, 32, 97, 100, 100]⟩ : ByteArray), joinOf blk (c.s.add.map comText)] (by simp) (words2 (by decide) (by have x := joinOf_map comText 50 blk c.s.add (fun x _ => comText_size x); rw [show blk.size = 1 from rfl] at x; have := hc.add; omega))
    omega
  refine W_mid [(1, .ip (eCls c) 0), (3, .str a9)] σ ?_ ?_
  · have yp : ((⟨#[32, 32, 115, 101, 116, 32, 99, 111, 109, 109, 117, 110, 105, 116, 121, 32, 97, 100, 100]⟩ : ByteArray)).size = 19 := rfl
    by_cases hq : (0 : Int) < (c.s.add.length : Int)
    · have hB : (decide ((0 : Int) < (c.s.add.length : Int))) = true := decide_eq_true hq
      rw [hB, some_bl (p := (⟨#[32, 32, 115, 101, 116, 32, 99, 111, 109, 109, 117, 110, 105, 116, 121, 32, 97, 100, 100]⟩ : ByteArray)) _ rfl (cat_join comText c.s.add (by intro q; rw [q] at hq; simp at hq))] at e_9
      simp only [← asA] at e_9
      have hb := hc.add
      have dc := rcommText_spec c.s.kA c.s.add hc.add
      have zc := catB_map (fun c => blk ++ comText c) 51 c.s.add (fun x _ => by rw [szA, show blk.size = 1 from rfl]; have := comText_size x; omega)
      repeat' first |refine s1 ?_|refine gS ?_|refine wT rfl ?_|refine wF rfl ?_|refine wt rfl ?_|refine wf rfl ?_|(refine wC rfl (fun h=>?_) (fun h=>?_)<;>(try contradiction))|((first|refine rd ?_|refine ry [] c0 fun nu _ _=>?_);simp -dsimp (disch:=omega) only[go_sem,szA, ye, yp, e_9])|refine e0 (by decide) ?_|(refine And.intro ?_ ?_;omega)|refine And.intro (of_eq_true PutAt_put) ?_|refine gT ?_|refine gF ?_|(refine gI (fun h=>?_) (fun h=>?_)<;>(try contradiction)<;>(try refine rd ?_)<;>(try simp -dsimp (disch:=omega) only[go_sem,h,szA, ye, yp, e_9]))|refine Exists.intro _ (Exists.intro _ (And.intro (And.intro rfl rfl) ?_)) |refine us (dc) ?_ |fail
      exact ⟨Env.Sub_of_has (by simp [Env.Has, Env.get, eCls]), Store.Sub.refl _⟩
    · have hB : (decide ((0 : Int) < (c.s.add.length : Int))) = false := decide_eq_false hq
      rw [hB, some_no, emA] at e_9
      repeat' first |refine s1 ?_|refine gS ?_|refine wT rfl ?_|refine wF rfl ?_|refine wt rfl ?_|refine wf rfl ?_|(refine wC rfl (fun h=>?_) (fun h=>?_)<;>(try contradiction))|((first|refine rd ?_|refine ry [] c0 fun nu _ _=>?_);simp -dsimp (disch:=omega) only[go_sem,hq])|refine e0 (by decide) ?_|(refine And.intro ?_ ?_;omega)|refine And.intro (of_eq_true PutAt_put) ?_|refine gT ?_|refine gF ?_|(refine gI (fun h=>?_) (fun h=>?_)<;>(try contradiction)<;>(try refine rd ?_)<;>(try simp -dsimp (disch:=omega) only[go_sem,h,hq]))|refine Exists.intro _ (Exists.intro _ (And.intro (And.intro rfl rfl) ?_)) |fail
      exact ⟨Env.Sub_of_has (by simp [Env.Has, Env.get, eCls, e_9, hq]), Store.Sub.refl _⟩
  repeat' first |((fail_if_success (first|show W _ _ (Code.seq (Code.region 24 _ _) _) _ _ _|show W _ _ (Code.seq (Code.seq (Code.region 24 _ _) _) _) _ _ _));refine s1 ?_)|refine gS ?_|refine wT rfl ?_|refine wF rfl ?_|refine wt rfl ?_|refine wf rfl ?_|(refine wC rfl (fun h=>?_) (fun h=>?_)<;>(try contradiction))|((fail_if_success (first|show W _ _ (Code.region 24 _ _) _ _ _));(first|refine rd ?_|refine ry [] c0 fun nu _ _=>?_);simp -dsimp (disch:=omega) only[go_sem])|refine e0 (by decide) ?_|(refine And.intro ?_ ?_;omega)|refine And.intro (of_eq_true PutAt_put) ?_|refine gT ?_|refine gF ?_|(refine gI (fun h=>?_) (fun h=>?_)<;>(try contradiction)<;>(try refine rd ?_)<;>(try simp -dsimp (disch:=omega) only[go_sem,h]))|refine Exists.intro _ (Exists.intro _ (And.intro (And.intro rfl rfl) ?_)) |fail
  obtain ⟨a10, e_10⟩ : ∃ a, a9 ++ someB (decide ((0 : Int) < (c.s.pre.length : Int))) [(⟨#[115, 101, 116, 32, 112, 114, 101, 112, 101, 110, 100]⟩ : ByteArray), joinOf blk (c.s.pre.map digB)] = a := ⟨_, rfl⟩
  have y10 : a10.size ≤ a9.size + 200000 := by
    rw [← e_10, szA]
    have := some_size (decide ((0 : Int) < (c.s.pre.length : Int))) [(⟨#[115, 101, 116, 32, 112, 114, 101, 112, 101, 110, 100]⟩ : ByteArray), joinOf blk (c.s.pre.map digB)] (by simp) (words2 (by decide) (by have x := joinOf_map digB 20 blk c.s.pre (fun x hx => digB_size x (by have := hc.each x hx; omega)); rw [show blk.size = 1 from rfl] at x; have := hc.pre; omega))
    omega
  refine W_mid [(1, .ip (eCls c) 0), (3, .str a10)] σ ?_ ?_
  · have yp : ((⟨#[32, 32, 115, 101, 116, 32, 112, 114, 101, 112, 101, 110, 100, 32]⟩ : ByteArray)).size = 14 := rfl
    by_cases hq : (0 : Int) < (c.s.pre.length : Int)
    · have hB : (decide ((0 : Int) < (c.s.pre.length : Int))) = true := decide_eq_true hq
      rw [hB, some_two (p := (⟨#[32, 32, 115, 101, 116, 32, 112, 114, 101, 112, 101, 110, 100, 32]⟩ : ByteArray)) _ rfl] at e_10
      simp only [← asA] at e_10
      have hb := hc.pre
      have dc := rpathText_spec c.s.kP c.s.pre hpre
      have zc := joinOf_map digB 20 blk c.s.pre (fun x hx => digB_size x (by have := hc.each x hx; omega))
      rw [show blk.size = 1 from rfl] at zc
      repeat' first |refine s1 ?_|refine gS ?_|refine wT rfl ?_|refine wF rfl ?_|refine wt rfl ?_|refine wf rfl ?_|(refine wC rfl (fun h=>?_) (fun h=>?_)<;>(try contradiction))|((first|refine rd ?_|refine ry [] c0 fun nu _ _=>?_);simp -dsimp (disch:=omega) only[go_sem,szA, ye, yp, e_10])|refine e0 (by decide) ?_|(refine And.intro ?_ ?_;omega)|refine And.intro (of_eq_true PutAt_put) ?_|refine gT ?_|refine gF ?_|(refine gI (fun h=>?_) (fun h=>?_)<;>(try contradiction)<;>(try refine rd ?_)<;>(try simp -dsimp (disch:=omega) only[go_sem,h,szA, ye, yp, e_10]))|refine Exists.intro _ (Exists.intro _ (And.intro (And.intro rfl rfl) ?_)) |refine us (dc) ?_ |fail
      exact ⟨Env.Sub_of_has (by simp [Env.Has, Env.get, eCls]), Store.Sub.refl _⟩
    · have hB : (decide ((0 : Int) < (c.s.pre.length : Int))) = false := decide_eq_false hq
      rw [hB, some_no, emA] at e_10
      repeat' first |refine s1 ?_|refine gS ?_|refine wT rfl ?_|refine wF rfl ?_|refine wt rfl ?_|refine wf rfl ?_|(refine wC rfl (fun h=>?_) (fun h=>?_)<;>(try contradiction))|((first|refine rd ?_|refine ry [] c0 fun nu _ _=>?_);simp -dsimp (disch:=omega) only[go_sem,hq])|refine e0 (by decide) ?_|(refine And.intro ?_ ?_;omega)|refine And.intro (of_eq_true PutAt_put) ?_|refine gT ?_|refine gF ?_|(refine gI (fun h=>?_) (fun h=>?_)<;>(try contradiction)<;>(try refine rd ?_)<;>(try simp -dsimp (disch:=omega) only[go_sem,h,hq]))|refine Exists.intro _ (Exists.intro _ (And.intro (And.intro rfl rfl) ?_)) |fail
      exact ⟨Env.Sub_of_has (by simp [Env.Has, Env.get, eCls, e_10, hq]), Store.Sub.refl _⟩
  have yz : ((⟨#[32, 125, 10]⟩ : ByteArray)).size = 3 := rfl
  have hfin : clsText c = a10 ++ (⟨#[32, 125, 10]⟩ : ByteArray) := by
    rw [clsText]
    simp only [clsLines, catB, emA]
    rw [l0, h0, ← e_10, ← e_9, ← e_8, ← e_7, ← e_6, ← e_5, ← e_4, ← e_3, ← e_2, ← e_1]
    simp only [asA]
    rfl
  rw [hfin]
  repeat' first |refine s1 ?_|refine gS ?_|refine wT rfl ?_|refine wF rfl ?_|refine wt rfl ?_|refine wf rfl ?_|(refine wC rfl (fun h=>?_) (fun h=>?_)<;>(try contradiction))|((first|refine rd ?_|refine ry [] c0 fun nu _ _=>?_);simp -dsimp (disch:=omega) only[go_sem,szA, yz])|refine e0 (by decide) ?_|(refine And.intro ?_ ?_;omega)|refine And.intro (of_eq_true PutAt_put) ?_|refine gT ?_|refine gF ?_|(refine gI (fun h=>?_) (fun h=>?_)<;>(try contradiction)<;>(try refine rd ?_)<;>(try simp -dsimp (disch:=omega) only[go_sem,h,szA, yz]))|refine Exists.intro _ (Exists.intro _ (And.intro (And.intro rfl rfl) ?_)) |fail
end Go.Proofs.YtaealcimocpnnaaGreat
namespace Go.Proofs.YtaealcimocpnnaaGreat
open Go.Kern Go.RowKit
theorem kz0 : ((⟨#[114, 111, 117, 116, 101, 114, 32]⟩ : ByteArray)).size = 7 := rfl
theorem kz1 : ((⟨#[32, 123, 10, 32, 97, 115, 32]⟩ : ByteArray)).size = 7 := rfl
theorem kz2 : ((⟨#[59, 10, 32, 105, 100, 32]⟩ : ByteArray)).size = 6 := rfl
theorem kz3 : ((⟨#[59, 10]⟩ : ByteArray)).size = 2 := rfl
theorem kz4 : ((⟨#[32, 110, 101, 116, 119, 111, 114, 107, 32]⟩ : ByteArray)).size = 9 := rfl
theorem kz5 : ((⟨#[32, 108, 105, 110, 107, 32]⟩ : ByteArray)).size = 6 := rfl
theorem kz6 : ((⟨#[32, 99, 111, 115, 116, 32]⟩ : ByteArray)).size = 6 := rfl
theorem kz7 : ((⟨#[125, 10]⟩ : ByteArray)).size = 2 := rfl
theorem kz8 : ((⟨#[112, 114, 101, 102, 105, 120, 45, 108, 105, 115, 116, 32]⟩ : ByteArray)).size = 12 := rfl
theorem kz9 : ((⟨#[32, 123, 10]⟩ : ByteArray)).size = 3 := rfl
theorem kz10 : ((⟨#[114, 111, 117, 116, 101, 45, 109, 97, 112, 32]⟩ : ByteArray)).size = 10 := rfl
theorem kz11 : ((⟨#[32]⟩ : ByteArray)).size = 1 := rfl
theorem net_line (t : ByteArray) : lineB 1 [(⟨#[110, 101, 116, 119, 111, 114, 107]⟩ : ByteArray), t ++ (⟨#[59]⟩ : ByteArray)] = (⟨#[32, 110, 101, 116, 119, 111, 114, 107, 32]⟩ : ByteArray) ++ (t ++ (⟨#[59, 10]⟩ : ByteArray)) := by
  simp only [lineB, joinOf, joinT, asA, emA, endC]
  rfl
theorem nbr_line (t : ByteArray) : lineB 1 [(⟨#[110, 101, 105, 103, 104, 98, 111, 114]⟩ : ByteArray), t ++ (⟨#[59]⟩ : ByteArray)] = (⟨#[32, 110, 101, 105, 103, 104, 98, 111, 114, 32]⟩ : ByteArray) ++ (t ++ (⟨#[59, 10]⟩ : ByteArray)) := by
  simp only [lineB, joinOf, joinT, asA, emA, endC]
  rfl
theorem link_line (a t : ByteArray) : lineB 1 [(⟨#[108, 105, 110, 107]⟩ : ByteArray), a, (⟨#[99, 111, 115, 116]⟩ : ByteArray), t ++ (⟨#[59]⟩ : ByteArray)] = (⟨#[32, 108, 105, 110, 107, 32]⟩ : ByteArray) ++ (a ++ ((⟨#[32, 99, 111, 115, 116, 32]⟩ : ByteArray) ++ (t ++ (⟨#[59, 10]⟩ : ByteArray)))) := by
  simp only [lineB, joinOf, joinT, asA, emA, endC]
  rfl
theorem rule_line (t : ByteArray) : lineB 1 [t ++ (⟨#[59]⟩ : ByteArray)] = (⟨#[32]⟩ : ByteArray) ++ (t ++ (⟨#[59, 10]⟩ : ByteArray)) := by
  simp only [lineB, joinOf, joinT, asA, emA, endC]
  rfl
theorem end_line : lineB 0 [(⟨#[125]⟩ : ByteArray)] = (⟨#[125, 10]⟩ : ByteArray) := rfl
theorem lst_line (a : ByteArray) : lineB 0 [(⟨#[112, 114, 101, 102, 105, 120, 45, 108, 105, 115, 116]⟩ : ByteArray), a, (⟨#[123]⟩ : ByteArray)] = (⟨#[112, 114, 101, 102, 105, 120, 45, 108, 105, 115, 116, 32]⟩ : ByteArray) ++ (a ++ (⟨#[32, 123, 10]⟩ : ByteArray)) := by
  simp only [lineB, joinOf, joinT, asA, emA]
  rfl
theorem map_line (a : ByteArray) : lineB 0 [(⟨#[114, 111, 117, 116, 101, 45, 109, 97, 112]⟩ : ByteArray), a, (⟨#[123]⟩ : ByteArray)] = (⟨#[114, 111, 117, 116, 101, 45, 109, 97, 112, 32]⟩ : ByteArray) ++ (a ++ (⟨#[32, 123, 10]⟩ : ByteArray)) := by
  simp only [lineB, joinOf, joinT, asA, emA]
  rfl
theorem rtr_line (a n m : ByteArray) : lineB 0 [(⟨#[114, 111, 117, 116, 101, 114]⟩ : ByteArray), a, (⟨#[123]⟩ : ByteArray)] ++ (lineB 1 [(⟨#[97, 115]⟩ : ByteArray), n ++ (⟨#[59]⟩ : ByteArray)] ++ lineB 1 [(⟨#[105, 100]⟩ : ByteArray), m ++ (⟨#[59]⟩ : ByteArray)]) = (⟨#[114, 111, 117, 116, 101, 114, 32]⟩ : ByteArray) ++ (a ++ ((⟨#[32, 123, 10, 32, 97, 115, 32]⟩ : ByteArray) ++ (n ++ ((⟨#[59, 10, 32, 105, 100, 32]⟩ : ByteArray) ++ (m ++ (⟨#[59, 10]⟩ : ByteArray)))))) := by
  simp only [lineB, joinOf, joinT, asA, emA, endC]
  rfl
set_option maxRecDepth 100000
set_option maxHeartbeats 4000000
attribute [local irreducible] PCall W
theorem rrtr_spec (y : Rtr) (hg : y.Good) (hz : (rtrText y).size ≤ 140737488355328) : Pure Tryz.prog 42 [eRtr y] (.str (rtrText y)) := by
  intro σ
  have q1 : ((⟨#[32, 110, 101, 105, 103, 104, 98, 111, 114, 32]⟩ : ByteArray)).size = 10 := rfl
  have q2 : ((⟨#[32, 105, 109, 112, 111, 114, 116, 32]⟩ : ByteArray)).size = 8 := rfl
  have q3 : ((⟨#[32, 101, 120, 112, 111, 114, 116, 32]⟩ : ByteArray)).size = 8 := rfl
  have q4 : ((⟨#[32, 99, 108, 105, 101, 110, 116]⟩ : ByteArray)).size = 7 := rfl
  have ln1 := hg.fits.nets
  have ln2 := hg.fits.nbrs
  have ln3 := hg.fits.links
  have d1 := rnum_spec y.asn hg.asn.1 (by have := hg.asn; omega)
  have d2 := rnum_spec y.id hg.id.1 (by have := hg.id; omega)
  have hr : rtrText y = (⟨#[114, 111, 117, 116, 101, 114, 32]⟩ : ByteArray) ++ y.name ++ (⟨#[32, 123, 10, 32, 97, 115, 32]⟩ : ByteArray) ++ digB y.asn ++ (⟨#[59, 10, 32, 105, 100, 32]⟩ : ByteArray) ++ digB y.id ++ (⟨#[59, 10]⟩ : ByteArray) ++ (catB (y.nets.map (fun p => lineB 1 [(⟨#[110, 101, 116, 119, 111, 114, 107]⟩ : ByteArray), pfxText p ++ (⟨#[59]⟩ : ByteArray)])) ++ (catB (y.nbrs.map (fun n => lineB 1 [(⟨#[110, 101, 105, 103, 104, 98, 111, 114]⟩ : ByteArray), nbrWord n ++ (⟨#[59]⟩ : ByteArray)])) ++ (catB (y.links.map (fun l => lineB 1 [(⟨#[108, 105, 110, 107]⟩ : ByteArray), l.name, (⟨#[99, 111, 115, 116]⟩ : ByteArray), digB l.cost ++ (⟨#[59]⟩ : ByteArray)])) ++ (⟨#[125, 10]⟩ : ByteArray)))) := by
    have h := rtr_line y.name (digB y.asn) (digB y.id)
    rw [rtrText, end_line]
    simp only [← asA] at h ⊢
    rw [h]
  rw [hr]
  rw [hr] at hz
  obtain ⟨b0, hb0⟩ : ∃ b, (⟨#[114, 111, 117, 116, 101, 114, 32]⟩ : ByteArray) ++ y.name ++ (⟨#[32, 123, 10, 32, 97, 115, 32]⟩ : ByteArray) ++ digB y.asn ++ (⟨#[59, 10, 32, 105, 100, 32]⟩ : ByteArray) ++ digB y.id ++ (⟨#[59, 10]⟩ : ByteArray) = b := ⟨_, rfl⟩
  obtain ⟨b1, hb1⟩ : ∃ b, b0 ++ catB (y.nets.map (fun p => lineB 1 [(⟨#[110, 101, 116, 119, 111, 114, 107]⟩ : ByteArray), pfxText p ++ (⟨#[59]⟩ : ByteArray)])) = b := ⟨_, rfl⟩
  obtain ⟨b2, hb2⟩ : ∃ b, b1 ++ catB (y.nbrs.map (fun n => lineB 1 [(⟨#[110, 101, 105, 103, 104, 98, 111, 114]⟩ : ByteArray), nbrWord n ++ (⟨#[59]⟩ : ByteArray)])) = b := ⟨_, rfl⟩
  have hzb := congrArg ByteArray.size hb0
  have hz1 := congrArg ByteArray.size hb1
  have hz2 := congrArg ByteArray.size hb2
  rw [hb0] at hz
  have hz0 : b2 ++ catB (y.links.map (fun l => lineB 1 [(⟨#[108, 105, 110, 107]⟩ : ByteArray), l.name, (⟨#[99, 111, 115, 116]⟩ : ByteArray), digB l.cost ++ (⟨#[59]⟩ : ByteArray)])) ++ (⟨#[125, 10]⟩ : ByteArray) = b0 ++ (catB (y.nets.map (fun p => lineB 1 [(⟨#[110, 101, 116, 119, 111, 114, 107]⟩ : ByteArray), pfxText p ++ (⟨#[59]⟩ : ByteArray)])) ++ (catB (y.nbrs.map (fun n => lineB 1 [(⟨#[110, 101, 105, 103, 104, 98, 111, 114]⟩ : ByteArray), nbrWord n ++ (⟨#[59]⟩ : ByteArray)])) ++ (catB (y.links.map (fun l => lineB 1 [(⟨#[108, 105, 110, 107]⟩ : ByteArray), l.name, (⟨#[99, 111, 115, 116]⟩ : ByteArray), digB l.cost ++ (⟨#[59]⟩ : ByteArray)])) ++ (⟨#[125, 10]⟩ : ByteArray)))) := by
    rw [← hb2, ← hb1]; simp only [asA]
  rw [hb0, ← hz0]
  simp only [szA] at hzb hz1 hz2 hz
  replace hb1 : Hid _ := ⟨hb1⟩
  replace hb2 : Hid _ := ⟨hb2⟩
  replace hz0 : Hid _ := ⟨hz0⟩
  refine PCall_q [.tmp 2] 106 Tryz.func42 (by rfl) rfl rfl rfl rfl ?_
  repeat' first |refine s1 ?_|refine gS ?_|refine wT rfl ?_|refine wF rfl ?_|refine wt rfl ?_|refine wf rfl ?_|(refine wC rfl (fun h=>?_) (fun h=>?_)<;>(try contradiction))|((first|refine rd ?_|refine ry [] c0 fun nu _ _=>?_);simp -dsimp (disch:=omega) only[go_sem,szA, hb0, c0, kz0, kz1, kz2, kz3, kz4, kz5, kz6, kz7, kz8, kz9, kz10, kz11])|refine e0 (by decide) ?_|(refine And.intro ?_ ?_;omega)|refine And.intro (of_eq_true PutAt_put) ?_|refine gT ?_|refine gF ?_|(refine gI (fun h=>?_) (fun h=>?_)<;>(try contradiction)<;>(try refine rd ?_)<;>(try simp -dsimp (disch:=omega) only[go_sem,h,szA, hb0, c0, kz0, kz1, kz2, kz3, kz4, kz5, kz6, kz7, kz8, kz9, kz10, kz11]))|refine Exists.intro _ (Exists.intro _ (And.intro (And.intro rfl rfl) ?_)) |refine us (d1) ?_ |refine us (d2) ?_ |fail
  clear hb0 d1 d2
  have hbig : b0.size + ((catB (y.nets.map (fun p => lineB 1 [(⟨#[110, 101, 116, 119, 111, 114, 107]⟩ : ByteArray), pfxText p ++ (⟨#[59]⟩ : ByteArray)]))).size + ((catB (y.nbrs.map (fun n => lineB 1 [(⟨#[110, 101, 105, 103, 104, 98, 111, 114]⟩ : ByteArray), nbrWord n ++ (⟨#[59]⟩ : ByteArray)]))).size + (catB (y.links.map (fun l => lineB 1 [(⟨#[108, 105, 110, 107]⟩ : ByteArray), l.name, (⟨#[99, 111, 115, 116]⟩ : ByteArray), digB l.cost ++ (⟨#[59]⟩ : ByteArray)]))).size)) ≤ 140737488355328 := by omega
  refine W_loop_st (fun st : Nat × ByteArray => [(1, .ip (eRtr y) 0), (3, .str st.2), (4, .int .i64 st.1)]) (fun _ => σ) (fun st => st.1 ≤ y.nets.length ∧ st.2 ++ catB ((y.nets.map (fun p => lineB 1 [(⟨#[110, 101, 116, 119, 111, 114, 107]⟩ : ByteArray), pfxText p ++ (⟨#[59]⟩ : ByteArray)])).drop st.1) = b0 ++ catB (y.nets.map (fun p => lineB 1 [(⟨#[110, 101, 116, 119, 111, 114, 107]⟩ : ByteArray), pfxText p ++ (⟨#[59]⟩ : ByteArray)]))) (fun st => y.nets.length - st.1) (0, b0) ⟨Nat.zero_le _, rfl⟩ (Env.Sub_of_has (by simp [Env.Has, Env.get, eRtr])) (Store.Sub.refl _) ?_
  rintro ⟨i, v⟩ ⟨hii, hvi⟩
  simp only at hii hvi
  by_cases hli : i < y.nets.length
  · have hmemi : y.nets.getD i default ∈ y.nets := mem_getD hli
    have hcat := cat_drop (fun p => lineB 1 [(⟨#[110, 101, 116, 119, 111, 114, 107]⟩ : ByteArray), pfxText p ++ (⟨#[59]⟩ : ByteArray)]) hli
    rw [hcat] at hvi
    clear hcat
    have hszi := congrArg ByteArray.size hvi
    simp only [szA] at hszi
    obtain ⟨x, hx⟩ : ∃ z, y.nets.getD i default = z := ⟨_, rfl⟩
    rw [hx] at hmemi hvi hszi
    try simp only at hvi
    rw [net_line] at hvi hszi
    simp only [szA] at hszi
    have d3 := rpfxText_spec x (hg.nets x hmemi)
    repeat' first |refine s1 ?_|refine gS ?_|refine wT rfl ?_|refine wF rfl ?_|refine wt rfl ?_|refine wf rfl ?_|(refine wC rfl (fun h=>?_) (fun h=>?_)<;>(try contradiction))|((first|refine rd ?_|refine ry [] c0 fun nu _ _=>?_);simp -dsimp (disch:=omega) only[go_sem,hx, szA, kz0, kz1, kz2, kz3, kz4, kz5, kz6, kz7, kz8, kz9, kz10, kz11])|refine e0 (by decide) ?_|(refine And.intro ?_ ?_;omega)|refine And.intro (of_eq_true PutAt_put) ?_|refine gT ?_|refine gF ?_|(refine gI (fun h=>?_) (fun h=>?_)<;>(try contradiction)<;>(try refine rd ?_)<;>(try simp -dsimp (disch:=omega) only[go_sem,h,hx, szA, kz0, kz1, kz2, kz3, kz4, kz5, kz6, kz7, kz8, kz9, kz10, kz11]))|refine Exists.intro _ (Exists.intro _ (And.intro (And.intro rfl rfl) ?_)) |refine us (d3) ?_ |fail
    exact ⟨(i + 1, v ++ (⟨#[32, 110, 101, 116, 119, 111, 114, 107, 32]⟩ : ByteArray) ++ pfxText x ++ (⟨#[59, 10]⟩ : ByteArray)), by simp only;omega, ⟨by simp only;omega, by simp only;simp only [asA] at hvi ⊢;exact hvi⟩, Env.Sub_of_has (by simp [Env.Has, Env.get, eRtr]), Store.Sub.refl _⟩
  · have hi' : i = y.nets.length := by omega
    subst hi'
    rw [List.drop_eq_nil_of_le (by simp), catB, emA] at hvi
    rw [hb1.out] at hvi
    rw [hvi]
    repeat' first |refine s1 ?_|refine gS ?_|refine wT rfl ?_|refine wF rfl ?_|refine wt rfl ?_|refine wf rfl ?_|(refine wC rfl (fun h=>?_) (fun h=>?_)<;>(try contradiction))|((first|refine rd ?_|refine ry [] c0 fun nu _ _=>?_);simp -dsimp (disch:=omega) only[go_sem])|refine e0 (by decide) ?_|(refine And.intro ?_ ?_;omega)|refine And.intro (of_eq_true PutAt_put) ?_|refine gT ?_|refine gF ?_|(refine gI (fun h=>?_) (fun h=>?_)<;>(try contradiction)<;>(try refine rd ?_)<;>(try simp -dsimp (disch:=omega) only[go_sem,h]))|refine Exists.intro _ (Exists.intro _ (And.intro (And.intro rfl rfl) ?_)) |fail
    refine W_loop_st (fun st : Nat × ByteArray => [(1, .ip (eRtr y) 0), (3, .str st.2), (5, .int .i64 st.1)]) (fun _ => σ) (fun st => st.1 ≤ y.nbrs.length ∧ st.2 ++ catB ((y.nbrs.map (fun n => lineB 1 [(⟨#[110, 101, 105, 103, 104, 98, 111, 114]⟩ : ByteArray), nbrWord n ++ (⟨#[59]⟩ : ByteArray)])).drop st.1) = b1 ++ catB (y.nbrs.map (fun n => lineB 1 [(⟨#[110, 101, 105, 103, 104, 98, 111, 114]⟩ : ByteArray), nbrWord n ++ (⟨#[59]⟩ : ByteArray)]))) (fun st => y.nbrs.length - st.1) (0, b1) ⟨Nat.zero_le _, rfl⟩ (Env.Sub_of_has (by simp [Env.Has, Env.get, eRtr])) (Store.Sub.refl _) ?_
    rintro ⟨i, v⟩ ⟨hii, hvi⟩
    simp only at hii hvi
    by_cases hli : i < y.nbrs.length
    · have hmemi : y.nbrs.getD i default ∈ y.nbrs := mem_getD hli
      have hcat := cat_drop (fun n => lineB 1 [(⟨#[110, 101, 105, 103, 104, 98, 111, 114]⟩ : ByteArray), nbrWord n ++ (⟨#[59]⟩ : ByteArray)]) hli
      rw [hcat] at hvi
      clear hcat
      have hszi := congrArg ByteArray.size hvi
      simp only [szA] at hszi
      obtain ⟨x, hx⟩ : ∃ z, y.nbrs.getD i default = z := ⟨_, rfl⟩
      rw [hx] at hmemi hvi hszi
      try simp only at hvi
      rw [nbr_line] at hvi hszi
      simp only [szA] at hszi
      have hg3 := hg.nbrs x hmemi
      have z3 : (nw1 x).size ≤ 2100 := by unfold nw1; split <;> first | omega | (simp only [szA, q2]; omega)
      have z4 : (nw2 x).size ≤ 4200 := by unfold nw2; split <;> first | omega | (simp only [szA, q3]; omega)
      repeat' first |refine s1 ?_|refine gS ?_|refine wT rfl ?_|refine wF rfl ?_|refine wt rfl ?_|refine wf rfl ?_|(refine wC rfl (fun h=>?_) (fun h=>?_)<;>(try contradiction))|((first|refine rd ?_|refine ry [] c0 fun nu _ _=>?_);simp -dsimp (disch:=omega) only[go_sem,hx])|refine e0 (by decide) ?_|(refine And.intro ?_ ?_;omega)|refine And.intro (of_eq_true PutAt_put) ?_|refine gT ?_|refine gF ?_|(refine gI (fun h=>?_) (fun h=>?_)<;>(try contradiction)<;>(try refine rd ?_)<;>(try simp -dsimp (disch:=omega) only[go_sem,h,hx]))|refine Exists.intro _ (Exists.intro _ (And.intro (And.intro rfl rfl) ?_)) |fail
      intro o1 ho1
      repeat' first |((fail_if_success (first|show W _ _ (Code.seq (Code.region 11 _ _) _) _ _ _|show W _ _ (Code.seq (Code.seq (Code.region 11 _ _) _) _) _ _ _));refine s1 ?_)|refine gS ?_|refine wT rfl ?_|refine wF rfl ?_|refine wt rfl ?_|refine wf rfl ?_|(refine wC rfl (fun h=>?_) (fun h=>?_)<;>(try contradiction))|((fail_if_success (first|show W _ _ (Code.region 11 _ _) _ _ _));(first|refine rd ?_|refine ry [] c0 fun nu _ _=>?_);simp -dsimp (disch:=omega) only[go_sem,hx, eNbr, szA, q1, kz0, kz1, kz2, kz3, kz4, kz5, kz6, kz7, kz8, kz9, kz10, kz11])|refine e0 (by decide) ?_|(refine And.intro ?_ ?_;omega)|refine And.intro (of_eq_true PutAt_put) ?_|refine gT ?_|refine gF ?_|(refine gI (fun h=>?_) (fun h=>?_)<;>(try contradiction)<;>(try refine rd ?_)<;>(try simp -dsimp (disch:=omega) only[go_sem,h,hx, eNbr, szA, q1, kz0, kz1, kz2, kz3, kz4, kz5, kz6, kz7, kz8, kz9, kz10, kz11]))|refine Exists.intro _ (Exists.intro _ (And.intro (And.intro rfl rfl) ?_)) |fail
      refine W_mid [(1, .ip (eRtr y) 0), (5, .int .i64 i), (6, .ptr o1 0 0), (3, .str (v ++ (⟨#[32, 110, 101, 105, 103, 104, 98, 111, 114, 32]⟩ : ByteArray) ++ nw1 x))] (σ.put o1 (.arr 61 [eNbr x])) ?_ ?_
      · skip
        repeat' first |refine s1 ?_|refine gS ?_|refine wT rfl ?_|refine wF rfl ?_|refine wt rfl ?_|refine wf rfl ?_|(refine wC rfl (fun h=>?_) (fun h=>?_)<;>(try contradiction))|((first|refine rd ?_|refine ry [] c0 fun nu _ _=>?_);simp -dsimp (disch:=omega) only[go_sem,hx, szA, q1, q2, q3, q4, eNbr, kz0, kz1, kz2, kz3, kz4, kz5, kz6, kz7, kz8, kz9, kz10, kz11])|refine e0 (by decide) ?_|(refine And.intro ?_ ?_;omega)|refine And.intro (of_eq_true PutAt_put) ?_|refine gT ?_|refine gF ?_|(refine gI (fun h=>?_) (fun h=>?_)<;>(try contradiction)<;>(try refine rd ?_)<;>(try simp -dsimp (disch:=omega) only[go_sem,h,hx, szA, q1, q2, q3, q4, eNbr, kz0, kz1, kz2, kz3, kz4, kz5, kz6, kz7, kz8, kz9, kz10, kz11]))|refine Exists.intro _ (Exists.intro _ (And.intro (And.intro rfl rfl) ?_)) |fail
        all_goals exact ⟨Env.Sub_of_has (by simp [Env.Has, Env.get, eRtr, eNbr, nw1, nw2, nbrWord, asA, *]), sub_eq (by simp [eNbr])⟩
      repeat' first |((fail_if_success (first|show W _ _ (Code.seq (Code.region 13 _ _) _) _ _ _|show W _ _ (Code.seq (Code.seq (Code.region 13 _ _) _) _) _ _ _));refine s1 ?_)|refine gS ?_|refine wT rfl ?_|refine wF rfl ?_|refine wt rfl ?_|refine wf rfl ?_|(refine wC rfl (fun h=>?_) (fun h=>?_)<;>(try contradiction))|((fail_if_success (first|show W _ _ (Code.region 13 _ _) _ _ _));(first|refine rd ?_|refine ry [] c0 fun nu _ _=>?_);simp -dsimp (disch:=omega) only[go_sem])|refine e0 (by decide) ?_|(refine And.intro ?_ ?_;omega)|refine And.intro (of_eq_true PutAt_put) ?_|refine gT ?_|refine gF ?_|(refine gI (fun h=>?_) (fun h=>?_)<;>(try contradiction)<;>(try refine rd ?_)<;>(try simp -dsimp (disch:=omega) only[go_sem,h]))|refine Exists.intro _ (Exists.intro _ (And.intro (And.intro rfl rfl) ?_)) |fail
      refine W_mid [(1, .ip (eRtr y) 0), (5, .int .i64 i), (6, .ptr o1 0 0), (3, .str (v ++ (⟨#[32, 110, 101, 105, 103, 104, 98, 111, 114, 32]⟩ : ByteArray) ++ nw2 x))] (σ.put o1 (.arr 61 [eNbr x])) ?_ ?_
      · skip
        repeat' first |refine s1 ?_|refine gS ?_|refine wT rfl ?_|refine wF rfl ?_|refine wt rfl ?_|refine wf rfl ?_|(refine wC rfl (fun h=>?_) (fun h=>?_)<;>(try contradiction))|((first|refine rd ?_|refine ry [] c0 fun nu _ _=>?_);simp -dsimp (disch:=omega) only[go_sem,hx, szA, q1, q2, q3, q4, eNbr, kz0, kz1, kz2, kz3, kz4, kz5, kz6, kz7, kz8, kz9, kz10, kz11])|refine e0 (by decide) ?_|(refine And.intro ?_ ?_;omega)|refine And.intro (of_eq_true PutAt_put) ?_|refine gT ?_|refine gF ?_|(refine gI (fun h=>?_) (fun h=>?_)<;>(try contradiction)<;>(try refine rd ?_)<;>(try simp -dsimp (disch:=omega) only[go_sem,h,hx, szA, q1, q2, q3, q4, eNbr, kz0, kz1, kz2, kz3, kz4, kz5, kz6, kz7, kz8, kz9, kz10, kz11]))|refine Exists.intro _ (Exists.intro _ (And.intro (And.intro rfl rfl) ?_)) |fail
        all_goals exact ⟨Env.Sub_of_has (by simp [Env.Has, Env.get, eRtr, eNbr, nw1, nw2, nbrWord, asA, *]), sub_eq (by simp [eNbr])⟩
      repeat' first |((fail_if_success (first|show W _ _ (Code.seq (Code.region 15 _ _) _) _ _ _|show W _ _ (Code.seq (Code.seq (Code.region 15 _ _) _) _) _ _ _));refine s1 ?_)|refine gS ?_|refine wT rfl ?_|refine wF rfl ?_|refine wt rfl ?_|refine wf rfl ?_|(refine wC rfl (fun h=>?_) (fun h=>?_)<;>(try contradiction))|((fail_if_success (first|show W _ _ (Code.region 15 _ _) _ _ _));(first|refine rd ?_|refine ry [] c0 fun nu _ _=>?_);simp -dsimp (disch:=omega) only[go_sem])|refine e0 (by decide) ?_|(refine And.intro ?_ ?_;omega)|refine And.intro (of_eq_true PutAt_put) ?_|refine gT ?_|refine gF ?_|(refine gI (fun h=>?_) (fun h=>?_)<;>(try contradiction)<;>(try refine rd ?_)<;>(try simp -dsimp (disch:=omega) only[go_sem,h]))|refine Exists.intro _ (Exists.intro _ (And.intro (And.intro rfl rfl) ?_)) |fail
      refine W_mid [(1, .ip (eRtr y) 0), (5, .int .i64 i), (6, .ptr o1 0 0), (3, .str (v ++ (⟨#[32, 110, 101, 105, 103, 104, 98, 111, 114, 32]⟩ : ByteArray) ++ nbrWord x))] (σ.put o1 (.arr 61 [eNbr x])) ?_ ?_
      · skip
        repeat' first |refine s1 ?_|refine gS ?_|refine wT rfl ?_|refine wF rfl ?_|refine wt rfl ?_|refine wf rfl ?_|(refine wC rfl (fun h=>?_) (fun h=>?_)<;>(try contradiction))|((first|refine rd ?_|refine ry [] c0 fun nu _ _=>?_);simp -dsimp (disch:=omega) only[go_sem,hx, szA, q1, q2, q3, q4, eNbr, kz0, kz1, kz2, kz3, kz4, kz5, kz6, kz7, kz8, kz9, kz10, kz11])|refine e0 (by decide) ?_|(refine And.intro ?_ ?_;omega)|refine And.intro (of_eq_true PutAt_put) ?_|refine gT ?_|refine gF ?_|(refine gI (fun h=>?_) (fun h=>?_)<;>(try contradiction)<;>(try refine rd ?_)<;>(try simp -dsimp (disch:=omega) only[go_sem,h,hx, szA, q1, q2, q3, q4, eNbr, kz0, kz1, kz2, kz3, kz4, kz5, kz6, kz7, kz8, kz9, kz10, kz11]))|refine Exists.intro _ (Exists.intro _ (And.intro (And.intro rfl rfl) ?_)) |fail
        all_goals exact ⟨Env.Sub_of_has (by simp [Env.Has, Env.get, eRtr, eNbr, nw1, nw2, nbrWord, asA, *]), sub_eq (by simp [eNbr])⟩
      repeat' first |refine s1 ?_|refine gS ?_|refine wT rfl ?_|refine wF rfl ?_|refine wt rfl ?_|refine wf rfl ?_|(refine wC rfl (fun h=>?_) (fun h=>?_)<;>(try contradiction))|((first|refine rd ?_|refine ry [] c0 fun nu _ _=>?_);simp -dsimp (disch:=omega) only[go_sem,szA, q1, kz0, kz1, kz2, kz3, kz4, kz5, kz6, kz7, kz8, kz9, kz10, kz11])|refine e0 (by decide) ?_|(refine And.intro ?_ ?_;omega)|refine And.intro (of_eq_true PutAt_put) ?_|refine gT ?_|refine gF ?_|(refine gI (fun h=>?_) (fun h=>?_)<;>(try contradiction)<;>(try refine rd ?_)<;>(try simp -dsimp (disch:=omega) only[go_sem,h,szA, q1, kz0, kz1, kz2, kz3, kz4, kz5, kz6, kz7, kz8, kz9, kz10, kz11]))|refine Exists.intro _ (Exists.intro _ (And.intro (And.intro rfl rfl) ?_)) |fail
      exact ⟨(i + 1, v ++ (⟨#[32, 110, 101, 105, 103, 104, 98, 111, 114, 32]⟩ : ByteArray) ++ nbrWord x ++ (⟨#[59, 10]⟩ : ByteArray)), by simp only;omega, ⟨by simp only;omega, by simp only;simp only [asA] at hvi ⊢;exact hvi⟩, Env.Sub_of_has (by simp [Env.Has, Env.get, eRtr]), Sub_put (Store.Sub.refl _) ho1 _⟩
    · have hi' : i = y.nbrs.length := by omega
      subst hi'
      rw [List.drop_eq_nil_of_le (by simp), catB, emA] at hvi
      rw [hb2.out] at hvi
      rw [hvi]
      repeat' first |refine s1 ?_|refine gS ?_|refine wT rfl ?_|refine wF rfl ?_|refine wt rfl ?_|refine wf rfl ?_|(refine wC rfl (fun h=>?_) (fun h=>?_)<;>(try contradiction))|((first|refine rd ?_|refine ry [] c0 fun nu _ _=>?_);simp -dsimp (disch:=omega) only[go_sem])|refine e0 (by decide) ?_|(refine And.intro ?_ ?_;omega)|refine And.intro (of_eq_true PutAt_put) ?_|refine gT ?_|refine gF ?_|(refine gI (fun h=>?_) (fun h=>?_)<;>(try contradiction)<;>(try refine rd ?_)<;>(try simp -dsimp (disch:=omega) only[go_sem,h]))|refine Exists.intro _ (Exists.intro _ (And.intro (And.intro rfl rfl) ?_)) |fail
      refine W_loop_st (fun st : Nat × ByteArray => [(1, .ip (eRtr y) 0), (3, .str st.2), (7, .int .i64 st.1)]) (fun _ => σ) (fun st => st.1 ≤ y.links.length ∧ st.2 ++ catB ((y.links.map (fun l => lineB 1 [(⟨#[108, 105, 110, 107]⟩ : ByteArray), l.name, (⟨#[99, 111, 115, 116]⟩ : ByteArray), digB l.cost ++ (⟨#[59]⟩ : ByteArray)])).drop st.1) = b2 ++ catB (y.links.map (fun l => lineB 1 [(⟨#[108, 105, 110, 107]⟩ : ByteArray), l.name, (⟨#[99, 111, 115, 116]⟩ : ByteArray), digB l.cost ++ (⟨#[59]⟩ : ByteArray)]))) (fun st => y.links.length - st.1) (0, b2) ⟨Nat.zero_le _, rfl⟩ (Env.Sub_of_has (by simp [Env.Has, Env.get, eRtr])) (Store.Sub.refl _) ?_
      rintro ⟨i, v⟩ ⟨hii, hvi⟩
      simp only at hii hvi
      by_cases hli : i < y.links.length
      · have hmemi : y.links.getD i default ∈ y.links := mem_getD hli
        have hcat := cat_drop (fun l => lineB 1 [(⟨#[108, 105, 110, 107]⟩ : ByteArray), l.name, (⟨#[99, 111, 115, 116]⟩ : ByteArray), digB l.cost ++ (⟨#[59]⟩ : ByteArray)]) hli
        rw [hcat] at hvi
        clear hcat
        have hszi := congrArg ByteArray.size hvi
        simp only [szA] at hszi
        obtain ⟨x, hx⟩ : ∃ z, y.links.getD i default = z := ⟨_, rfl⟩
        rw [hx] at hmemi hvi hszi
        try simp only at hvi
        rw [link_line] at hvi hszi
        simp only [szA] at hszi
        have hg3 := hg.links x hmemi
        have d3 := rnum_spec x.cost hg3.1 (by omega)
        repeat' first |refine s1 ?_|refine gS ?_|refine wT rfl ?_|refine wF rfl ?_|refine wt rfl ?_|refine wf rfl ?_|(refine wC rfl (fun h=>?_) (fun h=>?_)<;>(try contradiction))|((first|refine rd ?_|refine ry (id:=1) [] (cq [1,5,10]) fun nu _ _=>?_|refine ry (id:=21) [] (cq [3,7,11,15]) fun nu _ _=>?_|refine ry [] c0 fun nu _ _=>?_);simp -dsimp (disch:=omega) only[go_sem,hx, szA, kz0, kz1, kz2, kz3, kz4, kz5, kz6, kz7, kz8, kz9, kz10, kz11])|refine e0 (by decide) ?_|(refine And.intro ?_ ?_;omega)|refine And.intro (of_eq_true PutAt_put) ?_|refine gT ?_|refine gF ?_|(refine gI (fun h=>?_) (fun h=>?_)<;>(try contradiction)<;>(try refine rd ?_)<;>(try simp -dsimp (disch:=omega) only[go_sem,h,hx, szA, kz0, kz1, kz2, kz3, kz4, kz5, kz6, kz7, kz8, kz9, kz10, kz11]))|refine Exists.intro _ (Exists.intro _ (And.intro (And.intro rfl rfl) ?_)) |refine us (d3) ?_ |fail
        exact ⟨(i + 1, v ++ (⟨#[32, 108, 105, 110, 107, 32]⟩ : ByteArray) ++ x.name ++ (⟨#[32, 99, 111, 115, 116, 32]⟩ : ByteArray) ++ digB x.cost ++ (⟨#[59, 10]⟩ : ByteArray)), by simp only;omega, ⟨by simp only;omega, by simp only;simp only [asA] at hvi ⊢;exact hvi⟩, Env.Sub_of_has (by simp [Env.Has, Env.get, eRtr]), Store.Sub.refl _⟩
      · have hi' : i = y.links.length := by omega
        subst hi'
        rw [List.drop_eq_nil_of_le (by simp), catB, emA] at hvi
        simp only [hvi]
        repeat' first |refine s1 ?_|refine gS ?_|refine wT rfl ?_|refine wF rfl ?_|refine wt rfl ?_|refine wf rfl ?_|(refine wC rfl (fun h=>?_) (fun h=>?_)<;>(try contradiction))|((first|refine rd ?_|refine ry [] c0 fun nu _ _=>?_);simp -dsimp (disch:=omega) only[go_sem,szA, kz0, kz1, kz2, kz3, kz4, kz5, kz6, kz7, kz8, kz9, kz10, kz11])|refine e0 (by decide) ?_|(refine And.intro ?_ ?_;omega)|refine And.intro (of_eq_true PutAt_put) ?_|refine gT ?_|refine gF ?_|(refine gI (fun h=>?_) (fun h=>?_)<;>(try contradiction)<;>(try refine rd ?_)<;>(try simp -dsimp (disch:=omega) only[go_sem,h,szA, kz0, kz1, kz2, kz3, kz4, kz5, kz6, kz7, kz8, kz9, kz10, kz11]))|refine Exists.intro _ (Exists.intro _ (And.intro (And.intro rfl rfl) ?_)) |fail
theorem rtext_spec (c : Cfg) (hg : c.Good) (hz : (cfgText c).size ≤ 140737488355328) (hcl : ∀ x, x ∈ c.maps → ∀ d, d ∈ x.l → ((d.m.c.asn = 0 ∧ d.m.c.n = 0) ∨ comMay d.m.c = true) ∧ eachP 16 (fun n => withinZ n 1 65535) d.s.pre = true) : Pure Tryz.prog 11 [eCfg c] (.str (cfgText c)) := by
  intro σ
  have ln1 := hg.fits.lists
  have ln2 := hg.fits.maps
  have ln3 := hg.fits.routers
  have kzE : (⟨#[]⟩ : ByteArray).size = 0 := rfl
  obtain ⟨b1, hb1⟩ : ∃ b, (⟨#[]⟩ : ByteArray) ++ catB (c.lists.map lstText) = b := ⟨_, rfl⟩
  obtain ⟨b2, hb2⟩ : ∃ b, b1 ++ catB (c.maps.map mapText) = b := ⟨_, rfl⟩
  have hfin : b2 ++ catB (c.routers.map rtrText) = cfgText c := by
    rw [← hb2, ← hb1, cfgText, eA]; simp only [asA]
  have hz1 := congrArg ByteArray.size hb1
  have hz2 := congrArg ByteArray.size hb2
  have hz3 := congrArg ByteArray.size hfin
  simp only [szA] at hz1 hz2 hz3
  replace hb1 : Hid _ := ⟨hb1⟩
  replace hb2 : Hid _ := ⟨hb2⟩
  replace hfin : Hid _ := ⟨hfin⟩
  refine PCall_q [.tmp 2] 111 Tryz.func11 (by rfl) rfl rfl rfl rfl ?_
  repeat' first |refine s1 ?_|refine gS ?_|refine wT rfl ?_|refine wF rfl ?_|refine wt rfl ?_|refine wf rfl ?_|(refine wC rfl (fun h=>?_) (fun h=>?_)<;>(try contradiction))|((first|refine rd ?_|refine ry [] c0 fun nu _ _=>?_);simp -dsimp (disch:=omega) only[go_sem])|refine e0 (by decide) ?_|(refine And.intro ?_ ?_;omega)|refine And.intro (of_eq_true PutAt_put) ?_|refine gT ?_|refine gF ?_|(refine gI (fun h=>?_) (fun h=>?_)<;>(try contradiction)<;>(try refine rd ?_)<;>(try simp -dsimp (disch:=omega) only[go_sem,h]))|refine Exists.intro _ (Exists.intro _ (And.intro (And.intro rfl rfl) ?_)) |fail
  refine W_loop_st (fun st : Nat × ByteArray => [(1, .ip (eCfg c) 0), (3, .str st.2), (4, .int .i64 st.1)]) (fun _ => σ) (fun st => st.1 ≤ c.lists.length ∧ st.2 ++ catB ((c.lists.map lstText).drop st.1) = (⟨#[]⟩ : ByteArray) ++ catB (c.lists.map lstText)) (fun st => c.lists.length - st.1) (0, (⟨#[]⟩ : ByteArray)) ⟨Nat.zero_le _, rfl⟩ (Env.Sub_of_has (by simp [Env.Has, Env.get, eCfg])) (Store.Sub.refl _) ?_
  rintro ⟨i, v⟩ ⟨hii, hvi⟩
  simp only at hii hvi
  by_cases hli : i < c.lists.length
  · have hmemi : c.lists.getD i default ∈ c.lists := mem_getD hli
    have hcat := cat_drop lstText hli
    rw [hcat] at hvi
    clear hcat
    have hszi := congrArg ByteArray.size hvi
    simp only [szA] at hszi
    obtain ⟨x, hx⟩ : ∃ z, c.lists.getD i default = z := ⟨_, rfl⟩
    rw [hx] at hmemi hvi hszi
    try simp only at hvi
    rw [lstText, lst_line, end_line] at hvi hszi
    simp only [szA, kz0, kz1, kz2, kz3, kz4, kz5, kz6, kz7, kz8, kz9, kz10, kz11] at hszi
    have hll := (hg.fits.lst x hmemi).1
    obtain ⟨w0, hw0⟩ : ∃ b, v ++ (⟨#[112, 114, 101, 102, 105, 120, 45, 108, 105, 115, 116, 32]⟩ : ByteArray) ++ x.name ++ (⟨#[32, 123, 10]⟩ : ByteArray) = b := ⟨_, rfl⟩
    have hzw := congrArg ByteArray.size hw0
    simp only [szA, kz0, kz1, kz2, kz3, kz4, kz5, kz6, kz7, kz8, kz9, kz10, kz11] at hzw
    repeat' first |refine s1 ?_|refine gS ?_|refine wT rfl ?_|refine wF rfl ?_|refine wt rfl ?_|refine wf rfl ?_|(refine wC rfl (fun h=>?_) (fun h=>?_)<;>(try contradiction))|((first|refine rd ?_|refine ry [] c0 fun nu _ _=>?_);simp -dsimp (disch:=omega) only[go_sem,hx, szA, hw0, kz0, kz1, kz2, kz3, kz4, kz5, kz6, kz7, kz8, kz9, kz10, kz11])|refine e0 (by decide) ?_|(refine And.intro ?_ ?_;omega)|refine And.intro (of_eq_true PutAt_put) ?_|refine gT ?_|refine gF ?_|(refine gI (fun h=>?_) (fun h=>?_)<;>(try contradiction)<;>(try refine rd ?_)<;>(try simp -dsimp (disch:=omega) only[go_sem,h,hx, szA, hw0, kz0, kz1, kz2, kz3, kz4, kz5, kz6, kz7, kz8, kz9, kz10, kz11]))|refine Exists.intro _ (Exists.intro _ (And.intro (And.intro rfl rfl) ?_)) |fail
    replace hw0 : Hid _ := ⟨hw0⟩
    refine W_loop_st (fun st : Nat × ByteArray => [(1, .ip (eCfg c) 0), (4, .int .i64 i), (3, .str st.2), (5, .int .i64 st.1)]) (fun _ => σ) (fun st => st.1 ≤ x.l.length ∧ st.2 ++ catB ((x.l.map (fun r => lineB 1 [rngText r ++ (⟨#[59]⟩ : ByteArray)])).drop st.1) = w0 ++ catB (x.l.map (fun r => lineB 1 [rngText r ++ (⟨#[59]⟩ : ByteArray)]))) (fun st => x.l.length - st.1) (0, w0) ⟨Nat.zero_le _, rfl⟩ (Env.Sub_of_has (by simp [Env.Has, Env.get, eCfg])) (Store.Sub.refl _) ?_
    rintro ⟨j, u⟩ ⟨hij, hvj⟩
    simp only at hij hvj
    by_cases hlj : j < x.l.length
    · have hmemj : x.l.getD j default ∈ x.l := mem_getD hlj
      have hcat := cat_drop (fun r => lineB 1 [rngText r ++ (⟨#[59]⟩ : ByteArray)]) hlj
      rw [hcat] at hvj
      clear hcat
      have hszj := congrArg ByteArray.size hvj
      simp only [szA] at hszj
      obtain ⟨w, hw⟩ : ∃ z, x.l.getD j default = z := ⟨_, rfl⟩
      rw [hw] at hmemj hvj hszj
      try simp only at hvj
      rw [rule_line] at hvj hszj
      simp only [szA, kz0, kz1, kz2, kz3, kz4, kz5, kz6, kz7, kz8, kz9, kz10, kz11] at hszj
      have d3 := rrngText_spec w (hg.lists x hmemi w hmemj)
      repeat' first |refine s1 ?_|refine gS ?_|refine wT rfl ?_|refine wF rfl ?_|refine wt rfl ?_|refine wf rfl ?_|(refine wC rfl (fun h=>?_) (fun h=>?_)<;>(try contradiction))|((first|refine rd ?_|refine ry [] c0 fun nu _ _=>?_);simp -dsimp (disch:=omega) only[go_sem,hx, hw, szA, kz0, kz1, kz2, kz3, kz4, kz5, kz6, kz7, kz8, kz9, kz10, kz11])|refine e0 (by decide) ?_|(refine And.intro ?_ ?_;omega)|refine And.intro (of_eq_true PutAt_put) ?_|refine gT ?_|refine gF ?_|(refine gI (fun h=>?_) (fun h=>?_)<;>(try contradiction)<;>(try refine rd ?_)<;>(try simp -dsimp (disch:=omega) only[go_sem,h,hx, hw, szA, kz0, kz1, kz2, kz3, kz4, kz5, kz6, kz7, kz8, kz9, kz10, kz11]))|refine Exists.intro _ (Exists.intro _ (And.intro (And.intro rfl rfl) ?_)) |refine us (d3) ?_ |fail
      exact ⟨(j + 1, u ++ (⟨#[32]⟩ : ByteArray) ++ rngText w ++ (⟨#[59, 10]⟩ : ByteArray)), by simp only;omega, ⟨by simp only;omega, by simp only;simp only [asA] at hvj ⊢;exact hvj⟩, Env.Sub_of_has (by simp [Env.Has, Env.get, eCfg]), Store.Sub.refl _⟩
    · have hi' : j = x.l.length := by omega
      subst hi'
      rw [List.drop_eq_nil_of_le (by simp), catB, emA] at hvj
      have hsu := congrArg ByteArray.size hvj
      try simp only [szA] at hsu
      repeat' first |refine s1 ?_|refine gS ?_|refine wT rfl ?_|refine wF rfl ?_|refine wt rfl ?_|refine wf rfl ?_|(refine wC rfl (fun h=>?_) (fun h=>?_)<;>(try contradiction))|((first|refine rd ?_|refine ry [] c0 fun nu _ _=>?_);simp -dsimp (disch:=omega) only[go_sem,szA, kz0, kz1, kz2, kz3, kz4, kz5, kz6, kz7, kz8, kz9, kz10, kz11, hx])|refine e0 (by decide) ?_|(refine And.intro ?_ ?_;omega)|refine And.intro (of_eq_true PutAt_put) ?_|refine gT ?_|refine gF ?_|(refine gI (fun h=>?_) (fun h=>?_)<;>(try contradiction)<;>(try refine rd ?_)<;>(try simp -dsimp (disch:=omega) only[go_sem,h,szA, kz0, kz1, kz2, kz3, kz4, kz5, kz6, kz7, kz8, kz9, kz10, kz11, hx]))|refine Exists.intro _ (Exists.intro _ (And.intro (And.intro rfl rfl) ?_)) |fail
      exact ⟨(i + 1, u ++ (⟨#[125, 10]⟩ : ByteArray)), by simp only;omega, ⟨by simp only;omega, by simp only;rw [hvj, ← hw0.out];simp only [asA] at hvi ⊢;exact hvi⟩, Env.Sub_of_has (by simp [Env.Has, Env.get, eCfg]), Store.Sub.refl _⟩
  · have hi' : i = c.lists.length := by omega
    subst hi'
    rw [List.drop_eq_nil_of_le (by simp), catB, emA] at hvi
    rw [hb1.out] at hvi
    rw [hvi]
    repeat' first |refine s1 ?_|refine gS ?_|refine wT rfl ?_|refine wF rfl ?_|refine wt rfl ?_|refine wf rfl ?_|(refine wC rfl (fun h=>?_) (fun h=>?_)<;>(try contradiction))|((first|refine rd ?_|refine ry [] c0 fun nu _ _=>?_);simp -dsimp (disch:=omega) only[go_sem])|refine e0 (by decide) ?_|(refine And.intro ?_ ?_;omega)|refine And.intro (of_eq_true PutAt_put) ?_|refine gT ?_|refine gF ?_|(refine gI (fun h=>?_) (fun h=>?_)<;>(try contradiction)<;>(try refine rd ?_)<;>(try simp -dsimp (disch:=omega) only[go_sem,h]))|refine Exists.intro _ (Exists.intro _ (And.intro (And.intro rfl rfl) ?_)) |fail
    refine W_loop_st (fun st : Nat × ByteArray => [(1, .ip (eCfg c) 0), (3, .str st.2), (6, .int .i64 st.1)]) (fun _ => σ) (fun st => st.1 ≤ c.maps.length ∧ st.2 ++ catB ((c.maps.map mapText).drop st.1) = b1 ++ catB (c.maps.map mapText)) (fun st => c.maps.length - st.1) (0, b1) ⟨Nat.zero_le _, rfl⟩ (Env.Sub_of_has (by simp [Env.Has, Env.get, eCfg])) (Store.Sub.refl _) ?_
    rintro ⟨i, v⟩ ⟨hii, hvi⟩
    simp only at hii hvi
    by_cases hli : i < c.maps.length
    · have hmemi : c.maps.getD i default ∈ c.maps := mem_getD hli
      have hcat := cat_drop mapText hli
      rw [hcat] at hvi
      clear hcat
      have hszi := congrArg ByteArray.size hvi
      simp only [szA] at hszi
      obtain ⟨x, hx⟩ : ∃ z, c.maps.getD i default = z := ⟨_, rfl⟩
      rw [hx] at hmemi hvi hszi
      try simp only at hvi
      rw [mapText, map_line, end_line] at hvi hszi
      simp only [szA, kz0, kz1, kz2, kz3, kz4, kz5, kz6, kz7, kz8, kz9, kz10, kz11] at hszi
      have hll := (hg.fits.map x hmemi).len
      obtain ⟨w0, hw0⟩ : ∃ b, v ++ (⟨#[114, 111, 117, 116, 101, 45, 109, 97, 112, 32]⟩ : ByteArray) ++ x.name ++ (⟨#[32, 123, 10]⟩ : ByteArray) = b := ⟨_, rfl⟩
      have hzw := congrArg ByteArray.size hw0
      simp only [szA, kz0, kz1, kz2, kz3, kz4, kz5, kz6, kz7, kz8, kz9, kz10, kz11] at hzw
      repeat' first |refine s1 ?_|refine gS ?_|refine wT rfl ?_|refine wF rfl ?_|refine wt rfl ?_|refine wf rfl ?_|(refine wC rfl (fun h=>?_) (fun h=>?_)<;>(try contradiction))|((first|refine rd ?_|refine ry [] c0 fun nu _ _=>?_);simp -dsimp (disch:=omega) only[go_sem,hx, szA, hw0, kz0, kz1, kz2, kz3, kz4, kz5, kz6, kz7, kz8, kz9, kz10, kz11])|refine e0 (by decide) ?_|(refine And.intro ?_ ?_;omega)|refine And.intro (of_eq_true PutAt_put) ?_|refine gT ?_|refine gF ?_|(refine gI (fun h=>?_) (fun h=>?_)<;>(try contradiction)<;>(try refine rd ?_)<;>(try simp -dsimp (disch:=omega) only[go_sem,h,hx, szA, hw0, kz0, kz1, kz2, kz3, kz4, kz5, kz6, kz7, kz8, kz9, kz10, kz11]))|refine Exists.intro _ (Exists.intro _ (And.intro (And.intro rfl rfl) ?_)) |fail
      replace hw0 : Hid _ := ⟨hw0⟩
      refine W_loop_st (fun st : Nat × ByteArray => [(1, .ip (eCfg c) 0), (6, .int .i64 i), (3, .str st.2), (7, .int .i64 st.1)]) (fun _ => σ) (fun st => st.1 ≤ x.l.length ∧ st.2 ++ catB ((x.l.map clsText).drop st.1) = w0 ++ catB (x.l.map clsText)) (fun st => x.l.length - st.1) (0, w0) ⟨Nat.zero_le _, rfl⟩ (Env.Sub_of_has (by simp [Env.Has, Env.get, eCfg])) (Store.Sub.refl _) ?_
      rintro ⟨j, u⟩ ⟨hij, hvj⟩
      simp only at hij hvj
      by_cases hlj : j < x.l.length
      · have hmemj : x.l.getD j default ∈ x.l := mem_getD hlj
        have hcat := cat_drop clsText hlj
        rw [hcat] at hvj
        clear hcat
        have hszj := congrArg ByteArray.size hvj
        simp only [szA] at hszj
        obtain ⟨w, hw⟩ : ∃ z, x.l.getD j default = z := ⟨_, rfl⟩
        rw [hw] at hmemj hvj hszj
        obtain ⟨m1, m2⟩ := hcl x hmemi w hmemj
        have d3 := rcls_spec w (hg.maps x hmemi w hmemj) m1 m2
        repeat' first |refine s1 ?_|refine gS ?_|refine wT rfl ?_|refine wF rfl ?_|refine wt rfl ?_|refine wf rfl ?_|(refine wC rfl (fun h=>?_) (fun h=>?_)<;>(try contradiction))|((first|refine rd ?_|refine ry [] c0 fun nu _ _=>?_);simp -dsimp (disch:=omega) only[go_sem,hx, hw, szA, kz0, kz1, kz2, kz3, kz4, kz5, kz6, kz7, kz8, kz9, kz10, kz11])|refine e0 (by decide) ?_|(refine And.intro ?_ ?_;omega)|refine And.intro (of_eq_true PutAt_put) ?_|refine gT ?_|refine gF ?_|(refine gI (fun h=>?_) (fun h=>?_)<;>(try contradiction)<;>(try refine rd ?_)<;>(try simp -dsimp (disch:=omega) only[go_sem,h,hx, hw, szA, kz0, kz1, kz2, kz3, kz4, kz5, kz6, kz7, kz8, kz9, kz10, kz11]))|refine Exists.intro _ (Exists.intro _ (And.intro (And.intro rfl rfl) ?_)) |refine us (d3) ?_ |fail
        exact ⟨(j + 1, u ++ clsText w), by simp only;omega, ⟨by simp only;omega, by simp only;simp only [asA] at hvj ⊢;exact hvj⟩, Env.Sub_of_has (by simp [Env.Has, Env.get, eCfg]), Store.Sub.refl _⟩
      · have hi' : j = x.l.length := by omega
        subst hi'
        rw [List.drop_eq_nil_of_le (by simp), catB, emA] at hvj
        have hsu := congrArg ByteArray.size hvj
        try simp only [szA] at hsu
        repeat' first |refine s1 ?_|refine gS ?_|refine wT rfl ?_|refine wF rfl ?_|refine wt rfl ?_|refine wf rfl ?_|(refine wC rfl (fun h=>?_) (fun h=>?_)<;>(try contradiction))|((first|refine rd ?_|refine ry [] c0 fun nu _ _=>?_);simp -dsimp (disch:=omega) only[go_sem,szA, kz0, kz1, kz2, kz3, kz4, kz5, kz6, kz7, kz8, kz9, kz10, kz11, hx])|refine e0 (by decide) ?_|(refine And.intro ?_ ?_;omega)|refine And.intro (of_eq_true PutAt_put) ?_|refine gT ?_|refine gF ?_|(refine gI (fun h=>?_) (fun h=>?_)<;>(try contradiction)<;>(try refine rd ?_)<;>(try simp -dsimp (disch:=omega) only[go_sem,h,szA, kz0, kz1, kz2, kz3, kz4, kz5, kz6, kz7, kz8, kz9, kz10, kz11, hx]))|refine Exists.intro _ (Exists.intro _ (And.intro (And.intro rfl rfl) ?_)) |fail
        exact ⟨(i + 1, u ++ (⟨#[125, 10]⟩ : ByteArray)), by simp only;omega, ⟨by simp only;omega, by simp only;rw [hvj, ← hw0.out];simp only [asA] at hvi ⊢;exact hvi⟩, Env.Sub_of_has (by simp [Env.Has, Env.get, eCfg]), Store.Sub.refl _⟩
    · have hi' : i = c.maps.length := by omega
      subst hi'
      rw [List.drop_eq_nil_of_le (by simp), catB, emA] at hvi
      rw [hb2.out] at hvi
      rw [hvi]
      repeat' first |refine s1 ?_|refine gS ?_|refine wT rfl ?_|refine wF rfl ?_|refine wt rfl ?_|refine wf rfl ?_|(refine wC rfl (fun h=>?_) (fun h=>?_)<;>(try contradiction))|((first|refine rd ?_|refine ry [] c0 fun nu _ _=>?_);simp -dsimp (disch:=omega) only[go_sem])|refine e0 (by decide) ?_|(refine And.intro ?_ ?_;omega)|refine And.intro (of_eq_true PutAt_put) ?_|refine gT ?_|refine gF ?_|(refine gI (fun h=>?_) (fun h=>?_)<;>(try contradiction)<;>(try refine rd ?_)<;>(try simp -dsimp (disch:=omega) only[go_sem,h]))|refine Exists.intro _ (Exists.intro _ (And.intro (And.intro rfl rfl) ?_)) |fail
      refine W_loop_st (fun st : Nat × ByteArray => [(1, .ip (eCfg c) 0), (3, .str st.2), (8, .int .i64 st.1)]) (fun _ => σ) (fun st => st.1 ≤ c.routers.length ∧ st.2 ++ catB ((c.routers.map rtrText).drop st.1) = b2 ++ catB (c.routers.map rtrText)) (fun st => c.routers.length - st.1) (0, b2) ⟨Nat.zero_le _, rfl⟩ (Env.Sub_of_has (by simp [Env.Has, Env.get, eCfg])) (Store.Sub.refl _) ?_
      rintro ⟨i, v⟩ ⟨hii, hvi⟩
      simp only at hii hvi
      by_cases hli : i < c.routers.length
      · have hmemi : c.routers.getD i default ∈ c.routers := mem_getD hli
        have hcat := cat_drop rtrText hli
        rw [hcat] at hvi
        clear hcat
        have hszi := congrArg ByteArray.size hvi
        simp only [szA] at hszi
        obtain ⟨x, hx⟩ : ∃ z, c.routers.getD i default = z := ⟨_, rfl⟩
        rw [hx] at hmemi hvi hszi
        try simp only at hvi
        have d3 := rrtr_spec x (hg.routers x hmemi) (by omega)
        repeat' first |refine s1 ?_|refine gS ?_|refine wT rfl ?_|refine wF rfl ?_|refine wt rfl ?_|refine wf rfl ?_|(refine wC rfl (fun h=>?_) (fun h=>?_)<;>(try contradiction))|((first|refine rd ?_|refine ry [] c0 fun nu _ _=>?_);simp -dsimp (disch:=omega) only[go_sem,hx, szA])|refine e0 (by decide) ?_|(refine And.intro ?_ ?_;omega)|refine And.intro (of_eq_true PutAt_put) ?_|refine gT ?_|refine gF ?_|(refine gI (fun h=>?_) (fun h=>?_)<;>(try contradiction)<;>(try refine rd ?_)<;>(try simp -dsimp (disch:=omega) only[go_sem,h,hx, szA]))|refine Exists.intro _ (Exists.intro _ (And.intro (And.intro rfl rfl) ?_)) |refine us (d3) ?_ |fail
        exact ⟨(i + 1, v ++ rtrText x), by simp only;omega, ⟨by simp only;omega, by simp only;simp only [asA] at hvi ⊢;exact hvi⟩, Env.Sub_of_has (by simp [Env.Has, Env.get, eCfg]), Store.Sub.refl _⟩
      · have hi' : i = c.routers.length := by omega
        subst hi'
        rw [List.drop_eq_nil_of_le (by simp), catB, emA] at hvi
        simp only [hvi]
        repeat' first |refine s1 ?_|refine gS ?_|refine wT rfl ?_|refine wF rfl ?_|refine wt rfl ?_|refine wf rfl ?_|(refine wC rfl (fun h=>?_) (fun h=>?_)<;>(try contradiction))|((first|refine rd ?_|refine ry [] c0 fun nu _ _=>?_);simp -dsimp (disch:=omega) only[go_sem])|refine e0 (by decide) ?_|(refine And.intro ?_ ?_;omega)|refine And.intro (of_eq_true PutAt_put) ?_|refine gT ?_|refine gF ?_|(refine gI (fun h=>?_) (fun h=>?_)<;>(try contradiction)<;>(try refine rd ?_)<;>(try simp -dsimp (disch:=omega) only[go_sem,h]))|refine Exists.intro _ (Exists.intro _ (And.intro (And.intro rfl rfl) ?_)) |fail
        first | exact ⟨by rw [hfin.out], Store.Sub.refl _⟩ | rw [hfin.out] | skip
end Go.Proofs.YtaealcimocpnnaaGreat
namespace Go.Proofs.YtaealcimocpnnaaGreat
open Go.Kern Go.RowKit
set_option maxRecDepth 100000
set_option maxHeartbeats 4000000
attribute [local irreducible] PCall W
theorem prints_spec (c : Cfg) (hW : c.Wf) (σ : Store) : PCall Tryz.prog 3 [eCfg c] σ (fun r s => r = .bool true ∧ s = σ) := by
  have hl := lives_spec
  refine PCall_q [.tmp 2] 57 Tryz.func3 (by rfl) rfl rfl rfl rfl ?_
  repeat' first |refine s1 ?_|refine gS ?_|refine wT rfl ?_|refine wF rfl ?_|refine wt rfl ?_|refine wf rfl ?_|(refine wC rfl (fun h=>?_) (fun h=>?_)<;>(try contradiction))|((first|refine rd ?_|refine ry [] c0 fun nu _ _=>?_);simp -dsimp (disch:=omega) only[go_sem])|refine e0 (by decide) ?_|(refine And.intro ?_ ?_;omega)|refine And.intro (of_eq_true PutAt_put) ?_|refine gT ?_|refine gF ?_|(refine gI (fun h=>?_) (fun h=>?_)<;>(try contradiction)<;>(try refine rd ?_)<;>(try simp -dsimp (disch:=omega) only[go_sem,h]))|refine Exists.intro _ (Exists.intro _ (And.intro (And.intro rfl rfl) ?_)) |fail
  refine ck (small_spec c σ) ?_
  rintro _ _ ⟨rfl | ⟨rfl, hS⟩, rfl⟩
  · skip
    repeat' first |refine s1 ?_|refine gS ?_|refine wT rfl ?_|refine wF rfl ?_|refine wt rfl ?_|refine wf rfl ?_|(refine wC rfl (fun h=>?_) (fun h=>?_)<;>(try contradiction))|((first|refine rd ?_|refine ry [] c0 fun nu _ _=>?_);simp -dsimp (disch:=omega) only[go_sem])|refine e0 (by decide) ?_|(refine And.intro ?_ ?_;omega)|refine And.intro (of_eq_true PutAt_put) ?_|refine gT ?_|refine gF ?_|(refine gI (fun h=>?_) (fun h=>?_)<;>(try contradiction)<;>(try refine rd ?_)<;>(try simp -dsimp (disch:=omega) only[go_sem,h]))|refine Exists.intro _ (Exists.intro _ (And.intro (And.intro rfl rfl) ?_)) |refine us (hl) ?_ |fail
  have hp := in_print hS hW
  have hm := cfgMay_spec c (in_fits c hS hW)
  have hr := rmay_spec c hS hW
  by_cases hM : cfgMay c = true
  · have hg := in_good hS hW hM
    have hz := in_size hS hg (fun x hx n hn => by
      have h1 := ((may_parts hM).routers x hx).1
      simp only [rtrMay, Bool.and_eq_true] at h1
      have := name_size (unlike_name _ _ h1.2.2.2.2.2.2.2 n.name (List.mem_map.2 ⟨n, hn, rfl⟩))
      omega)
    have ht := rtext_spec c hg hz (fun x hx d hd => by
      obtain ⟨last, h0, h1⟩ := cls_of ((may_parts hM).maps x hx).1 hd
      simp only [clsMay, matMay, chgMay, Bool.and_eq_true, Bool.or_eq_true, decide_eq_true_eq] at h1
      exact ⟨h1.2.1.2.2, h1.2.2.2.2.2.2.2⟩)
    rw [hM] at hm hr
    by_cases hL : 8192 < (cfgText c).size
    · have hE : printE c = 2 := by rw [printE, if_pos hM, if_pos hL]
      have hT : printS c = ⟨#[]⟩ := by rw [printS, hE]; rfl
      rw [hE, hT] at hp
      repeat' first |refine s1 ?_|refine gS ?_|refine wT rfl ?_|refine wF rfl ?_|refine wt rfl ?_|refine wf rfl ?_|(refine wC rfl (fun h=>?_) (fun h=>?_)<;>(try contradiction))|((first|refine rd ?_|refine ry [] c0 fun nu _ _=>?_);simp -dsimp (disch:=omega) only[go_sem])|refine e0 (by decide) ?_|(refine And.intro ?_ ?_;omega)|refine And.intro (of_eq_true PutAt_put) ?_|refine gT ?_|refine gF ?_|(refine gI (fun h=>?_) (fun h=>?_)<;>(try contradiction)<;>(try refine rd ?_)<;>(try simp -dsimp (disch:=omega) only[go_sem,h]))|refine Exists.intro _ (Exists.intro _ (And.intro (And.intro rfl rfl) ?_)) |refine us (hl) ?_ |refine us (hp) ?_ |refine us (hm) ?_ |refine us (hr) ?_ |refine us (ht) ?_ |fail
    · have hE : printE c = 0 := by rw [printE, if_pos hM, if_neg hL]
      have hT : printS c = cfgText c := by rw [printS, hE]; rfl
      rw [hE, hT] at hp
      repeat' first |refine s1 ?_|refine gS ?_|refine wT rfl ?_|refine wF rfl ?_|refine wt rfl ?_|refine wf rfl ?_|(refine wC rfl (fun h=>?_) (fun h=>?_)<;>(try contradiction))|((first|refine rd ?_|refine ry [] c0 fun nu _ _=>?_);simp -dsimp (disch:=omega) only[go_sem])|refine e0 (by decide) ?_|(refine And.intro ?_ ?_;omega)|refine And.intro (of_eq_true PutAt_put) ?_|refine gT ?_|refine gF ?_|(refine gI (fun h=>?_) (fun h=>?_)<;>(try contradiction)<;>(try refine rd ?_)<;>(try simp -dsimp (disch:=omega) only[go_sem,h]))|refine Exists.intro _ (Exists.intro _ (And.intro (And.intro rfl rfl) ?_)) |refine us (hl) ?_ |refine us (hp) ?_ |refine us (hm) ?_ |refine us (hr) ?_ |refine us (ht) ?_ |fail
  · have hF : cfgMay c = false := by simpa using hM
    have hE : printE c = 1 := by rw [printE, if_neg hM]
    have hT : printS c = ⟨#[]⟩ := by rw [printS, hE]; rfl
    rw [hF] at hm hr
    rw [hE, hT] at hp
    repeat' first |refine s1 ?_|refine gS ?_|refine wT rfl ?_|refine wF rfl ?_|refine wt rfl ?_|refine wf rfl ?_|(refine wC rfl (fun h=>?_) (fun h=>?_)<;>(try contradiction))|((first|refine rd ?_|refine ry [] c0 fun nu _ _=>?_);simp -dsimp (disch:=omega) only[go_sem])|refine e0 (by decide) ?_|(refine And.intro ?_ ?_;omega)|refine And.intro (of_eq_true PutAt_put) ?_|refine gT ?_|refine gF ?_|(refine gI (fun h=>?_) (fun h=>?_)<;>(try contradiction)<;>(try refine rd ?_)<;>(try simp -dsimp (disch:=omega) only[go_sem,h]))|refine Exists.intro _ (Exists.intro _ (And.intro (And.intro rfl rfl) ?_)) |refine us (hl) ?_ |refine us (hp) ?_ |refine us (hm) ?_ |refine us (hr) ?_ |fail
end Go.Proofs.YtaealcimocpnnaaGreat
namespace Go.Proofs.YtaealcimocpnnaaGreat
open Go.Kern Go.RowKit Go.ChangeShapes
def pfxSh : Sh := .cons (.int .u32) (.cons intSh .nil)
def rngSh : Sh := .cons pfxSh (.cons intSh (.cons intSh (.cons .bool .nil)))
def comSh : Sh := .cons intSh (.cons intSh .nil)
def matSh : Sh := .cons .str (.cons .str (.cons comSh .nil))
def chgSh : Sh := .cons intSh (.cons intSh (.cons intSh (.cons (.sl comSh true) (.cons (.sl comSh true) (.cons .bool (.cons (.sl intSh false) .nil))))))
def clsSh : Sh := .cons intSh (.cons .bool (.cons matSh (.cons chgSh .nil)))
def mapSh : Sh := .cons .str (.cons (.sl clsSh true) .nil)
def lstSh : Sh := .cons .str (.cons (.sl rngSh true) .nil)
def nbrSh : Sh := .cons .str (.cons .str (.cons .str (.cons .bool .nil)))
def lnkSh : Sh := .cons .str (.cons intSh .nil)
def rtrSh : Sh := .cons .str (.cons intSh (.cons intSh (.cons (.sl pfxSh true) (.cons (.sl nbrSh true) (.cons (.sl lnkSh true) .nil)))))
def cfgSh : Sh := .cons (.sl lstSh true) (.cons (.sl mapSh true) (.cons (.sl rtrSh true) .nil))
theorem chk_cfg : (cfgSh.chk Tryz.prog).1 26 = true := by kernel_rfl
theorem own : ownKnob Tryz.prog.godebug = none := by kernel_rfl
theorem laid : laidOutB Tryz.prog = true := by kernel_rfl
theorem types_cfg : Tryz.prog.readableRec 26 = true ∧ 26 < Tryz.prog.types.size := ⟨by kernel_rfl, of_decide_eq_true (by kernel_rfl)⟩
theorem sl_ofP {α : Type} {e : Sh} {ag : Bool} (f : α → AV) (Pr : α → Prop) (hf : ∀ y, e.ok y → ∃ a, wrapV ag y = f a ∧ Pr a) {l : List AV} (h : (Sh.sl e ag).ok l) : ∃ (k : SK) (zs : List α), l = [.sl k (encL f zs)] ∧ ∀ z, z ∈ zs → Pr z := by
  have gen : ∀ ys : List (List AV), (∀ y, y ∈ ys → e.ok y) → ∃ zs : List α, ys.map (wrapV ag) = zs.map f ∧ ∀ z, z ∈ zs → Pr z := by
    intro ys
    induction ys with
    | nil => exact fun _ => ⟨[], rfl, fun z hz => by simp at hz⟩
    | cons y ys ih =>
      intro h
      obtain ⟨a, ha, hp⟩ := hf y (h y List.mem_cons_self)
      obtain ⟨zs, h1, h2⟩ := ih fun y hy => h y (List.mem_cons_of_mem _ hy)
      exact ⟨a :: zs, by rw [List.map_cons, h1, ha]; rfl, fun z hz => by
        rcases List.mem_cons.1 hz with rfl | hz
        · exact hp
        · exact h2 z hz⟩
  obtain ⟨k, ys, rfl, h1, h2⟩ := h
  obtain ⟨zs, h3, h4⟩ := gen ys h2
  exact ⟨k, zs, by rw [h3]; rfl, h4⟩
theorem pfx_of {l : List AV} (h : pfxSh.ok l) : ∃ p : Pfx, AV.agg l = ePfx p ∧ p.Ok := by
  obtain ⟨x1, r1, rfl, ⟨a, rfl, wa⟩, x2, r2, rfl, ⟨b, rfl, _⟩, rfl⟩ := h
  refine ⟨⟨a, b⟩, rfl, ?_⟩
  simp [Lit.wf, IntKind.min, IntKind.max] at wa
  show 0 ≤ a ∧ a < 4294967296
  simp [IntKind.signed, IntKind.bits] at wa
  omega
theorem rng_of {l : List AV} (h : rngSh.ok l) : ∃ r : Rng, AV.agg l = eRng r ∧ r.p.Ok := by
  obtain ⟨x0, r0, rfl, h0, x1, r1, rfl, ⟨ge, rfl, _⟩, x2, r2, rfl, ⟨le, rfl, _⟩, x3, r3, rfl, ⟨b, rfl⟩, rfl⟩ := h
  obtain ⟨p, hp, ho⟩ := pfx_of h0
  simp only [ePfx, AV.agg.injEq] at hp
  subst hp
  exact ⟨⟨p, ge, le, b⟩, rfl, ho⟩
theorem com_of {l : List AV} (h : comSh.ok l) : ∃ c : Com, AV.agg l = eCom c ∧ True := by
  obtain ⟨x1, r1, rfl, ⟨a, rfl, _⟩, x2, r2, rfl, ⟨b, rfl, _⟩, rfl⟩ := h
  exact ⟨⟨a, b⟩, rfl, trivial⟩
theorem cls_ofA {l : List AV} (h : clsSh.ok l) : ∃ c : Cls, AV.agg l = eCls c ∧ True := by
  obtain ⟨x1, r1, rfl, ⟨n, rfl, _⟩, x2, r2, rfl, ⟨b, rfl⟩, x3, r3, rfl, ⟨m1, q1, rfl, ⟨ml, rfl, _⟩, m2, q2, rfl, ⟨mp, rfl, _⟩, m3, q3, rfl, h3, rfl⟩, x4, r4, rfl, hs, rfl⟩ := h
  obtain ⟨mc, hmc, _⟩ := com_of h3
  simp only [eCom, AV.agg.injEq] at hmc
  subst hmc
  obtain ⟨s1, t1, rfl, ⟨pref, rfl, _⟩, s2, t2, rfl, ⟨med, rfl, _⟩, s3, t3, rfl, ⟨org, rfl, _⟩, s4, t4, rfl, h4, s5, t5, rfl, h5, s6, t6, rfl, ⟨clr, rfl⟩, s7, t7, rfl, h7, rfl⟩ := hs
  obtain ⟨kA, add, rfl, _⟩ := sl_ofP (ag := true) (e := comSh) eCom (fun _ => True) (fun y hy => com_of hy) h4
  obtain ⟨kD, del, rfl, _⟩ := sl_ofP (ag := true) (e := comSh) eCom (fun _ => True) (fun y hy => com_of hy) h5
  obtain ⟨kP, pre, rfl, _⟩ := sl_ints h7
  exact ⟨⟨n, b, ⟨ml, mp, mc⟩, ⟨pref, med, org, kA, add, kD, del, clr, kP, pre⟩⟩, rfl, trivial⟩
theorem map_of {l : List AV} (h : mapSh.ok l) : ∃ m : MapD, AV.agg l = eMap m ∧ True := by
  obtain ⟨x1, r1, rfl, ⟨s, rfl, _⟩, x2, r2, rfl, h2, rfl⟩ := h
  obtain ⟨k, zs, rfl, _⟩ := sl_ofP (ag := true) (e := clsSh) eCls (fun _ => True) (fun y hy => cls_ofA hy) h2
  exact ⟨⟨s, k, zs⟩, rfl, trivial⟩
theorem lst_of {l : List AV} (h : lstSh.ok l) : ∃ m : LstD, AV.agg l = eLst m ∧ ∀ r, r ∈ m.l → r.p.Ok := by
  obtain ⟨x1, r1, rfl, ⟨s, rfl, _⟩, x2, r2, rfl, h2, rfl⟩ := h
  obtain ⟨k, zs, rfl, hz⟩ := sl_ofP (ag := true) (e := rngSh) eRng (fun r => r.p.Ok) (fun y hy => rng_of hy) h2
  exact ⟨⟨s, k, zs⟩, rfl, hz⟩
theorem nbr_of {l : List AV} (h : nbrSh.ok l) : ∃ n : Nbr, AV.agg l = eNbr n ∧ (n.name.size ≤ 9223372036854775807 ∧ n.imp.size ≤ 9223372036854775807 ∧ n.exp.size ≤ 9223372036854775807) := by
  obtain ⟨x1, r1, rfl, ⟨a, rfl, wa⟩, x2, r2, rfl, ⟨b, rfl, wb⟩, x3, r3, rfl, ⟨c, rfl, wc⟩, x4, r4, rfl, ⟨d, rfl⟩, rfl⟩ := h
  exact ⟨⟨a, b, c, d⟩, rfl, wa, wb, wc⟩
theorem lnk_of {l : List AV} (h : lnkSh.ok l) : ∃ n : Lnk, AV.agg l = eLnk n ∧ n.name.size ≤ 9223372036854775807 := by
  obtain ⟨x1, r1, rfl, ⟨a, rfl, wa⟩, x2, r2, rfl, ⟨b, rfl, _⟩, rfl⟩ := h
  exact ⟨⟨a, b⟩, rfl, wa⟩
structure Rtr.Wf (x : Rtr) : Prop where
  nets : ∀ p, p ∈ x.nets → p.Ok
  nbrs : ∀ n, n ∈ x.nbrs → n.name.size ≤ 9223372036854775807 ∧ n.imp.size ≤ 9223372036854775807 ∧ n.exp.size ≤ 9223372036854775807
  links : ∀ n, n ∈ x.links → n.name.size ≤ 9223372036854775807
theorem rtr_of {l : List AV} (h : rtrSh.ok l) : ∃ n : Rtr, AV.agg l = eRtr n ∧ n.Wf := by
  obtain ⟨x1, r1, rfl, ⟨a, rfl, wa⟩, x2, r2, rfl, ⟨b, rfl, _⟩, x3, r3, rfl, ⟨c, rfl, _⟩, x4, r4, rfl, h4, x5, r5, rfl, h5, x6, r6, rfl, h6, rfl⟩ := h
  obtain ⟨k4, z4, rfl, p4⟩ := sl_ofP (ag := true) (e := pfxSh) ePfx Pfx.Ok (fun y hy => pfx_of hy) h4
  obtain ⟨k5, z5, rfl, p5⟩ := sl_ofP (ag := true) (e := nbrSh) eNbr (fun n => n.name.size ≤ 9223372036854775807 ∧ n.imp.size ≤ 9223372036854775807 ∧ n.exp.size ≤ 9223372036854775807) (fun y hy => nbr_of hy) h5
  obtain ⟨k6, z6, rfl, p6⟩ := sl_ofP (ag := true) (e := lnkSh) eLnk (fun n => n.name.size ≤ 9223372036854775807) (fun y hy => lnk_of hy) h6
  exact ⟨⟨a, b, c, k4, z4, k5, z5, k6, z6⟩, rfl, p4, p5, p6⟩
theorem cfg_of {l : List AV} (h : cfgSh.ok l) : ∃ c : Cfg, AV.agg l = eCfg c ∧ c.Wf := by
  obtain ⟨x4, r4, rfl, h4, x5, r5, rfl, h5, x6, r6, rfl, h6, rfl⟩ := h
  obtain ⟨k4, z4, rfl, p4⟩ := sl_ofP (ag := true) (e := lstSh) eLst (fun m => ∀ r, r ∈ m.l → r.p.Ok) (fun y hy => lst_of hy) h4
  obtain ⟨k5, z5, rfl, _⟩ := sl_ofP (ag := true) (e := mapSh) eMap (fun _ => True) (fun y hy => map_of hy) h5
  obtain ⟨k6, z6, rfl, p6⟩ := sl_ofP (ag := true) (e := rtrSh) eRtr Rtr.Wf (fun y hy => rtr_of hy) h6
  exact ⟨⟨k4, z4, k5, z5, k6, z6⟩, rfl, p4, fun x hx => (p6 x hx).nets, fun x hx => (p6 x hx).nbrs, fun x hx => (p6 x hx).links⟩
theorem cfg_read {H : Type} {enc : TypeId × Value → H} {W : World} {v : Value} {d : DataW H} {p : List MemPlace} (h : DataW.Trod enc Tryz.prog W 0 (fun _ => true) true 26 v d p) :
    ∃ c : Cfg, c.Wf ∧ R (gh0 W) (eCfg c) v := by
  obtain ⟨fuel, hf⟩ := h
  obtain ⟨l, hl, hr⟩ := (cfgSh.read).1 _ _ _ _ chk_cfg hf
  obtain ⟨c, hc, hw⟩ := cfg_of hl
  refine ⟨c, hw, ?_⟩
  rw [← hc]
  have h3 : l.length = 3 := by have := cfgSh.ok_size hl; exact this
  rcases cells_one_agg (v := v) with ⟨cs, rfl⟩ | h1
  · exact .agg (by simpa [Value.cells] using hr.1) (by simpa [Value.cells] using hr.2)
  · have := hr.1
    rw [h1, h3] at this
    cases this
end Go.Proofs.YtaealcimocpnnaaGreat
namespace Go.Proofs.YtaealcimocpnnaaGreat
open Go.Kern Go.RowKit Go.ChangeShapes
theorem prints_contract (H : Type) (enc : TypeId × Value → H) (W : World) (args : Array Value) (ds gs : List (DataW H)) (before : List MemPlace)
    (hW : DataW.Whole enc Tryz.prog Tryz.f3.params.toList Rows.showPrintsSpec.vars false W args.toList ds gs before) :
    Calls Tryz.prog 3 args W fun e W' => ∃ v, e = .returned v ∧ Rows.showPrintsSpec.post enc Tryz.prog Tryz.f3 false true false false W args v W' := by
  have hA := hW
  obtain ⟨p, q, hA, _⟩ := hA
  have hA2 : DataW.TrodAll enc Tryz.prog W 0 (fun _ => true) true [26] args.toList ds p := hA
  obtain ⟨v, d, rfl, rfl, h0⟩ := trodAll_one hA2
  obtain ⟨c, hc, rc⟩ := cfg_read h0
  obtain ⟨hxl, hx⟩ := R_args [eCfg c] [v] (.cons rc .nil)
  refine law_row laid (fun t ht => ?_) (by rfl) Tryz.underlying4 rfl rfl hW _ hxl hx (prints_spec c hc st0)
  have ht' : t ∈ [26] := ht
  obtain rfl : t = 26 := by simpa using ht'
  exact types_cfg
set_option maxRecDepth 100000 in
theorem prints_lifted (os : Os) (started : os.Started) (H : Type) (enc : TypeId × Value → H) :
    ReturnsInHanded {} Tryz.checked os 3 .any (Rows.showPrintsSpec.pre6 enc Tryz.prog Tryz.f3 Rows.showPrintsRow.domain false) (Rows.showPrintsSpec.post enc Tryz.prog Tryz.f3 false true false false) := by
  refine returnsInHanded_of_change (C := Tryz.checked) own started (by kernel_rfl) Tryz.func3
    (ChangeSpec.witness6 (enc := enc) (C := Tryz.checked) false ⟨#[], #[.agg #[.slice none 0 0, .slice none 0 0, .slice none 0 0]], []⟩ 8 (by kernel_rfl) (by kernel_rfl) (by kernel_rfl) (by kernel_rfl)) ?_
  intro W base args ds gs before _ hW _ _
  exact prints_contract H enc W args ds gs before hW
theorem showPrints_holds : Rows.ShowPrintsSaid :=
  OpenClaim.holds_of_wide 3 Tryz.f3 rfl rfl rfl rfl rfl rfl rfl ⟨rfl, rfl, rfl, rfl, rfl⟩ rfl rfl rfl rfl rfl (by kernel_rfl) Tryz.func3 (by kernel_rfl)
    (of_decide_eq_true (by kernel_rfl)) (by unfold Func.isWrapper; first | (rw [if_pos (by decide +kernel)]; kernel_rfl) | (rw [if_neg (by decide +kernel)]; exact ⟨rfl, rfl⟩))
    (fun os started H enc _ => prints_lifted os started H enc)
#print axioms showPrints_holds
end Go.Proofs.YtaealcimocpnnaaGreat
