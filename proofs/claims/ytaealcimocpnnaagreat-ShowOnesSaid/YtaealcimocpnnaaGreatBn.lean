/- show.May. Conditions: none. -/
import Derived.Test.YtaealcimocpnnaaGreatBm
set_option linter.unusedVariables false
set_option linter.unusedSimpArgs false
namespace Go.Proofs.YtaealcimocpnnaaGreat
open Go.Kern
set_option maxRecDepth 100000
set_option maxHeartbeats 4000000
attribute [local irreducible] PCall W
/-! Maps. -/
def LastT : Type := { n : Int // 0 ≤ n ∧ n ≤ 65535 }
theorem lastN_ok {n m : Int} (h : 0 ≤ n ∧ n ≤ 65535) : 0 ≤ lastN n m ∧ lastN n m ≤ 65535 := by
  unfold lastN; split <;> split <;> omega
def clsStep (st : LastT) (c : Cls) : Bool × LastT := (clsMay st.1 c, ⟨lastN st.1 c.n, lastN_ok st.2⟩)
def mapMayB (m : MapD) : Bool := (eachS 16 clsStep ⟨0, by omega⟩ m.l).1
structure MapD.Fits (m : MapD) : Prop where
  len : m.l.length < 4611686018427387904
  cls : ∀ c, c ∈ m.l → c.s.Fits ∧ c.m.path.size ≤ 1000 ∧ c.m.list.size ≤ 1000
  name : m.name.size ≤ 9223372036854775807
theorem mapMay_spec (m : MapD) (hm : m.Fits) : Pure Tryz.prog 31 [eMap m] (.bool (mapMayB m)) := by
  intro σ
  refine PCall_q [.tmp 2] 8 Tryz.func31 (by rfl) rfl rfl rfl rfl ?_
  repeat' first
   |((fail_if_success (first|show W _ _ (Code.seq (Code.region 2 _ _) _) _ _ _|show W _ _ (Code.seq (Code.seq (Code.region 2 _ _) _) _) _ _ _));refine s1 ?_)|refine s2 ?_|refine wt rfl ?_|refine wf rfl ?_|(refine wc rfl (fun h=>?_) (fun h=>?_)<;>(try simp only[Bool.not_eq_true',Bool.not_eq_false',decide_eq_true_eq,decide_eq_false_iff_not,Bool.not_not] at h)<;>(try first|exact bt (by assumption) (by assumption)|contradiction|(exfalso;omega)))|((fail_if_success (first|show W _ _ (Code.region 2 _ _) _ _ _));(first|refine s3 (mu:=[]) ?_|(refine W_region_any [] c0 mx (by kernel_rfl) ?_;intro nu _ _)|refine prun_go ?_|refine drun_go ?_|refine s5 ?_|refine s6 ?_|with_reducible apply s7);simp -dsimp (disch:=omega) only[go_sem,Nat.reduceLT,Nat.reduceLeDiff,Nat.reduceEqDiff,Nat.reduceAdd,Nat.reduceMul,Int.reduceNeg,Nat.reduceBEq,reduceCtorEq,↓reduceIte])
   |refine e1 ?_|refine e2 ?_|refine e3 ?_|refine e4 ?_|refine e5 ?_|refine e6 ?_|refine e7 ?_|refine e8 ?_|refine e9 ?_|refine e0 (by decide) ?_|refine ea ?_|(refine And.intro ?_ ?_;omega)|refine And.intro (of_eq_true PutAt_put) ?_
   |((first|refine gn (fun h=>?_) (fun h=>?_)|refine gf (fun h=>?_) (fun h=>?_)|refine gb (fun h=>?_) (fun h=>?_)|refine gp (fun h=>?_) (fun h=>?_))<;>(try first|exact bt (by assumption) (by assumption)|contradiction|(exfalso;omega))<;>(try with_reducible apply s7)<;>(try simp -dsimp (disch:=omega) only[h,go_sem,Nat.reduceLT,Nat.reduceLeDiff,Nat.reduceEqDiff,Nat.reduceAdd,Nat.reduceMul,Int.reduceNeg,Nat.reduceBEq,reduceCtorEq,↓reduceIte]))|refine Exists.intro _ (Exists.intro _ (And.intro (And.intro rfl rfl) ?_))
  intro o ho
  have hc := eachCls 76 [.ptr o 0 0] (fun st : LastT => σ.put o (lastO st.1)) clsStep m.k m.l 16 hm.len (fun st c hx => mapMay1_spec c (hm.cls c hx).1 (hm.cls c hx).2.1 (hm.cls c hx).2.2 st.1 st.2.1 st.2.2 o σ) ⟨0, by omega⟩
  unfold lastO at hc
  repeat' first
   |refine s1 ?_|refine s2 ?_|refine wt rfl ?_|refine wf rfl ?_|(refine wc rfl (fun h=>?_) (fun h=>?_)<;>(try simp only[Bool.not_eq_true',Bool.not_eq_false',decide_eq_true_eq,decide_eq_false_iff_not,Bool.not_not] at h)<;>(try first|exact bt (by assumption) (by assumption)|contradiction|(exfalso;omega)))|((first|refine s3 (mu:=[]) ?_|(refine W_region_any [] c0 mx (by kernel_rfl) ?_;intro nu _ _)|refine prun_go ?_|refine drun_go ?_|refine s5 ?_|refine s6 ?_|with_reducible apply s7);simp -dsimp (disch:=omega) only[go_sem,Nat.reduceLT,Nat.reduceLeDiff,Nat.reduceEqDiff,Nat.reduceAdd,Nat.reduceMul,Int.reduceNeg,Nat.reduceBEq,reduceCtorEq,↓reduceIte])
   |refine e1 ?_|refine e2 ?_|refine e3 ?_|refine e4 ?_|refine e5 ?_|refine e6 ?_|refine e7 ?_|refine e8 ?_|refine e9 ?_|refine e0 (by decide) ?_|refine ea ?_|(refine And.intro ?_ ?_;omega)|refine And.intro (of_eq_true PutAt_put) ?_
   |((first|refine gn (fun h=>?_) (fun h=>?_)|refine gf (fun h=>?_) (fun h=>?_)|refine gb (fun h=>?_) (fun h=>?_)|refine gp (fun h=>?_) (fun h=>?_))<;>(try first|exact bt (by assumption) (by assumption)|contradiction|(exfalso;omega))<;>(try with_reducible apply s7)<;>(try simp -dsimp (disch:=omega) only[h,go_sem,Nat.reduceLT,Nat.reduceLeDiff,Nat.reduceEqDiff,Nat.reduceAdd,Nat.reduceMul,Int.reduceNeg,Nat.reduceBEq,reduceCtorEq,↓reduceIte]))|refine Exists.intro _ (Exists.intro _ (And.intro (And.intro rfl rfl) ?_))
   |refine cy (hc) ?_|refine cz (hc) ?_
  all_goals (first | exact ⟨_, Sub_put (Store.Sub.refl _) ho _, rfl, rfl⟩ | exact Sub_put (Store.Sub.refl _) ho _ | exact ⟨rfl, Sub_put (Store.Sub.refl _) ho _⟩)
/-! Routers. -/
def pfxEq (p q : Pfx) : Bool := decide (p.a = q.a) && decide (p.b = q.b)
def idxP (v : Pfx) : Int → List Pfx → Int
  | _, [] => -1
  | i, x :: r => if pfxEq v x = true then i else idxP v (i + 1) r
theorem idxP_drop (v : Pfx) (l : List Pfx) (i : Nat) (h : i < l.length) (k : Int) : idxP v k (l.drop i) = if pfxEq v (l.getD i default) = true then k else idxP v (k + 1) (l.drop (i + 1)) := by
  rw [List.drop_eq_getElem_cons h, idxP]
  simp [List.getD_eq_getElem?_getD, h]
theorem idxP_any (v : Pfx) : ∀ (l : List Pfx) (k : Int), 0 ≤ k → decide (0 ≤ idxP v k l) = l.any (pfxEq v)
  | [], k, _ => rfl
  | x :: l, k, h => by
    have ih := idxP_any v l (k + 1) (by omega)
    by_cases hx : pfxEq v x = true
    · simp only [idxP, List.any_cons, hx, if_true, h, decide_true, Bool.true_or]
    · simp only [idxP, List.any_cons, hx, if_false, Bool.false_or]; exact ih
theorem idxP_spec (k : SK) (l : List Pfx) (hl : l.length < 4611686018427387904) (v : Pfx) : Pure Tryz.prog 139 [.sl k (encL ePfx l), ePfx v] (.int .i64 (idxP v 0 l)) := by
  intro σ
  refine PCall_q [.tmp 4] 19 Tryz.func139 (by rfl) rfl rfl rfl rfl ?_
  repeat' first
   |refine s1 ?_|refine s2 ?_|refine wt rfl ?_|refine wf rfl ?_|(refine wc rfl (fun h=>?_) (fun h=>?_)<;>(try simp only[Bool.not_eq_true',Bool.not_eq_false',decide_eq_true_eq,decide_eq_false_iff_not,Bool.not_not] at h)<;>(try first|exact bt (by assumption) (by assumption)|contradiction|(exfalso;omega)))|((first|refine s3 (mu:=[]) ?_|(refine W_region_any [] c0 mx (by kernel_rfl) ?_;intro nu _ _)|refine prun_go ?_|refine drun_go ?_|refine s5 ?_|refine s6 ?_|with_reducible apply s7);simp -dsimp (disch:=omega) only[go_sem,Nat.reduceLT,Nat.reduceLeDiff,Nat.reduceEqDiff,Nat.reduceAdd,Nat.reduceMul,Int.reduceNeg,Nat.reduceBEq,reduceCtorEq,↓reduceIte])
   |refine e1 ?_|refine e2 ?_|refine e3 ?_|refine e4 ?_|refine e5 ?_|refine e6 ?_|refine e7 ?_|refine e8 ?_|refine e9 ?_|refine e0 (by decide) ?_|refine ea ?_|(refine And.intro ?_ ?_;omega)|refine And.intro (of_eq_true PutAt_put) ?_
   |((first|refine gn (fun h=>?_) (fun h=>?_)|refine gf (fun h=>?_) (fun h=>?_)|refine gb (fun h=>?_) (fun h=>?_)|refine gp (fun h=>?_) (fun h=>?_))<;>(try first|exact bt (by assumption) (by assumption)|contradiction|(exfalso;omega))<;>(try with_reducible apply s7)<;>(try simp -dsimp (disch:=omega) only[h,go_sem,Nat.reduceLT,Nat.reduceLeDiff,Nat.reduceEqDiff,Nat.reduceAdd,Nat.reduceMul,Int.reduceNeg,Nat.reduceBEq,reduceCtorEq,↓reduceIte]))|refine Exists.intro _ (Exists.intro _ (And.intro (And.intro rfl rfl) ?_))
  refine W_loop_st (fun i : Nat => [(0, .sl k (encL ePfx l)), (3, .ip (ePfx v) 0), (7, .int .i64 l.length), (8, .int .i64 i)]) (fun _ => σ) (fun i => i ≤ l.length ∧ idxP v 0 l = idxP v i (l.drop i)) (fun i => l.length - i) 0 ⟨Nat.zero_le _, rfl⟩ (Env.Sub_of_has (by simp [Env.Has, Env.get, ePfx])) (Store.Sub.refl _) ?_
  rintro i ⟨hi, hor⟩
  by_cases hlt : i < l.length
  · have ho := idxP_drop v l i hlt i
    repeat' first
     |refine s1 ?_|refine s2 ?_|refine wt rfl ?_|refine wf rfl ?_|(refine wc rfl (fun h=>?_) (fun h=>?_)<;>(try simp only[Bool.not_eq_true',Bool.not_eq_false',decide_eq_true_eq,decide_eq_false_iff_not,Bool.not_not] at h)<;>(try first|exact bt (by assumption) (by assumption)|contradiction|(exfalso;omega)))|((first|refine s3 (mu:=[]) ?_|(refine W_region_any [] c0 mx (by kernel_rfl) ?_;intro nu _ _)|refine prun_go ?_|refine drun_go ?_|refine s5 ?_|refine s6 ?_|with_reducible apply s7);simp -dsimp (disch:=omega) only[go_sem,Nat.reduceLT,Nat.reduceLeDiff,Nat.reduceEqDiff,Nat.reduceAdd,Nat.reduceMul,Int.reduceNeg,Nat.reduceBEq,reduceCtorEq,↓reduceIte])
     |refine e1 ?_|refine e2 ?_|refine e3 ?_|refine e4 ?_|refine e5 ?_|refine e6 ?_|refine e7 ?_|refine e8 ?_|refine e9 ?_|refine e0 (by decide) ?_|refine ea ?_|(refine And.intro ?_ ?_;omega)|refine And.intro (of_eq_true PutAt_put) ?_
     |((first|refine gn (fun h=>?_) (fun h=>?_)|refine gf (fun h=>?_) (fun h=>?_)|refine gb (fun h=>?_) (fun h=>?_)|refine gp (fun h=>?_) (fun h=>?_))<;>(try first|exact bt (by assumption) (by assumption)|contradiction|(exfalso;omega))<;>(try with_reducible apply s7)<;>(try simp -dsimp (disch:=omega) only[h,go_sem,Nat.reduceLT,Nat.reduceLeDiff,Nat.reduceEqDiff,Nat.reduceAdd,Nat.reduceMul,Int.reduceNeg,Nat.reduceBEq,reduceCtorEq,↓reduceIte]))|refine Exists.intro _ (Exists.intro _ (And.intro (And.intro rfl rfl) ?_))
    · rw [hor, ho, if_pos (by simpa [pfxEq, cellsB, cellB] using h)]
    · rw [if_neg (by simpa [pfxEq, cellsB, cellB] using h)] at ho
      exact ⟨i + 1, by omega, ⟨by omega, by rw [hor, ho]; rfl⟩, Env.Sub_of_has (by simp [Env.Has, Env.get, ePfx]), Store.Sub.refl _⟩
  · have hi' : i = l.length := by omega
    subst hi'
    repeat' first
     |refine s1 ?_|refine s2 ?_|refine wt rfl ?_|refine wf rfl ?_|(refine wc rfl (fun h=>?_) (fun h=>?_)<;>(try simp only[Bool.not_eq_true',Bool.not_eq_false',decide_eq_true_eq,decide_eq_false_iff_not,Bool.not_not] at h)<;>(try first|exact bt (by assumption) (by assumption)|contradiction|(exfalso;omega)))|((first|refine s3 (mu:=[]) ?_|(refine W_region_any [] c0 mx (by kernel_rfl) ?_;intro nu _ _)|refine prun_go ?_|refine drun_go ?_|refine s5 ?_|refine s6 ?_|with_reducible apply s7);simp -dsimp (disch:=omega) only[go_sem,Nat.reduceLT,Nat.reduceLeDiff,Nat.reduceEqDiff,Nat.reduceAdd,Nat.reduceMul,Int.reduceNeg,Nat.reduceBEq,reduceCtorEq,↓reduceIte])
     |refine e1 ?_|refine e2 ?_|refine e3 ?_|refine e4 ?_|refine e5 ?_|refine e6 ?_|refine e7 ?_|refine e8 ?_|refine e9 ?_|refine e0 (by decide) ?_|refine ea ?_|(refine And.intro ?_ ?_;omega)|refine And.intro (of_eq_true PutAt_put) ?_
     |((first|refine gn (fun h=>?_) (fun h=>?_)|refine gf (fun h=>?_) (fun h=>?_)|refine gb (fun h=>?_) (fun h=>?_)|refine gp (fun h=>?_) (fun h=>?_))<;>(try first|exact bt (by assumption) (by assumption)|contradiction|(exfalso;omega))<;>(try with_reducible apply s7)<;>(try simp -dsimp (disch:=omega) only[h,go_sem,Nat.reduceLT,Nat.reduceLeDiff,Nat.reduceEqDiff,Nat.reduceAdd,Nat.reduceMul,Int.reduceNeg,Nat.reduceBEq,reduceCtorEq,↓reduceIte]))|refine Exists.intro _ (Exists.intro _ (And.intro (And.intro rfl rfl) ?_))
    rw [hor, List.drop_length]; rfl
theorem conP_spec (k : SK) (l : List Pfx) (hl : l.length < 4611686018427387904) (v : Pfx) : Pure Tryz.prog 84 [.sl k (encL ePfx l), ePfx v] (.bool (l.any (pfxEq v))) := by
  intro σ
  have h := idxP_spec k l hl v
  refine PCall_q [.tmp 4] 9 Tryz.func84 (by rfl) rfl rfl rfl rfl ?_
  repeat' first
   |refine s1 ?_|refine s2 ?_|refine wt rfl ?_|refine wf rfl ?_|(refine wc rfl (fun h=>?_) (fun h=>?_)<;>(try simp only[Bool.not_eq_true',Bool.not_eq_false',decide_eq_true_eq,decide_eq_false_iff_not,Bool.not_not] at h)<;>(try first|exact bt (by assumption) (by assumption)|contradiction|(exfalso;omega)))|((first|refine s3 (mu:=[]) ?_|(refine W_region_any [] c0 mx (by kernel_rfl) ?_;intro nu _ _)|refine prun_go ?_|refine drun_go ?_|refine s5 ?_|refine s6 ?_|with_reducible apply s7);simp -dsimp (disch:=omega) only[go_sem,Nat.reduceLT,Nat.reduceLeDiff,Nat.reduceEqDiff,Nat.reduceAdd,Nat.reduceMul,Int.reduceNeg,Nat.reduceBEq,reduceCtorEq,↓reduceIte])
   |refine e1 ?_|refine e2 ?_|refine e3 ?_|refine e4 ?_|refine e5 ?_|refine e6 ?_|refine e7 ?_|refine e8 ?_|refine e9 ?_|refine e0 (by decide) ?_|refine ea ?_|(refine And.intro ?_ ?_;omega)|refine And.intro (of_eq_true PutAt_put) ?_
   |((first|refine gn (fun h=>?_) (fun h=>?_)|refine gf (fun h=>?_) (fun h=>?_)|refine gb (fun h=>?_) (fun h=>?_)|refine gp (fun h=>?_) (fun h=>?_))<;>(try first|exact bt (by assumption) (by assumption)|contradiction|(exfalso;omega))<;>(try with_reducible apply s7)<;>(try simp -dsimp (disch:=omega) only[h,go_sem,Nat.reduceLT,Nat.reduceLeDiff,Nat.reduceEqDiff,Nat.reduceAdd,Nat.reduceMul,Int.reduceNeg,Nat.reduceBEq,reduceCtorEq,↓reduceIte]))|refine Exists.intro _ (Exists.intro _ (And.intro (And.intro rfl rfl) ?_))
   |refine cu (h) ?_|refine cv (h) ?_|refine cx (h) ?_
  rw [idxP_any v l 0 (Int.le_refl _)]
/-- None is there twice. -/
def distB : List Pfx → List Pfx → Bool
  | _, [] => true
  | pre, p :: r => !(pre.any (pfxEq p)) && distB (pre ++ [p]) r
theorem distB_drop (l : List Pfx) (i : Nat) (h : i < l.length) : distB (l.take i) (l.drop i) = (!((l.take i).any (pfxEq (l.getD i default))) && distB (l.take (i + 1)) (l.drop (i + 1))) := by
  rw [List.drop_eq_getElem_cons h, distB, List.take_succ_eq_append_getElem h]
  simp [List.getD_eq_getElem?_getD, h]
def nbrMay (n : Nbr) : Bool := usedB n.imp && usedB n.exp
theorem nbrMay_spec (n : Nbr) (h1 : n.imp.size ≤ 9223372036854775807) (h2 : n.exp.size ≤ 9223372036854775807) : Pure Tryz.prog 86 [eNbr n] (.bool (nbrMay n)) := by
  intro σ
  have h3 := used_spec n.imp h1
  have h4 := used_spec n.exp h2
  refine PCall_q [.tmp 2] 11 Tryz.func86 (by rfl) rfl rfl rfl rfl ?_
  repeat' first
   |refine s1 ?_|refine s2 ?_|refine wt rfl ?_|refine wf rfl ?_|(refine wc rfl (fun h=>?_) (fun h=>?_)<;>(try simp only[Bool.not_eq_true',Bool.not_eq_false',decide_eq_true_eq,decide_eq_false_iff_not,Bool.not_not] at h)<;>(try first|exact bt (by assumption) (by assumption)|contradiction|(exfalso;omega)))|((first|refine s3 (mu:=[]) ?_|(refine W_region_any [] c0 mx (by kernel_rfl) ?_;intro nu _ _)|refine prun_go ?_|refine drun_go ?_|refine s5 ?_|refine s6 ?_|with_reducible apply s7);simp -dsimp (disch:=omega) only[go_sem,Nat.reduceLT,Nat.reduceLeDiff,Nat.reduceEqDiff,Nat.reduceAdd,Nat.reduceMul,Int.reduceNeg,Nat.reduceBEq,reduceCtorEq,↓reduceIte])
   |refine e1 ?_|refine e2 ?_|refine e3 ?_|refine e4 ?_|refine e5 ?_|refine e6 ?_|refine e7 ?_|refine e8 ?_|refine e9 ?_|refine e0 (by decide) ?_|refine ea ?_|(refine And.intro ?_ ?_;omega)|refine And.intro (of_eq_true PutAt_put) ?_
   |((first|refine gn (fun h=>?_) (fun h=>?_)|refine gf (fun h=>?_) (fun h=>?_)|refine gb (fun h=>?_) (fun h=>?_)|refine gp (fun h=>?_) (fun h=>?_))<;>(try first|exact bt (by assumption) (by assumption)|contradiction|(exfalso;omega))<;>(try with_reducible apply s7)<;>(try simp -dsimp (disch:=omega) only[h,go_sem,Nat.reduceLT,Nat.reduceLeDiff,Nat.reduceEqDiff,Nat.reduceAdd,Nat.reduceMul,Int.reduceNeg,Nat.reduceBEq,reduceCtorEq,↓reduceIte]))|refine Exists.intro _ (Exists.intro _ (And.intro (And.intro rfl rfl) ?_))
   |refine cu (h3) ?_|refine cv (h3) ?_|refine cx (h3) ?_
   |refine cu (h4) ?_|refine cv (h4) ?_|refine cx (h4) ?_
  all_goals simp_all [nbrMay]
def lnkMay (x : Lnk) : Bool := withinZ x.cost 0 65536
theorem lnkMay_spec (x : Lnk) : Pure Tryz.prog 89 [eLnk x] (.bool (lnkMay x)) := by
  intro σ
  refine PCall_q [.tmp 2] 6 Tryz.func89 (by rfl) rfl rfl rfl rfl ?_
  repeat' first
   |refine s1 ?_|refine s2 ?_|refine wt rfl ?_|refine wf rfl ?_|(refine wc rfl (fun h=>?_) (fun h=>?_)<;>(try simp only[Bool.not_eq_true',Bool.not_eq_false',decide_eq_true_eq,decide_eq_false_iff_not,Bool.not_not] at h)<;>(try first|exact bt (by assumption) (by assumption)|contradiction|(exfalso;omega)))|((first|refine s3 (mu:=[]) ?_|(refine W_region_any [] c0 mx (by kernel_rfl) ?_;intro nu _ _)|refine prun_go ?_|refine drun_go ?_|refine s5 ?_|refine s6 ?_|with_reducible apply s7);simp -dsimp (disch:=omega) only[go_sem,Nat.reduceLT,Nat.reduceLeDiff,Nat.reduceEqDiff,Nat.reduceAdd,Nat.reduceMul,Int.reduceNeg,Nat.reduceBEq,reduceCtorEq,↓reduceIte])
   |refine e1 ?_|refine e2 ?_|refine e3 ?_|refine e4 ?_|refine e5 ?_|refine e6 ?_|refine e7 ?_|refine e8 ?_|refine e9 ?_|refine e0 (by decide) ?_|refine ea ?_|(refine And.intro ?_ ?_;omega)|refine And.intro (of_eq_true PutAt_put) ?_
   |((first|refine gn (fun h=>?_) (fun h=>?_)|refine gf (fun h=>?_) (fun h=>?_)|refine gb (fun h=>?_) (fun h=>?_)|refine gp (fun h=>?_) (fun h=>?_))<;>(try first|exact bt (by assumption) (by assumption)|contradiction|(exfalso;omega))<;>(try with_reducible apply s7)<;>(try simp -dsimp (disch:=omega) only[h,go_sem,Nat.reduceLT,Nat.reduceLeDiff,Nat.reduceEqDiff,Nat.reduceAdd,Nat.reduceMul,Int.reduceNeg,Nat.reduceBEq,reduceCtorEq,↓reduceIte]))|refine Exists.intro _ (Exists.intro _ (And.intro (And.intro rfl rfl) ?_))
   |refine cu (within_spec _ _ _) ?_|refine cv (within_spec _ _ _) ?_|refine cx (within_spec _ _ _) ?_
  rfl
structure Rtr.Fits (r : Rtr) : Prop where
  name : r.name.size ≤ 9223372036854775807
  nets : r.nets.length < 4611686018427387904
  nbrs : r.nbrs.length < 4611686018427387904
  links : r.links.length < 4611686018427387904
  nbr : ∀ n, n ∈ r.nbrs → n.name.size ≤ 9223372036854775807 ∧ n.imp.size ≤ 9223372036854775807 ∧ n.exp.size ≤ 9223372036854775807
  link : ∀ n, n ∈ r.links → n.name.size ≤ 9223372036854775807
def rtrMay (r : Rtr) : Bool := withinZ r.asn 1 65535 && (withinZ r.id 1 65535 && (eachP 16 pfxMay r.nets && (distB [] r.nets && (eachP 16 nbrMay r.nbrs && (eachP 16 lnkMay r.links && (unlikeB [] (r.nbrs.map (·.name)) && unlikeB [] (r.links.map (·.name))))))))
theorem rtrMay_spec (r : Rtr) (hr : r.Fits) : Pure Tryz.prog 33 [eRtr r] (.bool (rtrMay r)) := by
  intro σ
  have hln := hr.nets
  have g1 := within_spec r.asn 1 65535
  have f2 := within_spec r.id 1 65535
  have f3 := eachPPfx 83 [] pfxMay r.kN r.nets 16 hr.nets (fun p _ => pfxMay_spec p)
  have f4 := eachPNbr 86 [] nbrMay r.kB r.nbrs 16 hr.nbrs (fun n hn => nbrMay_spec n (hr.nbr n hn).2.1 (hr.nbr n hn).2.2)
  have f5 := eachPLnk 89 [] lnkMay r.kL r.links 16 hr.links (fun n _ => lnkMay_spec n)
  have f6 := unlNbr r.kB r.nbrs hr.nbrs (fun n hn => (hr.nbr n hn).1)
  have f7 := unlLnk r.kL r.links hr.links (fun n hn => hr.link n hn)
  obtain ⟨b1, hb1⟩ : ∃ b, withinZ r.asn 1 65535 = b := ⟨_, rfl⟩
  obtain ⟨b2, hb2⟩ : ∃ b, withinZ r.id 1 65535 = b := ⟨_, rfl⟩
  obtain ⟨b3, hb3⟩ : ∃ b, eachP 16 pfxMay r.nets = b := ⟨_, rfl⟩
  obtain ⟨b4, hb4⟩ : ∃ b, eachP 16 nbrMay r.nbrs = b := ⟨_, rfl⟩
  obtain ⟨b5, hb5⟩ : ∃ b, eachP 16 lnkMay r.links = b := ⟨_, rfl⟩
  obtain ⟨b6, hb6⟩ : ∃ b, unlikeB [] (r.nbrs.map (·.name)) = b := ⟨_, rfl⟩
  obtain ⟨b7, hb7⟩ : ∃ b, unlikeB [] (r.links.map (·.name)) = b := ⟨_, rfl⟩
  simp only [rtrMay, hb1, hb2, hb3, hb4, hb5, hb6, hb7] at g1 f2 f3 f4 f5 f6 f7 ⊢
  rcases Bool.eq_false_or_eq_true b1 with rfl | rfl
  · rcases Bool.eq_false_or_eq_true b2 with rfl | rfl
    · rcases Bool.eq_false_or_eq_true b3 with rfl | rfl
      · skip
        refine PCall_q [.tmp 2] 54 Tryz.func33 (by rfl) rfl rfl rfl rfl ?_
        repeat' first
         |refine s1 ?_|refine s2 ?_|refine wt rfl ?_|refine wf rfl ?_|(refine wc rfl (fun h=>?_) (fun h=>?_)<;>(try simp only[Bool.not_eq_true',Bool.not_eq_false',decide_eq_true_eq,decide_eq_false_iff_not,Bool.not_not] at h)<;>(try first|exact bt (by assumption) (by assumption)|contradiction|(exfalso;omega)))|((first|refine s3 (mu:=[]) ?_|(refine W_region_any [] c0 mx (by kernel_rfl) ?_;intro nu _ _)|refine prun_go ?_|refine drun_go ?_|refine s5 ?_|refine s6 ?_|with_reducible apply s7);simp -dsimp (disch:=omega) only[go_sem,Nat.reduceLT,Nat.reduceLeDiff,Nat.reduceEqDiff,Nat.reduceAdd,Nat.reduceMul,Int.reduceNeg,Nat.reduceBEq,reduceCtorEq,↓reduceIte])
         |refine e1 ?_|refine e2 ?_|refine e3 ?_|refine e4 ?_|refine e5 ?_|refine e6 ?_|refine e7 ?_|refine e8 ?_|refine e9 ?_|refine e0 (by decide) ?_|refine ea ?_|(refine And.intro ?_ ?_;omega)|refine And.intro (of_eq_true PutAt_put) ?_
         |((first|refine gn (fun h=>?_) (fun h=>?_)|refine gf (fun h=>?_) (fun h=>?_)|refine gb (fun h=>?_) (fun h=>?_)|refine gp (fun h=>?_) (fun h=>?_))<;>(try first|exact bt (by assumption) (by assumption)|contradiction|(exfalso;omega))<;>(try with_reducible apply s7)<;>(try simp -dsimp (disch:=omega) only[h,go_sem,Nat.reduceLT,Nat.reduceLeDiff,Nat.reduceEqDiff,Nat.reduceAdd,Nat.reduceMul,Int.reduceNeg,Nat.reduceBEq,reduceCtorEq,↓reduceIte]))|refine Exists.intro _ (Exists.intro _ (And.intro (And.intro rfl rfl) ?_))
         |refine cu (g1) ?_|refine cv (g1) ?_|refine cx (g1) ?_
         |refine cu (f2) ?_|refine cv (f2) ?_|refine cx (f2) ?_
         |refine cu (f3) ?_|refine cv (f3) ?_|refine cx (f3) ?_
        refine W_loop_st (fun i : Nat => [(1, .ip (eRtr r) 0), (22, .sl r.kN (encL ePfx r.nets)), (23, .int .i64 r.nets.length), (24, .int .i64 i)]) (fun _ => σ) (fun i => i ≤ r.nets.length ∧ distB [] r.nets = distB (r.nets.take i) (r.nets.drop i)) (fun i => r.nets.length - i) 0 ⟨Nat.zero_le _, rfl⟩ (Env.Sub_of_has (by simp [Env.Has, Env.get, eRtr])) (Store.Sub.refl _) ?_
        rintro i ⟨hi, hor⟩
        by_cases hlt : i < r.nets.length
        · have ho := distB_drop r.nets i hlt
          have hc := conP_spec r.kN.cut (r.nets.take i) (by rw [List.length_take]; have := hr.nets; omega) (r.nets.getD i default)
          repeat' first
           |refine s1 ?_|refine s2 ?_|refine wt rfl ?_|refine wf rfl ?_|(refine wc rfl (fun h=>?_) (fun h=>?_)<;>(try simp only[Bool.not_eq_true',Bool.not_eq_false',decide_eq_true_eq,decide_eq_false_iff_not,Bool.not_not] at h)<;>(try first|exact bt (by assumption) (by assumption)|contradiction|(exfalso;omega)))|((first|refine s3 (mu:=[]) ?_|(refine W_region_any [] c0 mx (by kernel_rfl) ?_;intro nu _ _)|refine prun_go ?_|refine drun_go ?_|refine s5 ?_|refine s6 ?_|with_reducible apply s7);simp -dsimp (disch:=omega) only[go_sem,Nat.reduceLT,Nat.reduceLeDiff,Nat.reduceEqDiff,Nat.reduceAdd,Nat.reduceMul,Int.reduceNeg,Nat.reduceBEq,reduceCtorEq,↓reduceIte])
           |refine e1 ?_|refine e2 ?_|refine e3 ?_|refine e4 ?_|refine e5 ?_|refine e6 ?_|refine e7 ?_|refine e8 ?_|refine e9 ?_|refine e0 (by decide) ?_|refine ea ?_|(refine And.intro ?_ ?_;omega)|refine And.intro (of_eq_true PutAt_put) ?_
           |((first|refine gn (fun h=>?_) (fun h=>?_)|refine gf (fun h=>?_) (fun h=>?_)|refine gb (fun h=>?_) (fun h=>?_)|refine gp (fun h=>?_) (fun h=>?_))<;>(try first|exact bt (by assumption) (by assumption)|contradiction|(exfalso;omega))<;>(try with_reducible apply s7)<;>(try simp -dsimp (disch:=omega) only[h,go_sem,Nat.reduceLT,Nat.reduceLeDiff,Nat.reduceEqDiff,Nat.reduceAdd,Nat.reduceMul,Int.reduceNeg,Nat.reduceBEq,reduceCtorEq,↓reduceIte]))|refine Exists.intro _ (Exists.intro _ (And.intro (And.intro rfl rfl) ?_))
          intro o1 ho1
          have ho1' := ho1
          have hrow : rowsOk 2 (encL ePfx r.nets) = true := ok_encL 2 ePfx (fun _ => rfl) r.nets
          repeat' first
           |refine s1 ?_|refine s2 ?_|refine wt rfl ?_|refine wf rfl ?_|(refine wc rfl (fun h=>?_) (fun h=>?_)<;>(try simp only[Bool.not_eq_true',Bool.not_eq_false',decide_eq_true_eq,decide_eq_false_iff_not,Bool.not_not] at h)<;>(try first|exact bt (by assumption) (by assumption)|contradiction|(exfalso;omega)))|((first|refine s3 (mu:=[]) ?_|(refine W_region_any (id:=6) [] ⟨[1,4],[],[],[],[],[],0⟩ mx (by kernel_rfl) ?_;intro nu _ _)|(refine W_region_any [] c0 mx (by kernel_rfl) ?_;intro nu _ _)|refine prun_go ?_|refine drun_go ?_|refine s5 ?_|refine s6 ?_|with_reducible apply s7);simp -dsimp (disch:=omega) only[go_sem,Nat.reduceLT,Nat.reduceLeDiff,Nat.reduceEqDiff,Nat.reduceAdd,Nat.reduceMul,Int.reduceNeg,Nat.reduceBEq,reduceCtorEq,↓reduceIte,take_encL, hrow])
           |refine e1 ?_|refine e2 ?_|refine e3 ?_|refine e4 ?_|refine e5 ?_|refine e6 ?_|refine e7 ?_|refine e8 ?_|refine e9 ?_|refine e0 (by decide) ?_|refine ea ?_|(refine And.intro ?_ ?_;omega)|refine And.intro (of_eq_true PutAt_put) ?_
           |((first|refine gn (fun h=>?_) (fun h=>?_)|refine gf (fun h=>?_) (fun h=>?_)|refine gb (fun h=>?_) (fun h=>?_)|refine gp (fun h=>?_) (fun h=>?_))<;>(try first|exact bt (by assumption) (by assumption)|contradiction|(exfalso;omega))<;>(try with_reducible apply s7)<;>(try simp -dsimp (disch:=omega) only[h,go_sem,Nat.reduceLT,Nat.reduceLeDiff,Nat.reduceEqDiff,Nat.reduceAdd,Nat.reduceMul,Int.reduceNeg,Nat.reduceBEq,reduceCtorEq,↓reduceIte,take_encL, hrow]))|refine Exists.intro _ (Exists.intro _ (And.intro (And.intro rfl rfl) ?_))
           |refine cu (hc) ?_|refine cv (hc) ?_|refine cx (hc) ?_
          · exact ⟨by rw [hor, ho, h]; rfl, Sub_put (Store.Sub.refl _) ho1' _⟩
          · exact ⟨i + 1, by omega, ⟨by omega, by rw [hor, ho, h]; rfl⟩, Env.Sub_of_has (by simp [Env.Has, Env.get, eRtr]), Sub_put (Store.Sub.refl _) ho1' _⟩
        · have hi' : i = r.nets.length := by omega
          subst hi'
          have hd : distB [] r.nets = true := by rw [hor, List.drop_length]; rfl
          rw [hd]
          repeat' first
           |refine s1 ?_|refine s2 ?_|refine wt rfl ?_|refine wf rfl ?_|(refine wc rfl (fun h=>?_) (fun h=>?_)<;>(try simp only[Bool.not_eq_true',Bool.not_eq_false',decide_eq_true_eq,decide_eq_false_iff_not,Bool.not_not] at h)<;>(try first|exact bt (by assumption) (by assumption)|contradiction|(exfalso;omega)))|((first|refine s3 (mu:=[]) ?_|(refine W_region_any [] c0 mx (by kernel_rfl) ?_;intro nu _ _)|refine prun_go ?_|refine drun_go ?_|refine s5 ?_|refine s6 ?_|with_reducible apply s7);simp -dsimp (disch:=omega) only[go_sem,Nat.reduceLT,Nat.reduceLeDiff,Nat.reduceEqDiff,Nat.reduceAdd,Nat.reduceMul,Int.reduceNeg,Nat.reduceBEq,reduceCtorEq,↓reduceIte])
           |refine e1 ?_|refine e2 ?_|refine e3 ?_|refine e4 ?_|refine e5 ?_|refine e6 ?_|refine e7 ?_|refine e8 ?_|refine e9 ?_|refine e0 (by decide) ?_|refine ea ?_|(refine And.intro ?_ ?_;omega)|refine And.intro (of_eq_true PutAt_put) ?_
           |((first|refine gn (fun h=>?_) (fun h=>?_)|refine gf (fun h=>?_) (fun h=>?_)|refine gb (fun h=>?_) (fun h=>?_)|refine gp (fun h=>?_) (fun h=>?_))<;>(try first|exact bt (by assumption) (by assumption)|contradiction|(exfalso;omega))<;>(try with_reducible apply s7)<;>(try simp -dsimp (disch:=omega) only[h,go_sem,Nat.reduceLT,Nat.reduceLeDiff,Nat.reduceEqDiff,Nat.reduceAdd,Nat.reduceMul,Int.reduceNeg,Nat.reduceBEq,reduceCtorEq,↓reduceIte]))|refine Exists.intro _ (Exists.intro _ (And.intro (And.intro rfl rfl) ?_))
           |refine cu (f4) ?_|refine cv (f4) ?_|refine cx (f4) ?_
           |refine cu (f5) ?_|refine cv (f5) ?_|refine cx (f5) ?_
           |refine cu (f6) ?_|refine cv (f6) ?_|refine cx (f6) ?_
           |refine cu (f7) ?_|refine cv (f7) ?_|refine cx (f7) ?_
          all_goals (simp only [*, Bool.true_and, Bool.false_and])
      · skip
        refine PCall_q [.tmp 2] 54 Tryz.func33 (by rfl) rfl rfl rfl rfl ?_
        repeat' first
         |refine s1 ?_|refine s2 ?_|refine wt rfl ?_|refine wf rfl ?_|(refine wc rfl (fun h=>?_) (fun h=>?_)<;>(try simp only[Bool.not_eq_true',Bool.not_eq_false',decide_eq_true_eq,decide_eq_false_iff_not,Bool.not_not] at h)<;>(try first|exact bt (by assumption) (by assumption)|contradiction|(exfalso;omega)))|((first|refine s3 (mu:=[]) ?_|(refine W_region_any [] c0 mx (by kernel_rfl) ?_;intro nu _ _)|refine prun_go ?_|refine drun_go ?_|refine s5 ?_|refine s6 ?_|with_reducible apply s7);simp -dsimp (disch:=omega) only[go_sem,Nat.reduceLT,Nat.reduceLeDiff,Nat.reduceEqDiff,Nat.reduceAdd,Nat.reduceMul,Int.reduceNeg,Nat.reduceBEq,reduceCtorEq,↓reduceIte])
         |refine e1 ?_|refine e2 ?_|refine e3 ?_|refine e4 ?_|refine e5 ?_|refine e6 ?_|refine e7 ?_|refine e8 ?_|refine e9 ?_|refine e0 (by decide) ?_|refine ea ?_|(refine And.intro ?_ ?_;omega)|refine And.intro (of_eq_true PutAt_put) ?_
         |((first|refine gn (fun h=>?_) (fun h=>?_)|refine gf (fun h=>?_) (fun h=>?_)|refine gb (fun h=>?_) (fun h=>?_)|refine gp (fun h=>?_) (fun h=>?_))<;>(try first|exact bt (by assumption) (by assumption)|contradiction|(exfalso;omega))<;>(try with_reducible apply s7)<;>(try simp -dsimp (disch:=omega) only[h,go_sem,Nat.reduceLT,Nat.reduceLeDiff,Nat.reduceEqDiff,Nat.reduceAdd,Nat.reduceMul,Int.reduceNeg,Nat.reduceBEq,reduceCtorEq,↓reduceIte]))|refine Exists.intro _ (Exists.intro _ (And.intro (And.intro rfl rfl) ?_))
         |refine cu (g1) ?_|refine cv (g1) ?_|refine cx (g1) ?_
         |refine cu (f2) ?_|refine cv (f2) ?_|refine cx (f2) ?_
         |refine cu (f3) ?_|refine cv (f3) ?_|refine cx (f3) ?_
    · skip
      refine PCall_q [.tmp 2] 54 Tryz.func33 (by rfl) rfl rfl rfl rfl ?_
      repeat' first
       |refine s1 ?_|refine s2 ?_|refine wt rfl ?_|refine wf rfl ?_|(refine wc rfl (fun h=>?_) (fun h=>?_)<;>(try simp only[Bool.not_eq_true',Bool.not_eq_false',decide_eq_true_eq,decide_eq_false_iff_not,Bool.not_not] at h)<;>(try first|exact bt (by assumption) (by assumption)|contradiction|(exfalso;omega)))|((first|refine s3 (mu:=[]) ?_|(refine W_region_any [] c0 mx (by kernel_rfl) ?_;intro nu _ _)|refine prun_go ?_|refine drun_go ?_|refine s5 ?_|refine s6 ?_|with_reducible apply s7);simp -dsimp (disch:=omega) only[go_sem,Nat.reduceLT,Nat.reduceLeDiff,Nat.reduceEqDiff,Nat.reduceAdd,Nat.reduceMul,Int.reduceNeg,Nat.reduceBEq,reduceCtorEq,↓reduceIte])
       |refine e1 ?_|refine e2 ?_|refine e3 ?_|refine e4 ?_|refine e5 ?_|refine e6 ?_|refine e7 ?_|refine e8 ?_|refine e9 ?_|refine e0 (by decide) ?_|refine ea ?_|(refine And.intro ?_ ?_;omega)|refine And.intro (of_eq_true PutAt_put) ?_
       |((first|refine gn (fun h=>?_) (fun h=>?_)|refine gf (fun h=>?_) (fun h=>?_)|refine gb (fun h=>?_) (fun h=>?_)|refine gp (fun h=>?_) (fun h=>?_))<;>(try first|exact bt (by assumption) (by assumption)|contradiction|(exfalso;omega))<;>(try with_reducible apply s7)<;>(try simp -dsimp (disch:=omega) only[h,go_sem,Nat.reduceLT,Nat.reduceLeDiff,Nat.reduceEqDiff,Nat.reduceAdd,Nat.reduceMul,Int.reduceNeg,Nat.reduceBEq,reduceCtorEq,↓reduceIte]))|refine Exists.intro _ (Exists.intro _ (And.intro (And.intro rfl rfl) ?_))
       |refine cu (g1) ?_|refine cv (g1) ?_|refine cx (g1) ?_
       |refine cu (f2) ?_|refine cv (f2) ?_|refine cx (f2) ?_
  · skip
    refine PCall_q [.tmp 2] 54 Tryz.func33 (by rfl) rfl rfl rfl rfl ?_
    repeat' first
     |refine s1 ?_|refine s2 ?_|refine wt rfl ?_|refine wf rfl ?_|(refine wc rfl (fun h=>?_) (fun h=>?_)<;>(try simp only[Bool.not_eq_true',Bool.not_eq_false',decide_eq_true_eq,decide_eq_false_iff_not,Bool.not_not] at h)<;>(try first|exact bt (by assumption) (by assumption)|contradiction|(exfalso;omega)))|((first|refine s3 (mu:=[]) ?_|(refine W_region_any [] c0 mx (by kernel_rfl) ?_;intro nu _ _)|refine prun_go ?_|refine drun_go ?_|refine s5 ?_|refine s6 ?_|with_reducible apply s7);simp -dsimp (disch:=omega) only[go_sem,Nat.reduceLT,Nat.reduceLeDiff,Nat.reduceEqDiff,Nat.reduceAdd,Nat.reduceMul,Int.reduceNeg,Nat.reduceBEq,reduceCtorEq,↓reduceIte])
     |refine e1 ?_|refine e2 ?_|refine e3 ?_|refine e4 ?_|refine e5 ?_|refine e6 ?_|refine e7 ?_|refine e8 ?_|refine e9 ?_|refine e0 (by decide) ?_|refine ea ?_|(refine And.intro ?_ ?_;omega)|refine And.intro (of_eq_true PutAt_put) ?_
     |((first|refine gn (fun h=>?_) (fun h=>?_)|refine gf (fun h=>?_) (fun h=>?_)|refine gb (fun h=>?_) (fun h=>?_)|refine gp (fun h=>?_) (fun h=>?_))<;>(try first|exact bt (by assumption) (by assumption)|contradiction|(exfalso;omega))<;>(try with_reducible apply s7)<;>(try simp -dsimp (disch:=omega) only[h,go_sem,Nat.reduceLT,Nat.reduceLeDiff,Nat.reduceEqDiff,Nat.reduceAdd,Nat.reduceMul,Int.reduceNeg,Nat.reduceBEq,reduceCtorEq,↓reduceIte]))|refine Exists.intro _ (Exists.intro _ (And.intro (And.intro rfl rfl) ?_))
     |refine cu (g1) ?_|refine cv (g1) ?_|refine cx (g1) ?_
/-! Configurations. -/
def lstMay (x : LstD) : Bool := decide (rngsMay x.l = 0)
theorem lstMay_spec (x : LstD) (h : x.l.length < 4611686018427387904) : Pure Tryz.prog 28 [eLst x] (.bool (lstMay x)) := by
  intro σ
  have h1 := rngsMay_spec x.k x.l h
  refine PCall_q [.tmp 2] 7 Tryz.func28 (by rfl) rfl rfl rfl rfl ?_
  repeat' first
   |refine s1 ?_|refine s2 ?_|refine wt rfl ?_|refine wf rfl ?_|(refine wc rfl (fun h=>?_) (fun h=>?_)<;>(try simp only[Bool.not_eq_true',Bool.not_eq_false',decide_eq_true_eq,decide_eq_false_iff_not,Bool.not_not] at h)<;>(try first|exact bt (by assumption) (by assumption)|contradiction|(exfalso;omega)))|((first|refine s3 (mu:=[]) ?_|(refine W_region_any [] c0 mx (by kernel_rfl) ?_;intro nu _ _)|refine prun_go ?_|refine drun_go ?_|refine s5 ?_|refine s6 ?_|with_reducible apply s7);simp -dsimp (disch:=omega) only[go_sem,Nat.reduceLT,Nat.reduceLeDiff,Nat.reduceEqDiff,Nat.reduceAdd,Nat.reduceMul,Int.reduceNeg,Nat.reduceBEq,reduceCtorEq,↓reduceIte])
   |refine e1 ?_|refine e2 ?_|refine e3 ?_|refine e4 ?_|refine e5 ?_|refine e6 ?_|refine e7 ?_|refine e8 ?_|refine e9 ?_|refine e0 (by decide) ?_|refine ea ?_|(refine And.intro ?_ ?_;omega)|refine And.intro (of_eq_true PutAt_put) ?_
   |((first|refine gn (fun h=>?_) (fun h=>?_)|refine gf (fun h=>?_) (fun h=>?_)|refine gb (fun h=>?_) (fun h=>?_)|refine gp (fun h=>?_) (fun h=>?_))<;>(try first|exact bt (by assumption) (by assumption)|contradiction|(exfalso;omega))<;>(try with_reducible apply s7)<;>(try simp -dsimp (disch:=omega) only[h,go_sem,Nat.reduceLT,Nat.reduceLeDiff,Nat.reduceEqDiff,Nat.reduceAdd,Nat.reduceMul,Int.reduceNeg,Nat.reduceBEq,reduceCtorEq,↓reduceIte]))|refine Exists.intro _ (Exists.intro _ (And.intro (And.intro rfl rfl) ?_))
   |refine cu (h1) ?_|refine cv (h1) ?_|refine cx (h1) ?_
  rfl
structure Cfg.Fits (c : Cfg) : Prop where
  lists : c.lists.length < 4611686018427387904
  maps : c.maps.length < 4611686018427387904
  routers : c.routers.length < 4611686018427387904
  lst : ∀ x, x ∈ c.lists → x.l.length < 4611686018427387904 ∧ x.name.size ≤ 9223372036854775807
  map : ∀ x, x ∈ c.maps → x.Fits
  rtr : ∀ x, x ∈ c.routers → x.Fits
def cfgMay (c : Cfg) : Bool := eachP 16 lstMay c.lists && (eachP 16 mapMayB c.maps && (eachP 8 rtrMay c.routers && (unlikeB [] (c.lists.map (·.name)) && (unlikeB [] (c.maps.map (·.name)) && unlikeB [] (c.routers.map (·.name))))))
theorem cfgMay_spec (c : Cfg) (hc : c.Fits) : Pure Tryz.prog 10 [eCfg c] (.bool (cfgMay c)) := by
  intro σ
  have f1 := eachPLst 28 [] lstMay c.kL c.lists 16 hc.lists (fun x hx => lstMay_spec x (hc.lst x hx).1)
  have f2 := eachPMap 31 [] mapMayB c.kM c.maps 16 hc.maps (fun x hx => mapMay_spec x (hc.map x hx))
  have f3 := eachPRtr 33 [] rtrMay c.kR c.routers 8 hc.routers (fun x hx => rtrMay_spec x (hc.rtr x hx))
  have f4 := unlLst c.kL c.lists hc.lists (fun x hx => (hc.lst x hx).2)
  have f5 := unlMap c.kM c.maps hc.maps (fun x hx => (hc.map x hx).name)
  have f6 := unlRtr c.kR c.routers hc.routers (fun x hx => (hc.rtr x hx).name)
  obtain ⟨b1, hb1⟩ : ∃ b, eachP 16 lstMay c.lists = b := ⟨_, rfl⟩
  obtain ⟨b2, hb2⟩ : ∃ b, eachP 16 mapMayB c.maps = b := ⟨_, rfl⟩
  obtain ⟨b3, hb3⟩ : ∃ b, eachP 8 rtrMay c.routers = b := ⟨_, rfl⟩
  obtain ⟨b4, hb4⟩ : ∃ b, unlikeB [] (c.lists.map (·.name)) = b := ⟨_, rfl⟩
  obtain ⟨b5, hb5⟩ : ∃ b, unlikeB [] (c.maps.map (·.name)) = b := ⟨_, rfl⟩
  obtain ⟨b6, hb6⟩ : ∃ b, unlikeB [] (c.routers.map (·.name)) = b := ⟨_, rfl⟩
  simp only [cfgMay, hb1, hb2, hb3, hb4, hb5, hb6] at f1 f2 f3 f4 f5 f6 ⊢
  refine PCall_q [.tmp 2] 33 Tryz.func10 (by rfl) rfl rfl rfl rfl ?_
  repeat' first
   |refine s1 ?_|refine s2 ?_|refine wt rfl ?_|refine wf rfl ?_|(refine wc rfl (fun h=>?_) (fun h=>?_)<;>(try simp only[Bool.not_eq_true',Bool.not_eq_false',decide_eq_true_eq,decide_eq_false_iff_not,Bool.not_not] at h)<;>(try first|exact bt (by assumption) (by assumption)|contradiction|(exfalso;omega)))|((first|refine s3 (mu:=[]) ?_|(refine W_region_any [] c0 mx (by kernel_rfl) ?_;intro nu _ _)|refine prun_go ?_|refine drun_go ?_|refine s5 ?_|refine s6 ?_|with_reducible apply s7);simp -dsimp (disch:=omega) only[go_sem,Nat.reduceLT,Nat.reduceLeDiff,Nat.reduceEqDiff,Nat.reduceAdd,Nat.reduceMul,Int.reduceNeg,Nat.reduceBEq,reduceCtorEq,↓reduceIte])
   |refine e1 ?_|refine e2 ?_|refine e3 ?_|refine e4 ?_|refine e5 ?_|refine e6 ?_|refine e7 ?_|refine e8 ?_|refine e9 ?_|refine e0 (by decide) ?_|refine ea ?_|(refine And.intro ?_ ?_;omega)|refine And.intro (of_eq_true PutAt_put) ?_
   |((first|refine gn (fun h=>?_) (fun h=>?_)|refine gf (fun h=>?_) (fun h=>?_)|refine gb (fun h=>?_) (fun h=>?_)|refine gp (fun h=>?_) (fun h=>?_))<;>(try first|exact bt (by assumption) (by assumption)|contradiction|(exfalso;omega))<;>(try with_reducible apply s7)<;>(try simp -dsimp (disch:=omega) only[h,go_sem,Nat.reduceLT,Nat.reduceLeDiff,Nat.reduceEqDiff,Nat.reduceAdd,Nat.reduceMul,Int.reduceNeg,Nat.reduceBEq,reduceCtorEq,↓reduceIte]))|refine Exists.intro _ (Exists.intro _ (And.intro (And.intro rfl rfl) ?_))
   |refine cu (f1) ?_|refine cv (f1) ?_|refine cx (f1) ?_
   |refine cu (f2) ?_|refine cv (f2) ?_|refine cx (f2) ?_
   |refine cu (f3) ?_|refine cv (f3) ?_|refine cx (f3) ?_
   |refine cu (f4) ?_|refine cv (f4) ?_|refine cx (f4) ?_
   |refine cu (f5) ?_|refine cv (f5) ?_|refine cx (f5) ?_
   |refine cu (f6) ?_|refine cv (f6) ?_|refine cx (f6) ?_
  all_goals (simp only [*, Bool.true_and, Bool.false_and])
end Go.Proofs.YtaealcimocpnnaaGreat
