/- show's writer of lines: the builder, a line. Conditions: none. -/
import Derived.Test.YtaealcimocpnnaaGreatBo
import Derived.Test.YtaealcimocpnnaaGreatBp
set_option linter.unusedVariables false
set_option linter.unusedSimpArgs false
namespace Go.Proofs.YtaealcimocpnnaaGreat
open Go.Kern Go.RowKit
theorem ck {P : Program} {f : FuncId} {args : List AV} {σ : Store} {K0 k : KK} {t : Tag k} (h : PCall P f args σ K0) (hk : ∀ r s, K0 r s → k r s) : PCall P f args σ (Hold k t) := h.mono hk
theorem ct {P : Program} {f : FuncId} {args : List AV} {v : AV} {k : AV → Prop} {σ : Store} (h : PCall P f args σ (fun r s' => r = v ∧ s' = σ)) (hk : k v) : ∃ v, PCall P f args σ (Hold (fun r s' => r = v ∧ s' = σ) .mk) ∧ k v := ⟨v, h, hk⟩
theorem liesW : LiesIn Tryz.prog 70 68 = true := by kernel_rfl
theorem xidE : XId Tryz.prog 180 := fun v w => by
  rw [run_callFunc_extern Tryz.func180 (by kernel_rfl) (by kernel_rfl) (by kernel_rfl) (e := Extern.AbiNoEscape.same) (by kernel_rfl)]
  rfl
set_option maxRecDepth 100000
set_option maxHeartbeats 4000000
attribute [local irreducible] PCall W
/-- A builder's rows: what its address says, and its bytes. -/
abbrev bldO (p buf : AV) : Ob := .arr 70 [.agg [p, buf]]
theorem copy_new (w : Nat) (buf : AV) (t : Store) (h : t w = some (bldO .nilp buf)) :
    PCall Tryz.prog 151 [.ptr w 0 0] t (fun r s => r = .tup [] ∧ s = t.put w (bldO (.ptr w 0 0) buf)) := by
  have hx := xidE
  have hl := liesW
  refine PCall_w [] 20 Tryz.func151 (by rfl) rfl rfl rfl rfl ?_
  repeat' first
   |refine s1 ?_|refine s2 ?_|refine wt rfl ?_|refine wf rfl ?_|(refine wc rfl (fun h=>?_) (fun h=>?_)<;>(try simp only[Bool.not_eq_true',Bool.not_eq_false',decide_eq_true_eq,decide_eq_false_iff_not,Bool.not_not] at h)<;>(try first|exact bt (by assumption) (by assumption)|contradiction|(exfalso;omega)))|((first|refine s3 (mu:=[1000010]) ?_|(refine W_region_any [1000010] c0 mx (by kernel_rfl) ?_;intro nu _ _)|refine prun_go ?_|refine drun_go ?_|refine s5 ?_|refine s6 ?_|with_reducible apply s7);simp -dsimp (disch:=omega) only[go_sem,Nat.reduceLT,Nat.reduceLeDiff,Nat.reduceEqDiff,Nat.reduceAdd,Nat.reduceMul,Int.reduceNeg,Nat.reduceBEq,reduceCtorEq,↓reduceIte,h, hx, hl])
   |refine e1 ?_|refine e2 ?_|refine e3 ?_|refine e4 ?_|refine e5 ?_|refine e6 ?_|refine e7 ?_|refine e8 ?_|refine e9 ?_|refine e0 (by decide) ?_|refine ea ?_|(refine And.intro ?_ ?_;omega)|refine And.intro (of_eq_true PutAt_put) ?_
   |((first|refine gn (fun h=>?_) (fun h=>?_)|refine gf (fun h=>?_) (fun h=>?_)|refine gb (fun h=>?_) (fun h=>?_)|refine gp (fun h=>?_) (fun h=>?_))<;>(try first|exact bt (by assumption) (by assumption)|contradiction|(exfalso;omega))<;>(try with_reducible apply s7)<;>(try simp -dsimp (disch:=omega) only[h,go_sem,Nat.reduceLT,Nat.reduceLeDiff,Nat.reduceEqDiff,Nat.reduceAdd,Nat.reduceMul,Int.reduceNeg,Nat.reduceBEq,reduceCtorEq,↓reduceIte,h, hx, hl]))|refine Exists.intro _ (Exists.intro _ (And.intro (And.intro rfl rfl) ?_))
theorem copy_old (w : Nat) (buf : AV) (t : Store) (h : t w = some (bldO (.ptr w 0 0) buf)) :
    PCall Tryz.prog 151 [.ptr w 0 0] t (fun r s => r = .tup [] ∧ s = t) := by
  refine PCall_w [] 20 Tryz.func151 (by rfl) rfl rfl rfl rfl ?_
  repeat' first
   |refine s1 ?_|refine s2 ?_|refine wt rfl ?_|refine wf rfl ?_|(refine wc rfl (fun h=>?_) (fun h=>?_)<;>(try simp only[Bool.not_eq_true',Bool.not_eq_false',decide_eq_true_eq,decide_eq_false_iff_not,Bool.not_not] at h)<;>(try first|exact bt (by assumption) (by assumption)|contradiction|(exfalso;omega)))|((first|refine s3 (mu:=[]) ?_|(refine W_region_any [] c0 mx (by kernel_rfl) ?_;intro nu _ _)|refine prun_go ?_|refine drun_go ?_|refine s5 ?_|refine s6 ?_|with_reducible apply s7);simp -dsimp (disch:=omega) only[go_sem,Nat.reduceLT,Nat.reduceLeDiff,Nat.reduceEqDiff,Nat.reduceAdd,Nat.reduceMul,Int.reduceNeg,Nat.reduceBEq,reduceCtorEq,↓reduceIte,h])
   |refine e1 ?_|refine e2 ?_|refine e3 ?_|refine e4 ?_|refine e5 ?_|refine e6 ?_|refine e7 ?_|refine e8 ?_|refine e9 ?_|refine e0 (by decide) ?_|refine ea ?_|(refine And.intro ?_ ?_;omega)|refine And.intro (of_eq_true PutAt_put) ?_
   |((first|refine gn (fun h=>?_) (fun h=>?_)|refine gf (fun h=>?_) (fun h=>?_)|refine gb (fun h=>?_) (fun h=>?_)|refine gp (fun h=>?_) (fun h=>?_))<;>(try first|exact bt (by assumption) (by assumption)|contradiction|(exfalso;omega))<;>(try with_reducible apply s7)<;>(try simp -dsimp (disch:=omega) only[h,go_sem,Nat.reduceLT,Nat.reduceLeDiff,Nat.reduceEqDiff,Nat.reduceAdd,Nat.reduceMul,Int.reduceNeg,Nat.reduceBEq,reduceCtorEq,↓reduceIte,h]))|refine Exists.intro _ (Exists.intro _ (And.intro (And.intro rfl rfl) ?_))
/-- A store that holds a builder with some bytes, beside what another one knows. -/
def WS (σ : Store) (w : Nat) (s : ByteArray) (t : Store) : Prop :=
  σ.Sub t ∧ σ w = none ∧ ((s = ⟨#[]⟩ ∧ (t w = some (bldO .nilp (.sl .nil [])) ∨ t w = some (bldO (.ptr w 0 0) (.sl .nil [])))) ∨
    (0 < s.size ∧ ∃ o, o ≠ w ∧ σ o = none ∧ t w = some (bldO (.ptr w 0 0) (.ms o 1 0 s.size)) ∧ t o = some (.arr 5 (encL eB (B s)))))
theorem WS_put {σ t : Store} {w nu : Nat} {s : ByteArray} {x : Ob} (h : WS σ w s t) (hn : t nu = none) : WS σ w s (t.put nu x) := by
  obtain ⟨h1, h2, h3⟩ := h
  have hp : ∀ p y, t p = some y → (t.put nu x) p = some y := fun p y hy => by
    simp only [Store.put]
    rw [if_neg (fun e => by rw [e, hn] at hy; cases hy)]; exact hy
  refine ⟨fun p y hy => hp p y (h1 p y hy), h2, ?_⟩
  rcases h3 with ⟨h4, h5 | h5⟩ | ⟨h8, o, h4, h5, h6, h7⟩
  · exact .inl ⟨h4, .inl (hp _ _ h5)⟩
  · exact .inl ⟨h4, .inr (hp _ _ h5)⟩
  · exact .inr ⟨h8, o, h4, h5, hp _ _ h6, hp _ _ h7⟩
theorem WS_sub {σ σ' t : Store} {w : Nat} {s : ByteArray} (h : WS σ' w s t) (hs : σ.Sub σ') : WS σ w s t := by
  obtain ⟨h1, h2, h3⟩ := h
  have hn : ∀ p, σ' p = none → σ p = none := fun p hp => by
    cases hq : σ p with
    | none => rfl
    | some y => rw [hs p y hq] at hp; cases hp
  refine ⟨fun p y hy => h1 p y (hs p y hy), hn _ h2, ?_⟩
  rcases h3 with h3 | ⟨h8, o, h4, h5, h6⟩
  · exact .inl h3
  · exact .inr ⟨h8, o, h4, hn _ h5, h6⟩
theorem WS_ne {σ t : Store} {w nu : Nat} {s : ByteArray} (h : WS σ w s t) (hn : t nu = none) : nu ≠ w := fun e => by
  obtain ⟨_, _, h3⟩ := h
  rcases h3 with ⟨_, h3 | h3⟩ | ⟨_, _, _, _, h3, _⟩ <;> (rw [e, h3] at hn; cases hn)
theorem WS_put2 {σ t : Store} {w nu : Nat} {s : ByteArray} {x : Ob} (h : WS σ w s t) (hn : t nu = none) : WS (σ.put nu x) w s (t.put nu x) := by
  have hne := WS_ne h hn
  obtain ⟨h1, h2, h3⟩ := h
  have hp : ∀ p y, t p = some y → (t.put nu x) p = some y := fun p y hy => by
    simp only [Store.put]
    rw [if_neg (fun e => by rw [e, hn] at hy; cases hy)]; exact hy
  refine ⟨fun p y hy => ?_, by rw [put_ne (Ne.symm hne)]; exact h2, ?_⟩
  · simp only [Store.put] at hy ⊢
    split
    · rename_i e; rw [if_pos e] at hy; exact hy
    · rename_i e; rw [if_neg e] at hy; exact h1 p y hy
  rcases h3 with ⟨h4, h5 | h5⟩ | ⟨h8, o, h4, h5, h6, h7⟩
  · exact .inl ⟨h4, .inl (hp _ _ h5)⟩
  · exact .inl ⟨h4, .inr (hp _ _ h5)⟩
  · exact .inr ⟨h8, o, h4, by rw [put_ne (fun e => by rw [e, hn] at h7; cases h7)]; exact h5, hp _ _ h6, hp _ _ h7⟩
theorem Sub_none {σ t : Store} {o : Nat} (h : σ.Sub t) (ho : t o = none) : σ o = none := by
  cases hq : σ o with
  | none => rfl
  | some y => rw [h o y hq] at ho; cases ho
theorem B_app (a b : ByteArray) : B (a ++ b) = B a ++ B b := by simp [B]
theorem str_spec {σ t : Store} {w : Nat} {s : ByteArray} (x : ByteArray) (h : WS σ w s t) (hb : s.size + x.size ≤ 140737488355328) :
    PCall Tryz.prog 114 [.ptr w 0 0, .str x] t (fun r t' => r = .tup [.int .i64 x.size, .nilifc] ∧ WS σ w (s ++ x) t') := by
  obtain ⟨h1, h2, h3⟩ := h
  have hsub : ∀ (y : Ob), σ.Sub (t.put w y) := fun y => Sub_put h1 h2 y
  have hlx : (bytesA x).length = x.size := length_bytesA x
  rcases h3 with ⟨rfl, h5⟩ | ⟨h8, o, h4, h5, h6, h7⟩
  · have hc : PCall Tryz.prog 151 [.ptr w 0 0] t (fun r s => r = .tup [] ∧ s = t.put w (bldO (.ptr w 0 0) (.sl .nil []))) := by
      rcases h5 with h5 | h5
      · exact copy_new w _ t h5
      · rw [put_self h5]; exact copy_old w _ t h5
    by_cases hx : x.size = 0
    · skip
      refine PCall_w [.tmp 4, .tmp 5] 19 Tryz.func114 (by rfl) rfl rfl rfl rfl ?_
      repeat' first
       |refine s1 ?_|refine s2 ?_|refine wt rfl ?_|refine wf rfl ?_|(refine wc rfl (fun h=>?_) (fun h=>?_)<;>(try simp only[Bool.not_eq_true',Bool.not_eq_false',decide_eq_true_eq,decide_eq_false_iff_not,Bool.not_not] at h)<;>(try first|exact bt (by assumption) (by assumption)|contradiction|(exfalso;omega)))|((first|refine s3 (mu:=[]) ?_|(refine W_region_any [] c0 mx (by kernel_rfl) ?_;intro nu _ _)|refine prun_go ?_|refine drun_go ?_|refine s5 ?_|refine s6 ?_|with_reducible apply s7);simp -dsimp (disch:=omega) only[go_sem,Nat.reduceLT,Nat.reduceLeDiff,Nat.reduceEqDiff,Nat.reduceAdd,Nat.reduceMul,Int.reduceNeg,Nat.reduceBEq,reduceCtorEq,↓reduceIte,hx])
       |refine e1 ?_|refine e2 ?_|refine e3 ?_|refine e4 ?_|refine e5 ?_|refine e6 ?_|refine e7 ?_|refine e8 ?_|refine e9 ?_|refine e0 (by decide) ?_|refine ea ?_|(refine And.intro ?_ ?_;omega)|refine And.intro (of_eq_true PutAt_put) ?_
       |((first|refine gn (fun h=>?_) (fun h=>?_)|refine gf (fun h=>?_) (fun h=>?_)|refine gb (fun h=>?_) (fun h=>?_)|refine gp (fun h=>?_) (fun h=>?_))<;>(try first|exact bt (by assumption) (by assumption)|contradiction|(exfalso;omega))<;>(try with_reducible apply s7)<;>(try simp -dsimp (disch:=omega) only[h,go_sem,Nat.reduceLT,Nat.reduceLeDiff,Nat.reduceEqDiff,Nat.reduceAdd,Nat.reduceMul,Int.reduceNeg,Nat.reduceBEq,reduceCtorEq,↓reduceIte,hx]))|refine Exists.intro _ (Exists.intro _ (And.intro (And.intro rfl rfl) ?_))
       |refine cy (hc) ?_|refine cz (hc) ?_
      refine ⟨_, Store.Sub.refl _, hsub _, h2, .inl ⟨?_, .inr (put_same ..)⟩⟩
      rw [(empty_iff x).2 hx]; rfl
    · skip
      refine PCall_w [.tmp 4, .tmp 5] 19 Tryz.func114 (by rfl) rfl rfl rfl rfl ?_
      repeat' first
       |refine s1 ?_|refine s2 ?_|refine wt rfl ?_|refine wf rfl ?_|(refine wc rfl (fun h=>?_) (fun h=>?_)<;>(try simp only[Bool.not_eq_true',Bool.not_eq_false',decide_eq_true_eq,decide_eq_false_iff_not,Bool.not_not] at h)<;>(try first|exact bt (by assumption) (by assumption)|contradiction|(exfalso;omega)))|((first|refine s3 (mu:=[]) ?_|(refine W_region_any [] c0 mx (by kernel_rfl) ?_;intro nu _ _)|refine prun_go ?_|refine drun_go ?_|refine s5 ?_|refine s6 ?_|with_reducible apply s7);simp -dsimp (disch:=omega) only[go_sem,Nat.reduceLT,Nat.reduceLeDiff,Nat.reduceEqDiff,Nat.reduceAdd,Nat.reduceMul,Int.reduceNeg,Nat.reduceBEq,reduceCtorEq,↓reduceIte,hx])
       |refine e1 ?_|refine e2 ?_|refine e3 ?_|refine e4 ?_|refine e5 ?_|refine e6 ?_|refine e7 ?_|refine e8 ?_|refine e9 ?_|refine e0 (by decide) ?_|refine ea ?_|(refine And.intro ?_ ?_;omega)|refine And.intro (of_eq_true PutAt_put) ?_
       |((first|refine gn (fun h=>?_) (fun h=>?_)|refine gf (fun h=>?_) (fun h=>?_)|refine gb (fun h=>?_) (fun h=>?_)|refine gp (fun h=>?_) (fun h=>?_))<;>(try first|exact bt (by assumption) (by assumption)|contradiction|(exfalso;omega))<;>(try with_reducible apply s7)<;>(try simp -dsimp (disch:=omega) only[h,go_sem,Nat.reduceLT,Nat.reduceLeDiff,Nat.reduceEqDiff,Nat.reduceAdd,Nat.reduceMul,Int.reduceNeg,Nat.reduceBEq,reduceCtorEq,↓reduceIte,hx]))|refine Exists.intro _ (Exists.intro _ (And.intro (And.intro rfl rfl) ?_))
       |refine cy (hc) ?_|refine cz (hc) ?_
      intro o' ho'
      have hne := alloc_ne ho'
      have hot : t o' = none := by rw [← put_oth hne t]; exact ho'
      have hpn : ∀ (s : Store) (x : Ob), (s.put o' x) w = s w := fun s x => put_ne (Ne.symm hne)
      simp -dsimp (disch:=omega) only[go_sem,Nat.reduceLT,Nat.reduceLeDiff,Nat.reduceEqDiff,Nat.reduceAdd,Nat.reduceMul,Int.reduceNeg,Nat.reduceBEq,reduceCtorEq,↓reduceIte,hpn]
      repeat' first
       |refine s1 ?_|refine s2 ?_|refine wt rfl ?_|refine wf rfl ?_|(refine wc rfl (fun h=>?_) (fun h=>?_)<;>(try simp only[Bool.not_eq_true',Bool.not_eq_false',decide_eq_true_eq,decide_eq_false_iff_not,Bool.not_not] at h)<;>(try first|exact bt (by assumption) (by assumption)|contradiction|(exfalso;omega)))|((first|refine s3 (mu:=[]) ?_|(refine W_region_any [] c0 mx (by kernel_rfl) ?_;intro nu _ _)|refine prun_go ?_|refine drun_go ?_|refine s5 ?_|refine s6 ?_|with_reducible apply s7);simp -dsimp (disch:=omega) only[go_sem,Nat.reduceLT,Nat.reduceLeDiff,Nat.reduceEqDiff,Nat.reduceAdd,Nat.reduceMul,Int.reduceNeg,Nat.reduceBEq,reduceCtorEq,↓reduceIte,hpn])
       |refine e1 ?_|refine e2 ?_|refine e3 ?_|refine e4 ?_|refine e5 ?_|refine e6 ?_|refine e7 ?_|refine e8 ?_|refine e9 ?_|refine e0 (by decide) ?_|refine ea ?_|(refine And.intro ?_ ?_;omega)|refine And.intro (of_eq_true PutAt_put) ?_
       |((first|refine gn (fun h=>?_) (fun h=>?_)|refine gf (fun h=>?_) (fun h=>?_)|refine gb (fun h=>?_) (fun h=>?_)|refine gp (fun h=>?_) (fun h=>?_))<;>(try first|exact bt (by assumption) (by assumption)|contradiction|(exfalso;omega))<;>(try with_reducible apply s7)<;>(try simp -dsimp (disch:=omega) only[h,go_sem,Nat.reduceLT,Nat.reduceLeDiff,Nat.reduceEqDiff,Nat.reduceAdd,Nat.reduceMul,Int.reduceNeg,Nat.reduceBEq,reduceCtorEq,↓reduceIte,hpn]))|refine Exists.intro _ (Exists.intro _ (And.intro (And.intro rfl rfl) ?_))
      have hem : (⟨#[]⟩ : ByteArray) ++ x = x := eA x
      refine ⟨_, Store.Sub.refl _, ?_, h2, .inr ⟨by rw [szA]; omega, o', hne, ?_, ?_, ?_⟩⟩
      · exact Sub_put (Sub_put (hsub _) (Sub_none h1 hot) _) h2 _
      · exact Sub_none h1 hot
      · rw [put_same, hem]
      · rw [put_ne hne, put_same, hem]
  · have hlb := length_B s
    have htk : (encL eB (B s)).take s.size = encL eB (B s) := by rw [take_encL, ← hlb, List.take_length]
    by_cases hx : x.size = 0
    · skip
      refine PCall_w [.tmp 4, .tmp 5] 19 Tryz.func114 (by rfl) rfl rfl rfl rfl ?_
      repeat' first
       |refine s1 ?_|refine s2 ?_|refine wt rfl ?_|refine wf rfl ?_|(refine wc rfl (fun h=>?_) (fun h=>?_)<;>(try simp only[Bool.not_eq_true',Bool.not_eq_false',decide_eq_true_eq,decide_eq_false_iff_not,Bool.not_not] at h)<;>(try first|exact bt (by assumption) (by assumption)|contradiction|(exfalso;omega)))|((first|refine s3 (mu:=[]) ?_|(refine W_region_any [] c0 mx (by kernel_rfl) ?_;intro nu _ _)|refine prun_go ?_|refine drun_go ?_|refine s5 ?_|refine s6 ?_|with_reducible apply s7);simp -dsimp (disch:=omega) only[go_sem,Nat.reduceLT,Nat.reduceLeDiff,Nat.reduceEqDiff,Nat.reduceAdd,Nat.reduceMul,Int.reduceNeg,Nat.reduceBEq,reduceCtorEq,↓reduceIte,hx, h6, h7, hlb])
       |refine e1 ?_|refine e2 ?_|refine e3 ?_|refine e4 ?_|refine e5 ?_|refine e6 ?_|refine e7 ?_|refine e8 ?_|refine e9 ?_|refine e0 (by decide) ?_|refine ea ?_|(refine And.intro ?_ ?_;omega)|refine And.intro (of_eq_true PutAt_put) ?_
       |((first|refine gn (fun h=>?_) (fun h=>?_)|refine gf (fun h=>?_) (fun h=>?_)|refine gb (fun h=>?_) (fun h=>?_)|refine gp (fun h=>?_) (fun h=>?_))<;>(try first|exact bt (by assumption) (by assumption)|contradiction|(exfalso;omega))<;>(try with_reducible apply s7)<;>(try simp -dsimp (disch:=omega) only[h,go_sem,Nat.reduceLT,Nat.reduceLeDiff,Nat.reduceEqDiff,Nat.reduceAdd,Nat.reduceMul,Int.reduceNeg,Nat.reduceBEq,reduceCtorEq,↓reduceIte,hx, h6, h7, hlb]))|refine Exists.intro _ (Exists.intro _ (And.intro (And.intro rfl rfl) ?_))
       |refine cy (copy_old w _ t h6) ?_|refine cz (copy_old w _ t h6) ?_
      refine ⟨_, Store.Sub.refl _, ?_⟩
      rw [put_self h6, (empty_iff x).2 hx, emA]
      exact ⟨h1, h2, .inr ⟨h8, o, h4, h5, h6, h7⟩⟩
    · skip
      refine PCall_w [.tmp 4, .tmp 5] 19 Tryz.func114 (by rfl) rfl rfl rfl rfl ?_
      repeat' first
       |refine s1 ?_|refine s2 ?_|refine wt rfl ?_|refine wf rfl ?_|(refine wc rfl (fun h=>?_) (fun h=>?_)<;>(try simp only[Bool.not_eq_true',Bool.not_eq_false',decide_eq_true_eq,decide_eq_false_iff_not,Bool.not_not] at h)<;>(try first|exact bt (by assumption) (by assumption)|contradiction|(exfalso;omega)))|((first|refine s3 (mu:=[]) ?_|(refine W_region_any [] c0 mx (by kernel_rfl) ?_;intro nu _ _)|refine prun_go ?_|refine drun_go ?_|refine s5 ?_|refine s6 ?_|with_reducible apply s7);simp -dsimp (disch:=omega) only[go_sem,Nat.reduceLT,Nat.reduceLeDiff,Nat.reduceEqDiff,Nat.reduceAdd,Nat.reduceMul,Int.reduceNeg,Nat.reduceBEq,reduceCtorEq,↓reduceIte,hx, h6, h7, hlb, htk, app_encL])
       |refine e1 ?_|refine e2 ?_|refine e3 ?_|refine e4 ?_|refine e5 ?_|refine e6 ?_|refine e7 ?_|refine e8 ?_|refine e9 ?_|refine e0 (by decide) ?_|refine ea ?_|(refine And.intro ?_ ?_;omega)|refine And.intro (of_eq_true PutAt_put) ?_
       |((first|refine gn (fun h=>?_) (fun h=>?_)|refine gf (fun h=>?_) (fun h=>?_)|refine gb (fun h=>?_) (fun h=>?_)|refine gp (fun h=>?_) (fun h=>?_))<;>(try first|exact bt (by assumption) (by assumption)|contradiction|(exfalso;omega))<;>(try with_reducible apply s7)<;>(try simp -dsimp (disch:=omega) only[h,go_sem,Nat.reduceLT,Nat.reduceLeDiff,Nat.reduceEqDiff,Nat.reduceAdd,Nat.reduceMul,Int.reduceNeg,Nat.reduceBEq,reduceCtorEq,↓reduceIte,hx, h6, h7, hlb, htk, app_encL]))|refine Exists.intro _ (Exists.intro _ (And.intro (And.intro rfl rfl) ?_))
       |refine cy (copy_old w _ t h6) ?_|refine cz (copy_old w _ t h6) ?_
      intro o' ho'
      have hne : o' ≠ w := fun e => by rw [e, h6] at ho'; cases ho'
      have hpn : ∀ (s : Store) (x : Ob), (s.put o' x) w = s w := fun s x => put_ne (Ne.symm hne)
      have hdr : (t.drop o) w = t w := by simp only [Store.drop]; rw [if_neg (Ne.symm h4)]
      simp -dsimp (disch:=omega) only[go_sem,Nat.reduceLT,Nat.reduceLeDiff,Nat.reduceEqDiff,Nat.reduceAdd,Nat.reduceMul,Int.reduceNeg,Nat.reduceBEq,reduceCtorEq,↓reduceIte,hpn, hdr, h6]
      repeat' first
       |refine s1 ?_|refine s2 ?_|refine wt rfl ?_|refine wf rfl ?_|(refine wc rfl (fun h=>?_) (fun h=>?_)<;>(try simp only[Bool.not_eq_true',Bool.not_eq_false',decide_eq_true_eq,decide_eq_false_iff_not,Bool.not_not] at h)<;>(try first|exact bt (by assumption) (by assumption)|contradiction|(exfalso;omega)))|((first|refine s3 (mu:=[]) ?_|(refine W_region_any [] c0 mx (by kernel_rfl) ?_;intro nu _ _)|refine prun_go ?_|refine drun_go ?_|refine s5 ?_|refine s6 ?_|with_reducible apply s7);simp -dsimp (disch:=omega) only[go_sem,Nat.reduceLT,Nat.reduceLeDiff,Nat.reduceEqDiff,Nat.reduceAdd,Nat.reduceMul,Int.reduceNeg,Nat.reduceBEq,reduceCtorEq,↓reduceIte,hpn, hdr, h6])
       |refine e1 ?_|refine e2 ?_|refine e3 ?_|refine e4 ?_|refine e5 ?_|refine e6 ?_|refine e7 ?_|refine e8 ?_|refine e9 ?_|refine e0 (by decide) ?_|refine ea ?_|(refine And.intro ?_ ?_;omega)|refine And.intro (of_eq_true PutAt_put) ?_
       |((first|refine gn (fun h=>?_) (fun h=>?_)|refine gf (fun h=>?_) (fun h=>?_)|refine gb (fun h=>?_) (fun h=>?_)|refine gp (fun h=>?_) (fun h=>?_))<;>(try first|exact bt (by assumption) (by assumption)|contradiction|(exfalso;omega))<;>(try with_reducible apply s7)<;>(try simp -dsimp (disch:=omega) only[h,go_sem,Nat.reduceLT,Nat.reduceLeDiff,Nat.reduceEqDiff,Nat.reduceAdd,Nat.reduceMul,Int.reduceNeg,Nat.reduceBEq,reduceCtorEq,↓reduceIte,hpn, hdr, h6]))|refine Exists.intro _ (Exists.intro _ (And.intro (And.intro rfl rfl) ?_))
      refine ⟨_, Store.Sub.refl _, ?_, h2, .inr ⟨by rw [szA]; omega, o', hne, ?_, ?_, ?_⟩⟩
      · refine Sub_put (Sub_put (fun p y hp => ?_) (Sub_none h1 ho') _) h2 _
        simp only [Store.drop]
        rw [if_neg (fun e => by rw [e, h5] at hp; cases hp)]
        exact h1 p y hp
      · exact Sub_none h1 ho'
      · rw [put_same, szA]
      · rw [put_ne hne, put_same, B_app]
/-! A line. -/
theorem rep_spec (n : Nat) (h : n ≤ 2) : Pure Tryz.prog 115 [.str ⟨#[32]⟩, .int .i64 n] (.str (repB n)) := by
  have h1 := repeat_spec ⟨#[32]⟩ n (by omega) (by simp [ByteArray.size]; omega)
  have e : (⟨(Lib.repeatL (⟨#[32]⟩ : ByteArray).data.toList n).toArray⟩ : ByteArray) = repB n := by
    match n, h with
    | 0, _ => rfl
    | 1, _ => rfl
    | 2, _ => rfl
  rw [e] at h1
  exact h1
theorem line_any {σ t : Store} {w : Nat} {s : ByteArray} (n : Nat) (ws : AV) (j : ByteArray) (h : WS σ w s t) (hn : n ≤ 2) (hj : ∀ t', σ.Sub t' → PCall Tryz.prog 116 [ws, .str ⟨#[32]⟩] t' (fun r s => r = .str j ∧ s = t'))
    (hb : s.size + (repB n ++ (j ++ (⟨#[10]⟩ : ByteArray))).size ≤ 140737488355328) :
    PCall Tryz.prog 56 [.ptr w 0 0, .int .i64 n, ws] t (fun r t' => r = .tup [] ∧ WS σ w (s ++ (repB n ++ (j ++ (⟨#[10]⟩ : ByteArray)))) t') := by
  have h1 := rep_spec n hn
  simp only [szA] at hb
  refine PCall_w [] 22 Tryz.func56 (by rfl) rfl rfl rfl rfl ?_
  repeat' first
   |refine s1 ?_|refine s2 ?_|refine wt rfl ?_|refine wf rfl ?_|(refine wc rfl (fun h=>?_) (fun h=>?_)<;>(try simp only[Bool.not_eq_true',Bool.not_eq_false',decide_eq_true_eq,decide_eq_false_iff_not,Bool.not_not] at h)<;>(try first|exact bt (by assumption) (by assumption)|contradiction|(exfalso;omega)))|((first|refine s3 (mu:=[]) ?_|(refine W_region_any (id:=0) [] ⟨[],[5],[],[],[5],[],0⟩ mx (by kernel_rfl) ?_;intro nu _ _)|(refine W_region_any (id:=1) [] ⟨[4],[5],[],[],[5],[],0⟩ mx (by kernel_rfl) ?_;intro nu _ _)|(refine W_region_any [] c0 mx (by kernel_rfl) ?_;intro nu _ _)|refine prun_go ?_|refine drun_go ?_|refine s5 ?_|refine s6 ?_|with_reducible apply s7);simp -dsimp (disch:=omega) only[go_sem,Nat.reduceLT,Nat.reduceLeDiff,Nat.reduceEqDiff,Nat.reduceAdd,Nat.reduceMul,Int.reduceNeg,Nat.reduceBEq,reduceCtorEq,↓reduceIte])
   |refine e1 ?_|refine e2 ?_|refine e3 ?_|refine e4 ?_|refine e5 ?_|refine e6 ?_|refine e7 ?_|refine e8 ?_|refine e9 ?_|refine e0 (by decide) ?_|refine ea ?_|(refine And.intro ?_ ?_;omega)|refine And.intro (of_eq_true PutAt_put) ?_
   |((first|refine gn (fun h=>?_) (fun h=>?_)|refine gf (fun h=>?_) (fun h=>?_)|refine gb (fun h=>?_) (fun h=>?_)|refine gp (fun h=>?_) (fun h=>?_))<;>(try first|exact bt (by assumption) (by assumption)|contradiction|(exfalso;omega))<;>(try with_reducible apply s7)<;>(try simp -dsimp (disch:=omega) only[h,go_sem,Nat.reduceLT,Nat.reduceLeDiff,Nat.reduceEqDiff,Nat.reduceAdd,Nat.reduceMul,Int.reduceNeg,Nat.reduceBEq,reduceCtorEq,↓reduceIte]))|refine Exists.intro _ (Exists.intro _ (And.intro (And.intro rfl rfl) ?_))
   |refine cu (h1) ?_|refine cv (h1) ?_|refine cx (h1) ?_
  refine ck (str_spec _ h (by omega)) ?_
  rintro _ t1 ⟨rfl, hw⟩
  repeat' first
   |refine s1 ?_|refine s2 ?_|refine wt rfl ?_|refine wf rfl ?_|(refine wc rfl (fun h=>?_) (fun h=>?_)<;>(try simp only[Bool.not_eq_true',Bool.not_eq_false',decide_eq_true_eq,decide_eq_false_iff_not,Bool.not_not] at h)<;>(try first|exact bt (by assumption) (by assumption)|contradiction|(exfalso;omega)))|((first|refine s3 (mu:=[]) ?_|(refine W_region_any (id:=1) [] ⟨[4],[5],[],[],[5],[],0⟩ mx (by kernel_rfl) ?_;intro nu _ _)|(refine W_region_any [] c0 mx (by kernel_rfl) ?_;intro nu _ _)|refine prun_go ?_|refine drun_go ?_|refine s5 ?_|refine s6 ?_|with_reducible apply s7);simp -dsimp (disch:=omega) only[go_sem,Nat.reduceLT,Nat.reduceLeDiff,Nat.reduceEqDiff,Nat.reduceAdd,Nat.reduceMul,Int.reduceNeg,Nat.reduceBEq,reduceCtorEq,↓reduceIte])
   |refine e1 ?_|refine e2 ?_|refine e3 ?_|refine e4 ?_|refine e5 ?_|refine e6 ?_|refine e7 ?_|refine e8 ?_|refine e9 ?_|refine e0 (by decide) ?_|refine ea ?_|(refine And.intro ?_ ?_;omega)|refine And.intro (of_eq_true PutAt_put) ?_
   |((first|refine gn (fun h=>?_) (fun h=>?_)|refine gf (fun h=>?_) (fun h=>?_)|refine gb (fun h=>?_) (fun h=>?_)|refine gp (fun h=>?_) (fun h=>?_))<;>(try first|exact bt (by assumption) (by assumption)|contradiction|(exfalso;omega))<;>(try with_reducible apply s7)<;>(try simp -dsimp (disch:=omega) only[h,go_sem,Nat.reduceLT,Nat.reduceLeDiff,Nat.reduceEqDiff,Nat.reduceAdd,Nat.reduceMul,Int.reduceNeg,Nat.reduceBEq,reduceCtorEq,↓reduceIte]))|refine Exists.intro _ (Exists.intro _ (And.intro (And.intro rfl rfl) ?_))
   |refine ct (hj _ hw.1) ?_
  refine ck (str_spec _ hw (by simp only [szA]; omega)) ?_
  rintro _ t2 ⟨rfl, hw2⟩
  repeat' first
   |refine s1 ?_|refine s2 ?_|refine wt rfl ?_|refine wf rfl ?_|(refine wc rfl (fun h=>?_) (fun h=>?_)<;>(try simp only[Bool.not_eq_true',Bool.not_eq_false',decide_eq_true_eq,decide_eq_false_iff_not,Bool.not_not] at h)<;>(try first|exact bt (by assumption) (by assumption)|contradiction|(exfalso;omega)))|((first|refine s3 (mu:=[]) ?_|(refine W_region_any [] c0 mx (by kernel_rfl) ?_;intro nu _ _)|refine prun_go ?_|refine drun_go ?_|refine s5 ?_|refine s6 ?_|with_reducible apply s7);simp -dsimp (disch:=omega) only[go_sem,Nat.reduceLT,Nat.reduceLeDiff,Nat.reduceEqDiff,Nat.reduceAdd,Nat.reduceMul,Int.reduceNeg,Nat.reduceBEq,reduceCtorEq,↓reduceIte])
   |refine e1 ?_|refine e2 ?_|refine e3 ?_|refine e4 ?_|refine e5 ?_|refine e6 ?_|refine e7 ?_|refine e8 ?_|refine e9 ?_|refine e0 (by decide) ?_|refine ea ?_|(refine And.intro ?_ ?_;omega)|refine And.intro (of_eq_true PutAt_put) ?_
   |((first|refine gn (fun h=>?_) (fun h=>?_)|refine gf (fun h=>?_) (fun h=>?_)|refine gb (fun h=>?_) (fun h=>?_)|refine gp (fun h=>?_) (fun h=>?_))<;>(try first|exact bt (by assumption) (by assumption)|contradiction|(exfalso;omega))<;>(try with_reducible apply s7)<;>(try simp -dsimp (disch:=omega) only[h,go_sem,Nat.reduceLT,Nat.reduceLeDiff,Nat.reduceEqDiff,Nat.reduceAdd,Nat.reduceMul,Int.reduceNeg,Nat.reduceBEq,reduceCtorEq,↓reduceIte]))|refine Exists.intro _ (Exists.intro _ (And.intro (And.intro rfl rfl) ?_))
  refine ck (str_spec _ hw2 (by simp only [szA]; omega)) ?_
  rintro _ t3 ⟨rfl, hw3⟩
  repeat' first
   |refine s1 ?_|refine s2 ?_|refine wt rfl ?_|refine wf rfl ?_|(refine wc rfl (fun h=>?_) (fun h=>?_)<;>(try simp only[Bool.not_eq_true',Bool.not_eq_false',decide_eq_true_eq,decide_eq_false_iff_not,Bool.not_not] at h)<;>(try first|exact bt (by assumption) (by assumption)|contradiction|(exfalso;omega)))|((first|refine s3 (mu:=[]) ?_|(refine W_region_any [] c0 mx (by kernel_rfl) ?_;intro nu _ _)|refine prun_go ?_|refine drun_go ?_|refine s5 ?_|refine s6 ?_|with_reducible apply s7);simp -dsimp (disch:=omega) only[go_sem,Nat.reduceLT,Nat.reduceLeDiff,Nat.reduceEqDiff,Nat.reduceAdd,Nat.reduceMul,Int.reduceNeg,Nat.reduceBEq,reduceCtorEq,↓reduceIte])
   |refine e1 ?_|refine e2 ?_|refine e3 ?_|refine e4 ?_|refine e5 ?_|refine e6 ?_|refine e7 ?_|refine e8 ?_|refine e9 ?_|refine e0 (by decide) ?_|refine ea ?_|(refine And.intro ?_ ?_;omega)|refine And.intro (of_eq_true PutAt_put) ?_
   |((first|refine gn (fun h=>?_) (fun h=>?_)|refine gf (fun h=>?_) (fun h=>?_)|refine gb (fun h=>?_) (fun h=>?_)|refine gp (fun h=>?_) (fun h=>?_))<;>(try first|exact bt (by assumption) (by assumption)|contradiction|(exfalso;omega))<;>(try with_reducible apply s7)<;>(try simp -dsimp (disch:=omega) only[h,go_sem,Nat.reduceLT,Nat.reduceLeDiff,Nat.reduceEqDiff,Nat.reduceAdd,Nat.reduceMul,Int.reduceNeg,Nat.reduceBEq,reduceCtorEq,↓reduceIte]))|refine Exists.intro _ (Exists.intro _ (And.intro (And.intro rfl rfl) ?_))
  refine ⟨_, Store.Sub.refl _, ?_⟩
  simp only [asA] at hw3
  exact hw3
theorem line_sl {σ t : Store} {w : Nat} {s : ByteArray} (n : Nat) (k : SK) (ws : List ByteArray) (h : WS σ w s t) (hn : n ≤ 2) (hl : ws.length ≤ 10) (hb : s.size + (lineB n ws).size ≤ 140737488355328) :
    PCall Tryz.prog 56 [.ptr w 0 0, .int .i64 n, .sl k (ws.map AV.str)] t (fun r t' => r = .tup [] ∧ WS σ w (s ++ lineB n ws) t') :=
  line_any n _ _ h hn (fun t' _ => join_sl joinOk k ws blk (by omega) (by unfold lineB at hb; simp only [szA] at hb; omega) t') hb
theorem line_ms {σ t : Store} {w o : Nat} {e : TypeId} {s : ByteArray} (n : Nat) (ws : List ByteArray) (h : WS σ w s t) (ho : σ o = some (.arr e (ws.map AV.str))) (hne : ws ≠ []) (hn : n ≤ 2) (hl : ws.length ≤ 10) (hb : s.size + (lineB n ws).size ≤ 140737488355328) :
    PCall Tryz.prog 56 [.ptr w 0 0, .int .i64 n, .ms o 1 0 ws.length] t (fun r t' => r = .tup [] ∧ WS σ w (s ++ lineB n ws) t') :=
  line_any n _ _ h hn (fun t' ht => join_ms joinOk o e ws blk (by omega) (by unfold lineB at hb; simp only [szA] at hb; omega) hne t' (ht o _ ho)) hb
theorem line1 {σ t : Store} {w : Nat} {s : ByteArray} (n : Nat) (k : SK) (a : ByteArray) (h : WS σ w s t) (hn : n ≤ 2) (hb : s.size + (lineB n [a]).size ≤ 140737488355328) :
    PCall Tryz.prog 56 [.ptr w 0 0, .int .i64 n, .sl k [.str a]] t (fun r t' => r = .tup [] ∧ WS σ w (s ++ lineB n [a]) t') := line_sl n k [a] h hn (by simp) hb
theorem line2 {σ t : Store} {w : Nat} {s : ByteArray} (n : Nat) (k : SK) (a b : ByteArray) (h : WS σ w s t) (hn : n ≤ 2) (hb : s.size + (lineB n [a, b]).size ≤ 140737488355328) :
    PCall Tryz.prog 56 [.ptr w 0 0, .int .i64 n, .sl k [.str a, .str b]] t (fun r t' => r = .tup [] ∧ WS σ w (s ++ lineB n [a, b]) t') := line_sl n k [a, b] h hn (by simp) hb
theorem line3 {σ t : Store} {w : Nat} {s : ByteArray} (n : Nat) (k : SK) (a b c : ByteArray) (h : WS σ w s t) (hn : n ≤ 2) (hb : s.size + (lineB n [a, b, c]).size ≤ 140737488355328) :
    PCall Tryz.prog 56 [.ptr w 0 0, .int .i64 n, .sl k [.str a, .str b, .str c]] t (fun r t' => r = .tup [] ∧ WS σ w (s ++ lineB n [a, b, c]) t') := line_sl n k [a, b, c] h hn (by simp) hb
theorem line4 {σ t : Store} {w : Nat} {s : ByteArray} (n : Nat) (k : SK) (a b c d : ByteArray) (h : WS σ w s t) (hn : n ≤ 2) (hb : s.size + (lineB n [a, b, c, d]).size ≤ 140737488355328) :
    PCall Tryz.prog 56 [.ptr w 0 0, .int .i64 n, .sl k [.str a, .str b, .str c, .str d]] t (fun r t' => r = .tup [] ∧ WS σ w (s ++ lineB n [a, b, c, d]) t') := line_sl n k [a, b, c, d] h hn (by simp) hb
/-! A line of a clause. -/
theorem some1 {σ t : Store} {w o : Nat} {e : TypeId} {s : ByteArray} (is : Bool) (a : ByteArray) (h : WS σ w s t) (hn : t o = none) (hb : s.size + (someB is [a]).size ≤ 140737488355328) (hb1 : a.size ≤ 140737488355328) :
    PCall Tryz.prog 118 [.ptr w 0 0, .bool is, .ms o 1 0 1] (t.put o (.arr e [.str a])) (fun r t' => r = .tup [] ∧ WS σ w (s ++ someB is [a]) t') := by
  have hσo := Sub_none h.1 hn
  refine PCall_w [] 18 Tryz.func118 (by rfl) rfl rfl rfl rfl ?_
  rcases Bool.eq_false_or_eq_true is with rfl | rfl
  · have hs1 : (⟨#[59]⟩ : ByteArray).size = 1 := rfl
    have hi1 : (((1 : Nat) : Int) - 1).toNat = 0 := rfl
    repeat' first
     |refine s1 ?_|refine s2 ?_|refine wt rfl ?_|refine wf rfl ?_|(refine wc rfl (fun h=>?_) (fun h=>?_)<;>(try simp only[Bool.not_eq_true',Bool.not_eq_false',decide_eq_true_eq,decide_eq_false_iff_not,Bool.not_not] at h)<;>(try first|exact bt (by assumption) (by assumption)|contradiction|(exfalso;omega)))|((first|refine s3 (mu:=[]) ?_|(refine W_region_any [] c0 mx (by kernel_rfl) ?_;intro nu _ _)|refine prun_go ?_|refine drun_go ?_|refine s5 ?_|refine s6 ?_|with_reducible apply s7);simp -dsimp (disch:=omega) only[go_sem,Nat.reduceLT,Nat.reduceLeDiff,Nat.reduceEqDiff,Nat.reduceAdd,Nat.reduceMul,Int.reduceNeg,Nat.reduceBEq,reduceCtorEq,↓reduceIte,szA, hs1, hi1])
     |refine e1 ?_|refine e2 ?_|refine e3 ?_|refine e4 ?_|refine e5 ?_|refine e6 ?_|refine e7 ?_|refine e8 ?_|refine e9 ?_|refine e0 (by decide) ?_|refine ea ?_|(refine And.intro ?_ ?_;omega)|refine And.intro (of_eq_true PutAt_put) ?_
     |((first|refine gn (fun h=>?_) (fun h=>?_)|refine gf (fun h=>?_) (fun h=>?_)|refine gb (fun h=>?_) (fun h=>?_)|refine gp (fun h=>?_) (fun h=>?_))<;>(try first|exact bt (by assumption) (by assumption)|contradiction|(exfalso;omega))<;>(try with_reducible apply s7)<;>(try simp -dsimp (disch:=omega) only[h,go_sem,Nat.reduceLT,Nat.reduceLeDiff,Nat.reduceEqDiff,Nat.reduceAdd,Nat.reduceMul,Int.reduceNeg,Nat.reduceBEq,reduceCtorEq,↓reduceIte,szA, hs1, hi1]))|refine Exists.intro _ (Exists.intro _ (And.intro (And.intro rfl rfl) ?_))
    have hw1 : WS (σ.put o (.arr e [.str (a ++ (⟨#[59]⟩ : ByteArray))])) w s (t.put o (.arr e [.str (a ++ (⟨#[59]⟩ : ByteArray))])) := WS_put2 h hn
    refine ck (line_ms 2 [a ++ (⟨#[59]⟩ : ByteArray)] hw1 (put_same ..) (by simp) (by omega) (by simp) hb) ?_
    rintro _ t1 ⟨rfl, hw⟩
    repeat' first
     |refine s1 ?_|refine s2 ?_|refine wt rfl ?_|refine wf rfl ?_|(refine wc rfl (fun h=>?_) (fun h=>?_)<;>(try simp only[Bool.not_eq_true',Bool.not_eq_false',decide_eq_true_eq,decide_eq_false_iff_not,Bool.not_not] at h)<;>(try first|exact bt (by assumption) (by assumption)|contradiction|(exfalso;omega)))|((first|refine s3 (mu:=[]) ?_|(refine W_region_any [] c0 mx (by kernel_rfl) ?_;intro nu _ _)|refine prun_go ?_|refine drun_go ?_|refine s5 ?_|refine s6 ?_|with_reducible apply s7);simp -dsimp (disch:=omega) only[go_sem,Nat.reduceLT,Nat.reduceLeDiff,Nat.reduceEqDiff,Nat.reduceAdd,Nat.reduceMul,Int.reduceNeg,Nat.reduceBEq,reduceCtorEq,↓reduceIte])
     |refine e1 ?_|refine e2 ?_|refine e3 ?_|refine e4 ?_|refine e5 ?_|refine e6 ?_|refine e7 ?_|refine e8 ?_|refine e9 ?_|refine e0 (by decide) ?_|refine ea ?_|(refine And.intro ?_ ?_;omega)|refine And.intro (of_eq_true PutAt_put) ?_
     |((first|refine gn (fun h=>?_) (fun h=>?_)|refine gf (fun h=>?_) (fun h=>?_)|refine gb (fun h=>?_) (fun h=>?_)|refine gp (fun h=>?_) (fun h=>?_))<;>(try first|exact bt (by assumption) (by assumption)|contradiction|(exfalso;omega))<;>(try with_reducible apply s7)<;>(try simp -dsimp (disch:=omega) only[h,go_sem,Nat.reduceLT,Nat.reduceLeDiff,Nat.reduceEqDiff,Nat.reduceAdd,Nat.reduceMul,Int.reduceNeg,Nat.reduceBEq,reduceCtorEq,↓reduceIte]))|refine Exists.intro _ (Exists.intro _ (And.intro (And.intro rfl rfl) ?_))
    exact ⟨_, Store.Sub.refl _, WS_sub hw (Sub_new hσo)⟩
  · skip
    repeat' first
     |refine s1 ?_|refine s2 ?_|refine wt rfl ?_|refine wf rfl ?_|(refine wc rfl (fun h=>?_) (fun h=>?_)<;>(try simp only[Bool.not_eq_true',Bool.not_eq_false',decide_eq_true_eq,decide_eq_false_iff_not,Bool.not_not] at h)<;>(try first|exact bt (by assumption) (by assumption)|contradiction|(exfalso;omega)))|((first|refine s3 (mu:=[]) ?_|(refine W_region_any [] c0 mx (by kernel_rfl) ?_;intro nu _ _)|refine prun_go ?_|refine drun_go ?_|refine s5 ?_|refine s6 ?_|with_reducible apply s7);simp -dsimp (disch:=omega) only[go_sem,Nat.reduceLT,Nat.reduceLeDiff,Nat.reduceEqDiff,Nat.reduceAdd,Nat.reduceMul,Int.reduceNeg,Nat.reduceBEq,reduceCtorEq,↓reduceIte])
     |refine e1 ?_|refine e2 ?_|refine e3 ?_|refine e4 ?_|refine e5 ?_|refine e6 ?_|refine e7 ?_|refine e8 ?_|refine e9 ?_|refine e0 (by decide) ?_|refine ea ?_|(refine And.intro ?_ ?_;omega)|refine And.intro (of_eq_true PutAt_put) ?_
     |((first|refine gn (fun h=>?_) (fun h=>?_)|refine gf (fun h=>?_) (fun h=>?_)|refine gb (fun h=>?_) (fun h=>?_)|refine gp (fun h=>?_) (fun h=>?_))<;>(try first|exact bt (by assumption) (by assumption)|contradiction|(exfalso;omega))<;>(try with_reducible apply s7)<;>(try simp -dsimp (disch:=omega) only[h,go_sem,Nat.reduceLT,Nat.reduceLeDiff,Nat.reduceEqDiff,Nat.reduceAdd,Nat.reduceMul,Int.reduceNeg,Nat.reduceBEq,reduceCtorEq,↓reduceIte]))|refine Exists.intro _ (Exists.intro _ (And.intro (And.intro rfl rfl) ?_))
    refine ⟨_, Store.Sub.refl _, ?_⟩
    rw [show someB false [a] = ⟨#[]⟩ from rfl, emA]
    exact WS_put h hn
theorem some2 {σ t : Store} {w o : Nat} {e : TypeId} {s : ByteArray} (is : Bool) (a b : ByteArray) (h : WS σ w s t) (hn : t o = none) (hb : s.size + (someB is [a, b]).size ≤ 140737488355328) (hb1 : b.size ≤ 140737488355328) :
    PCall Tryz.prog 118 [.ptr w 0 0, .bool is, .ms o 1 0 2] (t.put o (.arr e [.str a, .str b])) (fun r t' => r = .tup [] ∧ WS σ w (s ++ someB is [a, b]) t') := by
  have hσo := Sub_none h.1 hn
  refine PCall_w [] 18 Tryz.func118 (by rfl) rfl rfl rfl rfl ?_
  rcases Bool.eq_false_or_eq_true is with rfl | rfl
  · have hs1 : (⟨#[59]⟩ : ByteArray).size = 1 := rfl
    have hi1 : (((2 : Nat) : Int) - 1).toNat = 1 := rfl
    repeat' first
     |refine s1 ?_|refine s2 ?_|refine wt rfl ?_|refine wf rfl ?_|(refine wc rfl (fun h=>?_) (fun h=>?_)<;>(try simp only[Bool.not_eq_true',Bool.not_eq_false',decide_eq_true_eq,decide_eq_false_iff_not,Bool.not_not] at h)<;>(try first|exact bt (by assumption) (by assumption)|contradiction|(exfalso;omega)))|((first|refine s3 (mu:=[]) ?_|(refine W_region_any [] c0 mx (by kernel_rfl) ?_;intro nu _ _)|refine prun_go ?_|refine drun_go ?_|refine s5 ?_|refine s6 ?_|with_reducible apply s7);simp -dsimp (disch:=omega) only[go_sem,Nat.reduceLT,Nat.reduceLeDiff,Nat.reduceEqDiff,Nat.reduceAdd,Nat.reduceMul,Int.reduceNeg,Nat.reduceBEq,reduceCtorEq,↓reduceIte,szA, hs1, hi1])
     |refine e1 ?_|refine e2 ?_|refine e3 ?_|refine e4 ?_|refine e5 ?_|refine e6 ?_|refine e7 ?_|refine e8 ?_|refine e9 ?_|refine e0 (by decide) ?_|refine ea ?_|(refine And.intro ?_ ?_;omega)|refine And.intro (of_eq_true PutAt_put) ?_
     |((first|refine gn (fun h=>?_) (fun h=>?_)|refine gf (fun h=>?_) (fun h=>?_)|refine gb (fun h=>?_) (fun h=>?_)|refine gp (fun h=>?_) (fun h=>?_))<;>(try first|exact bt (by assumption) (by assumption)|contradiction|(exfalso;omega))<;>(try with_reducible apply s7)<;>(try simp -dsimp (disch:=omega) only[h,go_sem,Nat.reduceLT,Nat.reduceLeDiff,Nat.reduceEqDiff,Nat.reduceAdd,Nat.reduceMul,Int.reduceNeg,Nat.reduceBEq,reduceCtorEq,↓reduceIte,szA, hs1, hi1]))|refine Exists.intro _ (Exists.intro _ (And.intro (And.intro rfl rfl) ?_))
    have hw1 : WS (σ.put o (.arr e [.str a, .str (b ++ (⟨#[59]⟩ : ByteArray))])) w s (t.put o (.arr e [.str a, .str (b ++ (⟨#[59]⟩ : ByteArray))])) := WS_put2 h hn
    refine ck (line_ms 2 [a, b ++ (⟨#[59]⟩ : ByteArray)] hw1 (put_same ..) (by simp) (by omega) (by simp) hb) ?_
    rintro _ t1 ⟨rfl, hw⟩
    repeat' first
     |refine s1 ?_|refine s2 ?_|refine wt rfl ?_|refine wf rfl ?_|(refine wc rfl (fun h=>?_) (fun h=>?_)<;>(try simp only[Bool.not_eq_true',Bool.not_eq_false',decide_eq_true_eq,decide_eq_false_iff_not,Bool.not_not] at h)<;>(try first|exact bt (by assumption) (by assumption)|contradiction|(exfalso;omega)))|((first|refine s3 (mu:=[]) ?_|(refine W_region_any [] c0 mx (by kernel_rfl) ?_;intro nu _ _)|refine prun_go ?_|refine drun_go ?_|refine s5 ?_|refine s6 ?_|with_reducible apply s7);simp -dsimp (disch:=omega) only[go_sem,Nat.reduceLT,Nat.reduceLeDiff,Nat.reduceEqDiff,Nat.reduceAdd,Nat.reduceMul,Int.reduceNeg,Nat.reduceBEq,reduceCtorEq,↓reduceIte])
     |refine e1 ?_|refine e2 ?_|refine e3 ?_|refine e4 ?_|refine e5 ?_|refine e6 ?_|refine e7 ?_|refine e8 ?_|refine e9 ?_|refine e0 (by decide) ?_|refine ea ?_|(refine And.intro ?_ ?_;omega)|refine And.intro (of_eq_true PutAt_put) ?_
     |((first|refine gn (fun h=>?_) (fun h=>?_)|refine gf (fun h=>?_) (fun h=>?_)|refine gb (fun h=>?_) (fun h=>?_)|refine gp (fun h=>?_) (fun h=>?_))<;>(try first|exact bt (by assumption) (by assumption)|contradiction|(exfalso;omega))<;>(try with_reducible apply s7)<;>(try simp -dsimp (disch:=omega) only[h,go_sem,Nat.reduceLT,Nat.reduceLeDiff,Nat.reduceEqDiff,Nat.reduceAdd,Nat.reduceMul,Int.reduceNeg,Nat.reduceBEq,reduceCtorEq,↓reduceIte]))|refine Exists.intro _ (Exists.intro _ (And.intro (And.intro rfl rfl) ?_))
    exact ⟨_, Store.Sub.refl _, WS_sub hw (Sub_new hσo)⟩
  · skip
    repeat' first
     |refine s1 ?_|refine s2 ?_|refine wt rfl ?_|refine wf rfl ?_|(refine wc rfl (fun h=>?_) (fun h=>?_)<;>(try simp only[Bool.not_eq_true',Bool.not_eq_false',decide_eq_true_eq,decide_eq_false_iff_not,Bool.not_not] at h)<;>(try first|exact bt (by assumption) (by assumption)|contradiction|(exfalso;omega)))|((first|refine s3 (mu:=[]) ?_|(refine W_region_any [] c0 mx (by kernel_rfl) ?_;intro nu _ _)|refine prun_go ?_|refine drun_go ?_|refine s5 ?_|refine s6 ?_|with_reducible apply s7);simp -dsimp (disch:=omega) only[go_sem,Nat.reduceLT,Nat.reduceLeDiff,Nat.reduceEqDiff,Nat.reduceAdd,Nat.reduceMul,Int.reduceNeg,Nat.reduceBEq,reduceCtorEq,↓reduceIte])
     |refine e1 ?_|refine e2 ?_|refine e3 ?_|refine e4 ?_|refine e5 ?_|refine e6 ?_|refine e7 ?_|refine e8 ?_|refine e9 ?_|refine e0 (by decide) ?_|refine ea ?_|(refine And.intro ?_ ?_;omega)|refine And.intro (of_eq_true PutAt_put) ?_
     |((first|refine gn (fun h=>?_) (fun h=>?_)|refine gf (fun h=>?_) (fun h=>?_)|refine gb (fun h=>?_) (fun h=>?_)|refine gp (fun h=>?_) (fun h=>?_))<;>(try first|exact bt (by assumption) (by assumption)|contradiction|(exfalso;omega))<;>(try with_reducible apply s7)<;>(try simp -dsimp (disch:=omega) only[h,go_sem,Nat.reduceLT,Nat.reduceLeDiff,Nat.reduceEqDiff,Nat.reduceAdd,Nat.reduceMul,Int.reduceNeg,Nat.reduceBEq,reduceCtorEq,↓reduceIte]))|refine Exists.intro _ (Exists.intro _ (And.intro (And.intro rfl rfl) ?_))
    refine ⟨_, Store.Sub.refl _, ?_⟩
    rw [show someB false [a, b] = ⟨#[]⟩ from rfl, emA]
    exact WS_put h hn
end Go.Proofs.YtaealcimocpnnaaGreat
