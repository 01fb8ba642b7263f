/- What the claim needs, part 6: Dl Dn Dp By Dq. Conditions: none. -/
import Derived.Test.YtaealcimocpnnaaGreatPde
import Derived.Test.YtaealcimocpnnaaGreatRows
set_option linter.unusedVariables false
set_option linter.unusedSimpArgs false
set_option linter.unusedSectionVars false
namespace Go.Proofs.YtaealcimocpnnaaGreat
open Go.Kern Go.RowKit
set_option maxRecDepth 100000
set_option maxHeartbeats 4000000
attribute [local irreducible] PCall W
theorem namesLst0 (c : Cfg) (hl : c.lists.length ≤ 1000) (h1 : c.lists.length < 4611686018427387904) (h2 : c.maps.length < 4611686018427387904) (h3 : c.routers.length < 4611686018427387904) (σ : Store) :
    PCall Tryz.prog 12 [eCfg c, .int .i64 0] σ (fun r t => (∃ o, r = .sl (outK c.lists.length o) (encL AV.str (c.lists.map (·.name)))) ∧ t = σ) := by
  obtain ⟨f, hf⟩ : ∃ f : LstD → ByteArray, f = fun x => x.name := ⟨_, rfl⟩
  rw [show c.lists.map (·.name) = c.lists.map f from by rw [hf]]
  refine PCall_w [.tmp 4] 70 Tryz.func12 (by rfl) rfl rfl rfl rfl ?_
  repeat' first |refine s1 ?_|refine gS ?_|refine wT rfl ?_|refine wF rfl ?_|refine wt rfl ?_|refine wf rfl ?_|(refine wC rfl (fun h=>?_) (fun h=>?_)<;>(try contradiction))|((first|refine rd ?_|refine ry [] c0 fun nu _ _=>?_);simp -dsimp (disch:=omega) only[go_sem])|refine e0 (by decide) ?_|(refine zA ?_ ?_;omega)|refine zA (of_eq_true PutAt_put) ?_|refine gT ?_|refine gF ?_|(refine gI (fun h=>?_) (fun h=>?_)<;>(try contradiction)<;>(try refine rd ?_)<;>(try simp -dsimp (disch:=omega) only[go_sem,h]))|refine zX _ (zX _ (zA (zA rfl rfl) ?_)) |fail
  refine W_loop_st (fun x : Nat × Nat => [(1, .int .i64 0), (2, .ip (eCfg c) 0), (5, .sl (outK x.1 x.2) (encL AV.str ((c.lists.map f).take x.1))), (6, .int .i64 x.1)]) (fun x => outS σ 9 x.1 x.2) (fun x => x.1 ≤ c.lists.length ∧ (x.1 = 0 ∨ σ x.2 = none)) (fun x => c.lists.length - x.1) (0, 0) ⟨Nat.zero_le _, .inl rfl⟩ (Env.Sub_of_has (by simp [Env.Has, Env.get, outK, encL, eCfg])) (Store.Sub.refl _) ?_
  rintro ⟨i, o⟩ ⟨hi, ho⟩
  simp only at hi ho
  by_cases hlt : i < c.lists.length
  · have hstep := out_step f hlt
    have hlen : (encL AV.str ((c.lists.map f).take i)).length = i := by rw [length_encL, List.length_take, List.length_map]; omega
    have hrow : rowsOk 1 (encL AV.str ((c.lists.map f).take i)) = true := ok_encL 1 AV.str (fun _ => rfl) _
    have hfx : f (c.lists.getD i default) = (c.lists.getD i default).name := by rw [hf]
    rw [hfx] at hstep
    by_cases h0 : i = 0
    · subst h0
      have q0 : encL AV.str ((c.lists.map f).take 0) = [] := rfl
      simp only [outK, outS, if_pos, q0] at hstep ⊢
      repeat' first |refine s1 ?_|refine gS ?_|refine wT rfl ?_|refine wF rfl ?_|refine wt rfl ?_|refine wf rfl ?_|(refine wC rfl (fun h=>?_) (fun h=>?_)<;>(try contradiction))|((first|refine rd ?_|refine ry [] c0 fun nu _ _=>?_);simp -dsimp (disch:=omega) only[go_sem])|refine e0 (by decide) ?_|(refine zA ?_ ?_;omega)|refine zA (of_eq_true PutAt_put) ?_|refine gT ?_|refine gF ?_|(refine gI (fun h=>?_) (fun h=>?_)<;>(try contradiction)<;>(try refine rd ?_)<;>(try simp -dsimp (disch:=omega) only[go_sem,h]))|refine zX _ (zX _ (zA (zA rfl rfl) ?_)) |fail
      intro o' ho'
      repeat' first |refine s1 ?_|refine gS ?_|refine wT rfl ?_|refine wF rfl ?_|refine wt rfl ?_|refine wf rfl ?_|(refine wC rfl (fun h=>?_) (fun h=>?_)<;>(try contradiction))|((first|refine rd ?_|refine ry [] c0 fun nu _ _=>?_);simp -dsimp (disch:=omega) only[go_sem])|refine e0 (by decide) ?_|(refine zA ?_ ?_;omega)|refine zA (of_eq_true PutAt_put) ?_|refine gT ?_|refine gF ?_|(refine gI (fun h=>?_) (fun h=>?_)<;>(try contradiction)<;>(try refine rd ?_)<;>(try simp -dsimp (disch:=omega) only[go_sem,h]))|refine zX _ (zX _ (zA (zA rfl rfl) ?_)) |fail
      exact ⟨(1, o'), by simp only; omega, ⟨by simp only; omega, .inr ho'⟩, Env.Sub_of_has (by simp only [Env.Has, Env.get, outK]; simp [hstep, eCfg]), Store.Sub.refl _⟩
    · have hs1 : outS σ 9 i o = σ.put o (.tip i 9 1) := by simp [outS, h0]
      have hk1 : outK i o = .tip o := by simp [outK, h0]
      have hs2 : outS σ 9 (i + 1) o = σ.put o (.tip (i + 1) 9 1) := by simp [outS]
      have hk2 : outK (i + 1) o = .tip o := by simp [outK]
      rw [hs1, hk1]
      repeat' first |refine s1 ?_|refine gS ?_|refine wT rfl ?_|refine wF rfl ?_|refine wt rfl ?_|refine wf rfl ?_|(refine wC rfl (fun h=>?_) (fun h=>?_)<;>(try contradiction))|((first|refine rd ?_|refine ry [] c0 fun nu _ _=>?_);simp -dsimp (disch:=omega) only[go_sem,hlen, hrow])|refine e0 (by decide) ?_|(refine zA ?_ ?_;omega)|refine zA (of_eq_true PutAt_put) ?_|refine gT ?_|refine gF ?_|(refine gI (fun h=>?_) (fun h=>?_)<;>(try contradiction)<;>(try refine rd ?_)<;>(try simp -dsimp (disch:=omega) only[go_sem,h,hlen, hrow]))|refine zX _ (zX _ (zA (zA rfl rfl) ?_)) |fail
      refine ⟨(i + 1, o), by simp only; omega, ⟨by simp only; omega, .inr (ho.resolve_left h0)⟩, Env.Sub_of_has ?_, ?_⟩
      · simp only [Env.Has, Env.get, hk2, hstep]; simp [eCfg]
      · simp only [hs2, List.length_append, hlen, List.length_cons, List.length_nil, Nat.zero_add]; exact Store.Sub.refl _
  · have hi' : i = c.lists.length := by omega
    subst hi'
    have htk : (c.lists.map f).take c.lists.length = c.lists.map f := List.take_of_length_le (by simp)
    simp only [htk]
    have hsub : σ.Sub (outS σ 9 c.lists.length o) := by
      unfold outS
      split
      · exact Store.Sub.refl _
      · rename_i hne
        exact Sub_put (Store.Sub.refl _) (ho.resolve_left hne) _
    refine W_weaken (ρ' := [(1, .int .i64 0), (2, .ip (eCfg c) 0), (5, .sl (outK c.lists.length o) (encL AV.str (c.lists.map f))), (6, .int .i64 c.lists.length)]) (σ' := σ) (Env.Sub_of_has (by simp [Env.Has, Env.get, eCfg])) hsub ?_
    repeat' first |((fail_if_success (first|show W _ _ (Code.seq (Code.region 6 _ _) _) _ _ _|show W _ _ (Code.seq (Code.seq (Code.region 6 _ _) _) _) _ _ _));refine s1 ?_)|refine gS ?_|refine wT rfl ?_|refine wF rfl ?_|refine wt rfl ?_|refine wf rfl ?_|(refine wC rfl (fun h=>?_) (fun h=>?_)<;>(try contradiction))|((fail_if_success (first|show W _ _ (Code.region 6 _ _) _ _ _));(first|refine rd ?_|refine ry [] c0 fun nu _ _=>?_);simp -dsimp (disch:=omega) only[go_sem])|refine e0 (by decide) ?_|(refine zA ?_ ?_;omega)|refine zA (of_eq_true PutAt_put) ?_|refine gT ?_|refine gF ?_|(refine gI (fun h=>?_) (fun h=>?_)<;>(try contradiction)<;>(try refine rd ?_)<;>(try simp -dsimp (disch:=omega) only[go_sem,h]))|refine zX _ (zX _ (zA (zA rfl rfl) ?_)) |fail
    refine W_mid [(1, .int .i64 0), (2, .ip (eCfg c) 0), (5, .sl (outK c.lists.length o) (encL AV.str (c.lists.map f)))] (σ) ?_ ?_
    · skip
      repeat' first |refine s1 ?_|refine gS ?_|refine wT rfl ?_|refine wF rfl ?_|refine wt rfl ?_|refine wf rfl ?_|(refine wC rfl (fun h=>?_) (fun h=>?_)<;>(try contradiction))|((first|refine rd ?_|refine ry [] c0 fun nu _ _=>?_);simp -dsimp (disch:=omega) only[go_sem])|refine e0 (by decide) ?_|(refine zA ?_ ?_;omega)|refine zA (of_eq_true PutAt_put) ?_|refine gT ?_|refine gF ?_|(refine gI (fun h=>?_) (fun h=>?_)<;>(try contradiction)<;>(try refine rd ?_)<;>(try simp -dsimp (disch:=omega) only[go_sem,h]))|refine zX _ (zX _ (zA (zA rfl rfl) ?_)) |fail
      refine W_loop_st (fun _ : Unit => [(1, .int .i64 0), (2, .ip (eCfg c) 0), (5, .sl (outK c.lists.length o) (encL AV.str (c.lists.map f))), (7, .int .i64 0)]) (fun _ => σ) (fun _ => True) (fun _ => 0) () trivial (Env.Sub_of_has (by simp [Env.Has, Env.get, eCfg])) (Store.Sub.refl _) ?_
      intro _ _
      repeat' first |refine s1 ?_|refine gS ?_|refine wT rfl ?_|refine wF rfl ?_|refine wt rfl ?_|refine wf rfl ?_|(refine wC rfl (fun h=>?_) (fun h=>?_)<;>(try contradiction))|((first|refine rd ?_|refine ry [] c0 fun nu _ _=>?_);simp -dsimp (disch:=omega) only[go_sem])|refine e0 (by decide) ?_|(refine zA ?_ ?_;omega)|refine zA (of_eq_true PutAt_put) ?_|refine gT ?_|refine gF ?_|(refine gI (fun h=>?_) (fun h=>?_)<;>(try contradiction)<;>(try refine rd ?_)<;>(try simp -dsimp (disch:=omega) only[go_sem,h]))|refine zX _ (zX _ (zA (zA rfl rfl) ?_)) |fail
      all_goals exact ⟨Env.Sub_of_has (by simp [Env.Has, Env.get, eCfg]), Store.Sub.refl _⟩
    repeat' first |((fail_if_success (first|show W _ _ (Code.seq (Code.region 10 _ _) _) _ _ _|show W _ _ (Code.seq (Code.seq (Code.region 10 _ _) _) _) _ _ _));refine s1 ?_)|refine gS ?_|refine wT rfl ?_|refine wF rfl ?_|refine wt rfl ?_|refine wf rfl ?_|(refine wC rfl (fun h=>?_) (fun h=>?_)<;>(try contradiction))|((fail_if_success (first|show W _ _ (Code.region 10 _ _) _ _ _));(first|refine rd ?_|refine ry [] c0 fun nu _ _=>?_);simp -dsimp (disch:=omega) only[go_sem])|refine e0 (by decide) ?_|(refine zA ?_ ?_;omega)|refine zA (of_eq_true PutAt_put) ?_|refine gT ?_|refine gF ?_|(refine gI (fun h=>?_) (fun h=>?_)<;>(try contradiction)<;>(try refine rd ?_)<;>(try simp -dsimp (disch:=omega) only[go_sem,h]))|refine zX _ (zX _ (zA (zA rfl rfl) ?_)) |fail
    refine W_mid [(1, .int .i64 0), (2, .ip (eCfg c) 0), (5, .sl (outK c.lists.length o) (encL AV.str (c.lists.map f)))] (σ) ?_ ?_
    · skip
      repeat' first |refine s1 ?_|refine gS ?_|refine wT rfl ?_|refine wF rfl ?_|refine wt rfl ?_|refine wf rfl ?_|(refine wC rfl (fun h=>?_) (fun h=>?_)<;>(try contradiction))|((first|refine rd ?_|refine ry [] c0 fun nu _ _=>?_);simp -dsimp (disch:=omega) only[go_sem])|refine e0 (by decide) ?_|(refine zA ?_ ?_;omega)|refine zA (of_eq_true PutAt_put) ?_|refine gT ?_|refine gF ?_|(refine gI (fun h=>?_) (fun h=>?_)<;>(try contradiction)<;>(try refine rd ?_)<;>(try simp -dsimp (disch:=omega) only[go_sem,h]))|refine zX _ (zX _ (zA (zA rfl rfl) ?_)) |fail
      refine W_loop_st (fun _ : Unit => [(1, .int .i64 0), (2, .ip (eCfg c) 0), (5, .sl (outK c.lists.length o) (encL AV.str (c.lists.map f))), (8, .int .i64 0)]) (fun _ => σ) (fun _ => True) (fun _ => 0) () trivial (Env.Sub_of_has (by simp [Env.Has, Env.get, eCfg])) (Store.Sub.refl _) ?_
      intro _ _
      repeat' first |refine s1 ?_|refine gS ?_|refine wT rfl ?_|refine wF rfl ?_|refine wt rfl ?_|refine wf rfl ?_|(refine wC rfl (fun h=>?_) (fun h=>?_)<;>(try contradiction))|((first|refine rd ?_|refine ry [] c0 fun nu _ _=>?_);simp -dsimp (disch:=omega) only[go_sem])|refine e0 (by decide) ?_|(refine zA ?_ ?_;omega)|refine zA (of_eq_true PutAt_put) ?_|refine gT ?_|refine gF ?_|(refine gI (fun h=>?_) (fun h=>?_)<;>(try contradiction)<;>(try refine rd ?_)<;>(try simp -dsimp (disch:=omega) only[go_sem,h]))|refine zX _ (zX _ (zA (zA rfl rfl) ?_)) |fail
      all_goals exact ⟨Env.Sub_of_has (by simp [Env.Has, Env.get, eCfg]), Store.Sub.refl _⟩
    repeat' first |refine s1 ?_|refine gS ?_|refine wT rfl ?_|refine wF rfl ?_|refine wt rfl ?_|refine wf rfl ?_|(refine wC rfl (fun h=>?_) (fun h=>?_)<;>(try contradiction))|((first|refine rd ?_|refine ry [] c0 fun nu _ _=>?_);simp -dsimp (disch:=omega) only[go_sem])|refine e0 (by decide) ?_|(refine zA ?_ ?_;omega)|refine zA (of_eq_true PutAt_put) ?_|refine gT ?_|refine gF ?_|(refine gI (fun h=>?_) (fun h=>?_)<;>(try contradiction)<;>(try refine rd ?_)<;>(try simp -dsimp (disch:=omega) only[go_sem,h]))|refine zX _ (zX _ (zA (zA rfl rfl) ?_)) |fail
    all_goals first | exact ⟨_, Store.Sub.refl _, ⟨_, rfl⟩, rfl⟩ | exact ⟨_, rfl⟩ | trivial
theorem namesMap0 (c : Cfg) (hl : c.maps.length ≤ 1000) (h1 : c.lists.length < 4611686018427387904) (h2 : c.maps.length < 4611686018427387904) (h3 : c.routers.length < 4611686018427387904) (σ : Store) :
    PCall Tryz.prog 12 [eCfg c, .int .i64 1] σ (fun r t => (∃ o, r = .sl (outK c.maps.length o) (encL AV.str (c.maps.map (·.name)))) ∧ t = σ) := by
  obtain ⟨f, hf⟩ : ∃ f : MapD → ByteArray, f = fun x => x.name := ⟨_, rfl⟩
  rw [show c.maps.map (·.name) = c.maps.map f from by rw [hf]]
  refine PCall_w [.tmp 4] 70 Tryz.func12 (by rfl) rfl rfl rfl rfl ?_
  repeat' first |((fail_if_success (first|show W _ _ (Code.seq (Code.region 2 _ _) _) _ _ _|show W _ _ (Code.seq (Code.seq (Code.region 2 _ _) _) _) _ _ _));refine s1 ?_)|refine gS ?_|refine wT rfl ?_|refine wF rfl ?_|refine wt rfl ?_|refine wf rfl ?_|(refine wC rfl (fun h=>?_) (fun h=>?_)<;>(try contradiction))|((fail_if_success (first|show W _ _ (Code.region 2 _ _) _ _ _));(first|refine rd ?_|refine ry [] c0 fun nu _ _=>?_);simp -dsimp (disch:=omega) only[go_sem])|refine e0 (by decide) ?_|(refine zA ?_ ?_;omega)|refine zA (of_eq_true PutAt_put) ?_|refine gT ?_|refine gF ?_|(refine gI (fun h=>?_) (fun h=>?_)<;>(try contradiction)<;>(try refine rd ?_)<;>(try simp -dsimp (disch:=omega) only[go_sem,h]))|refine zX _ (zX _ (zA (zA rfl rfl) ?_)) |fail
  refine W_mid [(1, .int .i64 1), (2, .ip (eCfg c) 0), (5, .sl .nil [])] (σ) ?_ ?_
  · skip
    repeat' first |refine s1 ?_|refine gS ?_|refine wT rfl ?_|refine wF rfl ?_|refine wt rfl ?_|refine wf rfl ?_|(refine wC rfl (fun h=>?_) (fun h=>?_)<;>(try contradiction))|((first|refine rd ?_|refine ry [] c0 fun nu _ _=>?_);simp -dsimp (disch:=omega) only[go_sem])|refine e0 (by decide) ?_|(refine zA ?_ ?_;omega)|refine zA (of_eq_true PutAt_put) ?_|refine gT ?_|refine gF ?_|(refine gI (fun h=>?_) (fun h=>?_)<;>(try contradiction)<;>(try refine rd ?_)<;>(try simp -dsimp (disch:=omega) only[go_sem,h]))|refine zX _ (zX _ (zA (zA rfl rfl) ?_)) |fail
    refine W_loop_st (fun _ : Unit => [(1, .int .i64 1), (2, .ip (eCfg c) 0), (5, .sl .nil []), (6, .int .i64 0)]) (fun _ => σ) (fun _ => True) (fun _ => 0) () trivial (Env.Sub_of_has (by simp [Env.Has, Env.get, eCfg])) (Store.Sub.refl _) ?_
    intro _ _
    repeat' first |refine s1 ?_|refine gS ?_|refine wT rfl ?_|refine wF rfl ?_|refine wt rfl ?_|refine wf rfl ?_|(refine wC rfl (fun h=>?_) (fun h=>?_)<;>(try contradiction))|((first|refine rd ?_|refine ry [] c0 fun nu _ _=>?_);simp -dsimp (disch:=omega) only[go_sem])|refine e0 (by decide) ?_|(refine zA ?_ ?_;omega)|refine zA (of_eq_true PutAt_put) ?_|refine gT ?_|refine gF ?_|(refine gI (fun h=>?_) (fun h=>?_)<;>(try contradiction)<;>(try refine rd ?_)<;>(try simp -dsimp (disch:=omega) only[go_sem,h]))|refine zX _ (zX _ (zA (zA rfl rfl) ?_)) |fail
    all_goals exact ⟨Env.Sub_of_has (by simp [Env.Has, Env.get, eCfg]), Store.Sub.refl _⟩
  repeat' first |refine s1 ?_|refine gS ?_|refine wT rfl ?_|refine wF rfl ?_|refine wt rfl ?_|refine wf rfl ?_|(refine wC rfl (fun h=>?_) (fun h=>?_)<;>(try contradiction))|((first|refine rd ?_|refine ry [] c0 fun nu _ _=>?_);simp -dsimp (disch:=omega) only[go_sem])|refine e0 (by decide) ?_|(refine zA ?_ ?_;omega)|refine zA (of_eq_true PutAt_put) ?_|refine gT ?_|refine gF ?_|(refine gI (fun h=>?_) (fun h=>?_)<;>(try contradiction)<;>(try refine rd ?_)<;>(try simp -dsimp (disch:=omega) only[go_sem,h]))|refine zX _ (zX _ (zA (zA rfl rfl) ?_)) |fail
  refine W_loop_st (fun x : Nat × Nat => [(1, .int .i64 1), (2, .ip (eCfg c) 0), (5, .sl (outK x.1 x.2) (encL AV.str ((c.maps.map f).take x.1))), (7, .int .i64 x.1)]) (fun x => outS σ 9 x.1 x.2) (fun x => x.1 ≤ c.maps.length ∧ (x.1 = 0 ∨ σ x.2 = none)) (fun x => c.maps.length - x.1) (0, 0) ⟨Nat.zero_le _, .inl rfl⟩ (Env.Sub_of_has (by simp [Env.Has, Env.get, outK, encL, eCfg])) (Store.Sub.refl _) ?_
  rintro ⟨i, o⟩ ⟨hi, ho⟩
  simp only at hi ho
  by_cases hlt : i < c.maps.length
  · have hstep := out_step f hlt
    have hlen : (encL AV.str ((c.maps.map f).take i)).length = i := by rw [length_encL, List.length_take, List.length_map]; omega
    have hrow : rowsOk 1 (encL AV.str ((c.maps.map f).take i)) = true := ok_encL 1 AV.str (fun _ => rfl) _
    have hfx : f (c.maps.getD i default) = (c.maps.getD i default).name := by rw [hf]
    rw [hfx] at hstep
    by_cases h0 : i = 0
    · subst h0
      have q0 : encL AV.str ((c.maps.map f).take 0) = [] := rfl
      simp only [outK, outS, if_pos, q0] at hstep ⊢
      repeat' first |refine s1 ?_|refine gS ?_|refine wT rfl ?_|refine wF rfl ?_|refine wt rfl ?_|refine wf rfl ?_|(refine wC rfl (fun h=>?_) (fun h=>?_)<;>(try contradiction))|((first|refine rd ?_|refine ry [] c0 fun nu _ _=>?_);simp -dsimp (disch:=omega) only[go_sem])|refine e0 (by decide) ?_|(refine zA ?_ ?_;omega)|refine zA (of_eq_true PutAt_put) ?_|refine gT ?_|refine gF ?_|(refine gI (fun h=>?_) (fun h=>?_)<;>(try contradiction)<;>(try refine rd ?_)<;>(try simp -dsimp (disch:=omega) only[go_sem,h]))|refine zX _ (zX _ (zA (zA rfl rfl) ?_)) |fail
      intro o' ho'
      repeat' first |refine s1 ?_|refine gS ?_|refine wT rfl ?_|refine wF rfl ?_|refine wt rfl ?_|refine wf rfl ?_|(refine wC rfl (fun h=>?_) (fun h=>?_)<;>(try contradiction))|((first|refine rd ?_|refine ry [] c0 fun nu _ _=>?_);simp -dsimp (disch:=omega) only[go_sem])|refine e0 (by decide) ?_|(refine zA ?_ ?_;omega)|refine zA (of_eq_true PutAt_put) ?_|refine gT ?_|refine gF ?_|(refine gI (fun h=>?_) (fun h=>?_)<;>(try contradiction)<;>(try refine rd ?_)<;>(try simp -dsimp (disch:=omega) only[go_sem,h]))|refine zX _ (zX _ (zA (zA rfl rfl) ?_)) |fail
      exact ⟨(1, o'), by simp only; omega, ⟨by simp only; omega, .inr ho'⟩, Env.Sub_of_has (by simp only [Env.Has, Env.get, outK]; simp [hstep, eCfg]), Store.Sub.refl _⟩
    · have hs1 : outS σ 9 i o = σ.put o (.tip i 9 1) := by simp [outS, h0]
      have hk1 : outK i o = .tip o := by simp [outK, h0]
      have hs2 : outS σ 9 (i + 1) o = σ.put o (.tip (i + 1) 9 1) := by simp [outS]
      have hk2 : outK (i + 1) o = .tip o := by simp [outK]
      rw [hs1, hk1]
      repeat' first |refine s1 ?_|refine gS ?_|refine wT rfl ?_|refine wF rfl ?_|refine wt rfl ?_|refine wf rfl ?_|(refine wC rfl (fun h=>?_) (fun h=>?_)<;>(try contradiction))|((first|refine rd ?_|refine ry [] c0 fun nu _ _=>?_);simp -dsimp (disch:=omega) only[go_sem,hlen, hrow])|refine e0 (by decide) ?_|(refine zA ?_ ?_;omega)|refine zA (of_eq_true PutAt_put) ?_|refine gT ?_|refine gF ?_|(refine gI (fun h=>?_) (fun h=>?_)<;>(try contradiction)<;>(try refine rd ?_)<;>(try simp -dsimp (disch:=omega) only[go_sem,h,hlen, hrow]))|refine zX _ (zX _ (zA (zA rfl rfl) ?_)) |fail
      refine ⟨(i + 1, o), by simp only; omega, ⟨by simp only; omega, .inr (ho.resolve_left h0)⟩, Env.Sub_of_has ?_, ?_⟩
      · simp only [Env.Has, Env.get, hk2, hstep]; simp [eCfg]
      · simp only [hs2, List.length_append, hlen, List.length_cons, List.length_nil, Nat.zero_add]; exact Store.Sub.refl _
  · have hi' : i = c.maps.length := by omega
    subst hi'
    have htk : (c.maps.map f).take c.maps.length = c.maps.map f := List.take_of_length_le (by simp)
    simp only [htk]
    have hsub : σ.Sub (outS σ 9 c.maps.length o) := by
      unfold outS
      split
      · exact Store.Sub.refl _
      · rename_i hne
        exact Sub_put (Store.Sub.refl _) (ho.resolve_left hne) _
    refine W_weaken (ρ' := [(1, .int .i64 1), (2, .ip (eCfg c) 0), (5, .sl (outK c.maps.length o) (encL AV.str (c.maps.map f))), (7, .int .i64 c.maps.length)]) (σ' := σ) (Env.Sub_of_has (by simp [Env.Has, Env.get, eCfg])) hsub ?_
    repeat' first |((fail_if_success (first|show W _ _ (Code.seq (Code.region 10 _ _) _) _ _ _|show W _ _ (Code.seq (Code.seq (Code.region 10 _ _) _) _) _ _ _));refine s1 ?_)|refine gS ?_|refine wT rfl ?_|refine wF rfl ?_|refine wt rfl ?_|refine wf rfl ?_|(refine wC rfl (fun h=>?_) (fun h=>?_)<;>(try contradiction))|((fail_if_success (first|show W _ _ (Code.region 10 _ _) _ _ _));(first|refine rd ?_|refine ry [] c0 fun nu _ _=>?_);simp -dsimp (disch:=omega) only[go_sem])|refine e0 (by decide) ?_|(refine zA ?_ ?_;omega)|refine zA (of_eq_true PutAt_put) ?_|refine gT ?_|refine gF ?_|(refine gI (fun h=>?_) (fun h=>?_)<;>(try contradiction)<;>(try refine rd ?_)<;>(try simp -dsimp (disch:=omega) only[go_sem,h]))|refine zX _ (zX _ (zA (zA rfl rfl) ?_)) |fail
    refine W_mid [(1, .int .i64 1), (2, .ip (eCfg c) 0), (5, .sl (outK c.maps.length o) (encL AV.str (c.maps.map f)))] (σ) ?_ ?_
    · skip
      repeat' first |refine s1 ?_|refine gS ?_|refine wT rfl ?_|refine wF rfl ?_|refine wt rfl ?_|refine wf rfl ?_|(refine wC rfl (fun h=>?_) (fun h=>?_)<;>(try contradiction))|((first|refine rd ?_|refine ry [] c0 fun nu _ _=>?_);simp -dsimp (disch:=omega) only[go_sem])|refine e0 (by decide) ?_|(refine zA ?_ ?_;omega)|refine zA (of_eq_true PutAt_put) ?_|refine gT ?_|refine gF ?_|(refine gI (fun h=>?_) (fun h=>?_)<;>(try contradiction)<;>(try refine rd ?_)<;>(try simp -dsimp (disch:=omega) only[go_sem,h]))|refine zX _ (zX _ (zA (zA rfl rfl) ?_)) |fail
      refine W_loop_st (fun _ : Unit => [(1, .int .i64 1), (2, .ip (eCfg c) 0), (5, .sl (outK c.maps.length o) (encL AV.str (c.maps.map f))), (8, .int .i64 0)]) (fun _ => σ) (fun _ => True) (fun _ => 0) () trivial (Env.Sub_of_has (by simp [Env.Has, Env.get, eCfg])) (Store.Sub.refl _) ?_
      intro _ _
      repeat' first |refine s1 ?_|refine gS ?_|refine wT rfl ?_|refine wF rfl ?_|refine wt rfl ?_|refine wf rfl ?_|(refine wC rfl (fun h=>?_) (fun h=>?_)<;>(try contradiction))|((first|refine rd ?_|refine ry [] c0 fun nu _ _=>?_);simp -dsimp (disch:=omega) only[go_sem])|refine e0 (by decide) ?_|(refine zA ?_ ?_;omega)|refine zA (of_eq_true PutAt_put) ?_|refine gT ?_|refine gF ?_|(refine gI (fun h=>?_) (fun h=>?_)<;>(try contradiction)<;>(try refine rd ?_)<;>(try simp -dsimp (disch:=omega) only[go_sem,h]))|refine zX _ (zX _ (zA (zA rfl rfl) ?_)) |fail
      all_goals exact ⟨Env.Sub_of_has (by simp [Env.Has, Env.get, eCfg]), Store.Sub.refl _⟩
    repeat' first |refine s1 ?_|refine gS ?_|refine wT rfl ?_|refine wF rfl ?_|refine wt rfl ?_|refine wf rfl ?_|(refine wC rfl (fun h=>?_) (fun h=>?_)<;>(try contradiction))|((first|refine rd ?_|refine ry [] c0 fun nu _ _=>?_);simp -dsimp (disch:=omega) only[go_sem])|refine e0 (by decide) ?_|(refine zA ?_ ?_;omega)|refine zA (of_eq_true PutAt_put) ?_|refine gT ?_|refine gF ?_|(refine gI (fun h=>?_) (fun h=>?_)<;>(try contradiction)<;>(try refine rd ?_)<;>(try simp -dsimp (disch:=omega) only[go_sem,h]))|refine zX _ (zX _ (zA (zA rfl rfl) ?_)) |fail
    all_goals first | exact ⟨_, Store.Sub.refl _, ⟨_, rfl⟩, rfl⟩ | exact ⟨_, rfl⟩ | trivial
theorem namesRtr0 (c : Cfg) (hl : c.routers.length ≤ 1000) (h1 : c.lists.length < 4611686018427387904) (h2 : c.maps.length < 4611686018427387904) (h3 : c.routers.length < 4611686018427387904) (σ : Store) :
    PCall Tryz.prog 12 [eCfg c, .int .i64 2] σ (fun r t => (∃ o, r = .sl (outK c.routers.length o) (encL AV.str (c.routers.map (·.name)))) ∧ t = σ) := by
  obtain ⟨f, hf⟩ : ∃ f : Rtr → ByteArray, f = fun x => x.name := ⟨_, rfl⟩
  rw [show c.routers.map (·.name) = c.routers.map f from by rw [hf]]
  refine PCall_w [.tmp 4] 70 Tryz.func12 (by rfl) rfl rfl rfl rfl ?_
  repeat' first |((fail_if_success (first|show W _ _ (Code.seq (Code.region 2 _ _) _) _ _ _|show W _ _ (Code.seq (Code.seq (Code.region 2 _ _) _) _) _ _ _));refine s1 ?_)|refine gS ?_|refine wT rfl ?_|refine wF rfl ?_|refine wt rfl ?_|refine wf rfl ?_|(refine wC rfl (fun h=>?_) (fun h=>?_)<;>(try contradiction))|((fail_if_success (first|show W _ _ (Code.region 2 _ _) _ _ _));(first|refine rd ?_|refine ry [] c0 fun nu _ _=>?_);simp -dsimp (disch:=omega) only[go_sem])|refine e0 (by decide) ?_|(refine zA ?_ ?_;omega)|refine zA (of_eq_true PutAt_put) ?_|refine gT ?_|refine gF ?_|(refine gI (fun h=>?_) (fun h=>?_)<;>(try contradiction)<;>(try refine rd ?_)<;>(try simp -dsimp (disch:=omega) only[go_sem,h]))|refine zX _ (zX _ (zA (zA rfl rfl) ?_)) |fail
  refine W_mid [(1, .int .i64 2), (2, .ip (eCfg c) 0), (5, .sl .nil [])] (σ) ?_ ?_
  · skip
    repeat' first |refine s1 ?_|refine gS ?_|refine wT rfl ?_|refine wF rfl ?_|refine wt rfl ?_|refine wf rfl ?_|(refine wC rfl (fun h=>?_) (fun h=>?_)<;>(try contradiction))|((first|refine rd ?_|refine ry [] c0 fun nu _ _=>?_);simp -dsimp (disch:=omega) only[go_sem])|refine e0 (by decide) ?_|(refine zA ?_ ?_;omega)|refine zA (of_eq_true PutAt_put) ?_|refine gT ?_|refine gF ?_|(refine gI (fun h=>?_) (fun h=>?_)<;>(try contradiction)<;>(try refine rd ?_)<;>(try simp -dsimp (disch:=omega) only[go_sem,h]))|refine zX _ (zX _ (zA (zA rfl rfl) ?_)) |fail
    refine W_loop_st (fun _ : Unit => [(1, .int .i64 2), (2, .ip (eCfg c) 0), (5, .sl .nil []), (6, .int .i64 0)]) (fun _ => σ) (fun _ => True) (fun _ => 0) () trivial (Env.Sub_of_has (by simp [Env.Has, Env.get, eCfg])) (Store.Sub.refl _) ?_
    intro _ _
    repeat' first |refine s1 ?_|refine gS ?_|refine wT rfl ?_|refine wF rfl ?_|refine wt rfl ?_|refine wf rfl ?_|(refine wC rfl (fun h=>?_) (fun h=>?_)<;>(try contradiction))|((first|refine rd ?_|refine ry [] c0 fun nu _ _=>?_);simp -dsimp (disch:=omega) only[go_sem])|refine e0 (by decide) ?_|(refine zA ?_ ?_;omega)|refine zA (of_eq_true PutAt_put) ?_|refine gT ?_|refine gF ?_|(refine gI (fun h=>?_) (fun h=>?_)<;>(try contradiction)<;>(try refine rd ?_)<;>(try simp -dsimp (disch:=omega) only[go_sem,h]))|refine zX _ (zX _ (zA (zA rfl rfl) ?_)) |fail
    all_goals exact ⟨Env.Sub_of_has (by simp [Env.Has, Env.get, eCfg]), Store.Sub.refl _⟩
  repeat' first |((fail_if_success (first|show W _ _ (Code.seq (Code.region 6 _ _) _) _ _ _|show W _ _ (Code.seq (Code.seq (Code.region 6 _ _) _) _) _ _ _));refine s1 ?_)|refine gS ?_|refine wT rfl ?_|refine wF rfl ?_|refine wt rfl ?_|refine wf rfl ?_|(refine wC rfl (fun h=>?_) (fun h=>?_)<;>(try contradiction))|((fail_if_success (first|show W _ _ (Code.region 6 _ _) _ _ _));(first|refine rd ?_|refine ry [] c0 fun nu _ _=>?_);simp -dsimp (disch:=omega) only[go_sem])|refine e0 (by decide) ?_|(refine zA ?_ ?_;omega)|refine zA (of_eq_true PutAt_put) ?_|refine gT ?_|refine gF ?_|(refine gI (fun h=>?_) (fun h=>?_)<;>(try contradiction)<;>(try refine rd ?_)<;>(try simp -dsimp (disch:=omega) only[go_sem,h]))|refine zX _ (zX _ (zA (zA rfl rfl) ?_)) |fail
  refine W_mid [(1, .int .i64 2), (2, .ip (eCfg c) 0), (5, .sl .nil [])] (σ) ?_ ?_
  · skip
    repeat' first |refine s1 ?_|refine gS ?_|refine wT rfl ?_|refine wF rfl ?_|refine wt rfl ?_|refine wf rfl ?_|(refine wC rfl (fun h=>?_) (fun h=>?_)<;>(try contradiction))|((first|refine rd ?_|refine ry [] c0 fun nu _ _=>?_);simp -dsimp (disch:=omega) only[go_sem])|refine e0 (by decide) ?_|(refine zA ?_ ?_;omega)|refine zA (of_eq_true PutAt_put) ?_|refine gT ?_|refine gF ?_|(refine gI (fun h=>?_) (fun h=>?_)<;>(try contradiction)<;>(try refine rd ?_)<;>(try simp -dsimp (disch:=omega) only[go_sem,h]))|refine zX _ (zX _ (zA (zA rfl rfl) ?_)) |fail
    refine W_loop_st (fun _ : Unit => [(1, .int .i64 2), (2, .ip (eCfg c) 0), (5, .sl .nil []), (7, .int .i64 0)]) (fun _ => σ) (fun _ => True) (fun _ => 0) () trivial (Env.Sub_of_has (by simp [Env.Has, Env.get, eCfg])) (Store.Sub.refl _) ?_
    intro _ _
    repeat' first |refine s1 ?_|refine gS ?_|refine wT rfl ?_|refine wF rfl ?_|refine wt rfl ?_|refine wf rfl ?_|(refine wC rfl (fun h=>?_) (fun h=>?_)<;>(try contradiction))|((first|refine rd ?_|refine ry [] c0 fun nu _ _=>?_);simp -dsimp (disch:=omega) only[go_sem])|refine e0 (by decide) ?_|(refine zA ?_ ?_;omega)|refine zA (of_eq_true PutAt_put) ?_|refine gT ?_|refine gF ?_|(refine gI (fun h=>?_) (fun h=>?_)<;>(try contradiction)<;>(try refine rd ?_)<;>(try simp -dsimp (disch:=omega) only[go_sem,h]))|refine zX _ (zX _ (zA (zA rfl rfl) ?_)) |fail
    all_goals exact ⟨Env.Sub_of_has (by simp [Env.Has, Env.get, eCfg]), Store.Sub.refl _⟩
  repeat' first |refine s1 ?_|refine gS ?_|refine wT rfl ?_|refine wF rfl ?_|refine wt rfl ?_|refine wf rfl ?_|(refine wC rfl (fun h=>?_) (fun h=>?_)<;>(try contradiction))|((first|refine rd ?_|refine ry [] c0 fun nu _ _=>?_);simp -dsimp (disch:=omega) only[go_sem])|refine e0 (by decide) ?_|(refine zA ?_ ?_;omega)|refine zA (of_eq_true PutAt_put) ?_|refine gT ?_|refine gF ?_|(refine gI (fun h=>?_) (fun h=>?_)<;>(try contradiction)<;>(try refine rd ?_)<;>(try simp -dsimp (disch:=omega) only[go_sem,h]))|refine zX _ (zX _ (zA (zA rfl rfl) ?_)) |fail
  refine W_loop_st (fun x : Nat × Nat => [(1, .int .i64 2), (2, .ip (eCfg c) 0), (5, .sl (outK x.1 x.2) (encL AV.str ((c.routers.map f).take x.1))), (8, .int .i64 x.1)]) (fun x => outS σ 9 x.1 x.2) (fun x => x.1 ≤ c.routers.length ∧ (x.1 = 0 ∨ σ x.2 = none)) (fun x => c.routers.length - x.1) (0, 0) ⟨Nat.zero_le _, .inl rfl⟩ (Env.Sub_of_has (by simp [Env.Has, Env.get, outK, encL, eCfg])) (Store.Sub.refl _) ?_
  rintro ⟨i, o⟩ ⟨hi, ho⟩
  simp only at hi ho
  by_cases hlt : i < c.routers.length
  · have hstep := out_step f hlt
    have hlen : (encL AV.str ((c.routers.map f).take i)).length = i := by rw [length_encL, List.length_take, List.length_map]; omega
    have hrow : rowsOk 1 (encL AV.str ((c.routers.map f).take i)) = true := ok_encL 1 AV.str (fun _ => rfl) _
    have hfx : f (c.routers.getD i default) = (c.routers.getD i default).name := by rw [hf]
    rw [hfx] at hstep
    by_cases h0 : i = 0
    · subst h0
      have q0 : encL AV.str ((c.routers.map f).take 0) = [] := rfl
      simp only [outK, outS, if_pos, q0] at hstep ⊢
      repeat' first |refine s1 ?_|refine gS ?_|refine wT rfl ?_|refine wF rfl ?_|refine wt rfl ?_|refine wf rfl ?_|(refine wC rfl (fun h=>?_) (fun h=>?_)<;>(try contradiction))|((first|refine rd ?_|refine ry [] c0 fun nu _ _=>?_);simp -dsimp (disch:=omega) only[go_sem])|refine e0 (by decide) ?_|(refine zA ?_ ?_;omega)|refine zA (of_eq_true PutAt_put) ?_|refine gT ?_|refine gF ?_|(refine gI (fun h=>?_) (fun h=>?_)<;>(try contradiction)<;>(try refine rd ?_)<;>(try simp -dsimp (disch:=omega) only[go_sem,h]))|refine zX _ (zX _ (zA (zA rfl rfl) ?_)) |fail
      intro o' ho'
      repeat' first |refine s1 ?_|refine gS ?_|refine wT rfl ?_|refine wF rfl ?_|refine wt rfl ?_|refine wf rfl ?_|(refine wC rfl (fun h=>?_) (fun h=>?_)<;>(try contradiction))|((first|refine rd ?_|refine ry [] c0 fun nu _ _=>?_);simp -dsimp (disch:=omega) only[go_sem])|refine e0 (by decide) ?_|(refine zA ?_ ?_;omega)|refine zA (of_eq_true PutAt_put) ?_|refine gT ?_|refine gF ?_|(refine gI (fun h=>?_) (fun h=>?_)<;>(try contradiction)<;>(try refine rd ?_)<;>(try simp -dsimp (disch:=omega) only[go_sem,h]))|refine zX _ (zX _ (zA (zA rfl rfl) ?_)) |fail
      exact ⟨(1, o'), by simp only; omega, ⟨by simp only; omega, .inr ho'⟩, Env.Sub_of_has (by simp only [Env.Has, Env.get, outK]; simp [hstep, eCfg]), Store.Sub.refl _⟩
    · have hs1 : outS σ 9 i o = σ.put o (.tip i 9 1) := by simp [outS, h0]
      have hk1 : outK i o = .tip o := by simp [outK, h0]
      have hs2 : outS σ 9 (i + 1) o = σ.put o (.tip (i + 1) 9 1) := by simp [outS]
      have hk2 : outK (i + 1) o = .tip o := by simp [outK]
      rw [hs1, hk1]
      repeat' first |refine s1 ?_|refine gS ?_|refine wT rfl ?_|refine wF rfl ?_|refine wt rfl ?_|refine wf rfl ?_|(refine wC rfl (fun h=>?_) (fun h=>?_)<;>(try contradiction))|((first|refine rd ?_|refine ry [] c0 fun nu _ _=>?_);simp -dsimp (disch:=omega) only[go_sem,hlen, hrow])|refine e0 (by decide) ?_|(refine zA ?_ ?_;omega)|refine zA (of_eq_true PutAt_put) ?_|refine gT ?_|refine gF ?_|(refine gI (fun h=>?_) (fun h=>?_)<;>(try contradiction)<;>(try refine rd ?_)<;>(try simp -dsimp (disch:=omega) only[go_sem,h,hlen, hrow]))|refine zX _ (zX _ (zA (zA rfl rfl) ?_)) |fail
      refine ⟨(i + 1, o), by simp only; omega, ⟨by simp only; omega, .inr (ho.resolve_left h0)⟩, Env.Sub_of_has ?_, ?_⟩
      · simp only [Env.Has, Env.get, hk2, hstep]; simp [eCfg]
      · simp only [hs2, List.length_append, hlen, List.length_cons, List.length_nil, Nat.zero_add]; exact Store.Sub.refl _
  · have hi' : i = c.routers.length := by omega
    subst hi'
    have htk : (c.routers.map f).take c.routers.length = c.routers.map f := List.take_of_length_le (by simp)
    simp only [htk]
    have hsub : σ.Sub (outS σ 9 c.routers.length o) := by
      unfold outS
      split
      · exact Store.Sub.refl _
      · rename_i hne
        exact Sub_put (Store.Sub.refl _) (ho.resolve_left hne) _
    refine W_weaken (ρ' := [(1, .int .i64 2), (2, .ip (eCfg c) 0), (5, .sl (outK c.routers.length o) (encL AV.str (c.routers.map f))), (8, .int .i64 c.routers.length)]) (σ' := σ) (Env.Sub_of_has (by simp [Env.Has, Env.get, eCfg])) hsub ?_
    repeat' first |refine s1 ?_|refine gS ?_|refine wT rfl ?_|refine wF rfl ?_|refine wt rfl ?_|refine wf rfl ?_|(refine wC rfl (fun h=>?_) (fun h=>?_)<;>(try contradiction))|((first|refine rd ?_|refine ry [] c0 fun nu _ _=>?_);simp -dsimp (disch:=omega) only[go_sem])|refine e0 (by decide) ?_|(refine zA ?_ ?_;omega)|refine zA (of_eq_true PutAt_put) ?_|refine gT ?_|refine gF ?_|(refine gI (fun h=>?_) (fun h=>?_)<;>(try contradiction)<;>(try refine rd ?_)<;>(try simp -dsimp (disch:=omega) only[go_sem,h]))|refine zX _ (zX _ (zA (zA rfl rfl) ?_)) |fail
    all_goals first | exact ⟨_, Store.Sub.refl _, ⟨_, rfl⟩, rfl⟩ | exact ⟨_, rfl⟩ | trivial
theorem namesLstP (c : Cfg) (hl : c.lists.length ≤ 1000) (h1 : c.lists.length < 4611686018427387904) (h2 : c.maps.length < 4611686018427387904) (h3 : c.routers.length < 4611686018427387904) :
    Pure Tryz.prog 12 [eCfg c, .int .i64 0] (.sl (kd (c.lists.map (·.name))) (encL AV.str (c.lists.map (·.name)))) := by
  intro σ
  refine PCall_fin (namesLst0 c hl h1 h2 h3 σ) ?_
  rintro _ t ⟨⟨o, rfl⟩, rfl⟩
  by_cases hz : c.lists.length = 0
  · have h3 : c.lists.map (·.name) = [] := List.eq_nil_of_length_eq_zero (by simpa using hz)
    refine .as ⟨_, Store.Sub.refl _, ?_, rfl⟩
    rw [kd, if_pos h3, outK, if_pos hz]
  · have h3 : ¬ c.lists.map (·.name) = [] := fun e => hz (by simpa using congrArg List.length e)
    refine .imm _ _ rfl (by rw [outK, if_neg hz]; rfl) ⟨_, Store.Sub.refl _, ?_, rfl⟩
    rw [kd, if_neg h3]
theorem namesMapP (c : Cfg) (hl : c.maps.length ≤ 1000) (h1 : c.lists.length < 4611686018427387904) (h2 : c.maps.length < 4611686018427387904) (h3 : c.routers.length < 4611686018427387904) :
    Pure Tryz.prog 12 [eCfg c, .int .i64 1] (.sl (kd (c.maps.map (·.name))) (encL AV.str (c.maps.map (·.name)))) := by
  intro σ
  refine PCall_fin (namesMap0 c hl h1 h2 h3 σ) ?_
  rintro _ t ⟨⟨o, rfl⟩, rfl⟩
  by_cases hz : c.maps.length = 0
  · have h3 : c.maps.map (·.name) = [] := List.eq_nil_of_length_eq_zero (by simpa using hz)
    refine .as ⟨_, Store.Sub.refl _, ?_, rfl⟩
    rw [kd, if_pos h3, outK, if_pos hz]
  · have h3 : ¬ c.maps.map (·.name) = [] := fun e => hz (by simpa using congrArg List.length e)
    refine .imm _ _ rfl (by rw [outK, if_neg hz]; rfl) ⟨_, Store.Sub.refl _, ?_, rfl⟩
    rw [kd, if_neg h3]
theorem namesRtrP (c : Cfg) (hl : c.routers.length ≤ 1000) (h1 : c.lists.length < 4611686018427387904) (h2 : c.maps.length < 4611686018427387904) (h3 : c.routers.length < 4611686018427387904) :
    Pure Tryz.prog 12 [eCfg c, .int .i64 2] (.sl (kd (c.routers.map (·.name))) (encL AV.str (c.routers.map (·.name)))) := by
  intro σ
  refine PCall_fin (namesRtr0 c hl h1 h2 h3 σ) ?_
  rintro _ t ⟨⟨o, rfl⟩, rfl⟩
  by_cases hz : c.routers.length = 0
  · have h3 : c.routers.map (·.name) = [] := List.eq_nil_of_length_eq_zero (by simpa using hz)
    refine .as ⟨_, Store.Sub.refl _, ?_, rfl⟩
    rw [kd, if_pos h3, outK, if_pos hz]
  · have h3 : ¬ c.routers.map (·.name) = [] := fun e => hz (by simpa using congrArg List.length e)
    refine .imm _ _ rfl (by rw [outK, if_neg hz]; rfl) ⟨_, Store.Sub.refl _, ?_, rfl⟩
    rw [kd, if_neg h3]
end Go.Proofs.YtaealcimocpnnaaGreat

namespace Go.Proofs.YtaealcimocpnnaaGreat
open Go.Kern Go.RowKit
theorem foldS_len (p : ByteArray → Bool) : ∀ (l f : List ByteArray), (l.foldl (stepS p) f).length ≤ f.length + l.length
  | [], f => by simp
  | s :: l, f => by
    rw [List.foldl_cons, List.length_cons]
    have h := foldS_len p l (stepS p f s)
    have h2 : (stepS p f s).length ≤ f.length + 1 := by
      unfold stepS
      split
      · omega
      · rw [insS, List.length_append, List.length_cons, List.length_take, List.length_drop]; omega
    omega
theorem foldS_succ (p : ByteArray → Bool) {l : List ByteArray} {i : Nat} {s : ByteArray} (h : l[i]? = some s) : (l.take (i + 1)).foldl (stepS p) [] = stepS p ((l.take i).foldl (stepS p) []) s := by
  obtain ⟨hl, he⟩ := List.getElem?_eq_some_iff.1 h
  rw [List.take_succ_eq_append_getElem hl, he, List.foldl_append]; rfl
theorem nmK_len {c : Cfg} (hS : c.S) (k : Nat) : (nmK c k).length ≤ 20 := by
  obtain ⟨a1, a2, a3⟩ := hS.len
  match k with
  | 0 => simp only [nmK, List.length_map]; omega
  | 1 => simp only [nmK, List.length_map]; omega
  | k + 2 => simp only [nmK, List.length_map]; omega
theorem nmK_size {c : Cfg} (hS : c.S) (k : Nat) : ∀ s, s ∈ nmK c k → s.size ≤ 100 := by
  intro s hs
  match k with
  | 0 =>
    obtain ⟨x, hx, rfl⟩ := List.mem_map.1 hs
    exact (hS.lists x hx).1
  | 1 =>
    obtain ⟨x, hx, rfl⟩ := List.mem_map.1 hs
    exact (hS.maps x hx).1.1
  | k + 2 =>
    obtain ⟨x, hx, rfl⟩ := List.mem_map.1 hs
    exact (hS.routers x hx).1
theorem fdK_len {a b : Cfg} (hA : a.S) (hB : b.S) (k : Nat) : (fdK a b k).length ≤ 40 := by
  have h1 := foldS_len (smK a b k) (nmK a k ++ nmK b k) []
  have h2 := nmK_len hA k
  have h3 := nmK_len hB k
  rw [List.length_append] at h1
  simp only [List.length_nil] at h1
  unfold fdK; omega
theorem fdK_size {a b : Cfg} (hA : a.S) (hB : b.S) (k : Nat) : ∀ s, s ∈ fdK a b k → s.size ≤ 100 := by
  intro s hs
  rcases ((foldS (smK a b k) (nmK a k ++ nmK b k) [] List.Pairwise.nil).2 s).1 hs with h | ⟨h, _⟩
  · simp at h
  · rcases List.mem_append.1 h with h | h
    · exact nmK_size hA k s h
    · exact nmK_size hB k s h
theorem wnC_len {a b : Cfg} (hA : a.S) (hB : b.S) : ∀ k, (wnC a b k).length ≤ 40 * k
  | 0 => by simp [wnC]
  | k + 1 => by
    have h1 := wnC_len hA hB k
    have h2 := fdK_len hA hB k
    simp only [wnC, List.length_append, List.length_map]; omega
set_option maxRecDepth 100000
set_option maxHeartbeats 4000000
attribute [local irreducible] PCall W
theorem names_pure {c : Cfg} (hS : c.S) (k : Nat) (hk : k < 3) : Pure Tryz.prog 12 [eCfg c, .int .i64 k] (.sl (kd (nmK c k)) (encL AV.str (nmK c k))) := by
  obtain ⟨a1, a2, a3⟩ := hS.len
  match k, hk with
  | 0, _ => exact namesLstP c (by omega) (by omega) (by omega) (by omega)
  | 1, _ => exact namesMapP c (by omega) (by omega) (by omega) (by omega)
  | 2, _ => exact namesRtrP c (by omega) (by omega) (by omega) (by omega)
theorem one_pair {a b : Cfg} (hA : a.S) (hB : b.S) (fA : a.Fits) (fB : b.Fits) (k : Nat) (hk : k < 3) (s : ByteArray) :
    (∃ (i j : Nat) (oa ob : AV), idxN (nmK a k) s = i ∧ idxN (nmK b k) s = j ∧ Pure Tryz.prog 13 [eCfg a, .int .i64 k, .int .i64 i] oa ∧ Pure Tryz.prog 13 [eCfg b, .int .i64 k, .int .i64 j] ob ∧ Pure Tryz.prog 15 [oa, ob] (.bool (smK a b k s))) ∨
    (idxN (nmK a k) s = -1 ∧ smK a b k s = false) ∨ (∃ i : Nat, idxN (nmK a k) s = i ∧ idxN (nmK b k) s = -1 ∧ smK a b k s = false) := by
  match k, hk with
  | 0, _ =>
    rcases idx_find nLst s a.lists 0 with ⟨i, h1, h2, h3⟩ | ⟨h2, h3⟩
    · rcases idx_find nLst s b.lists 0 with ⟨j, g1, g2, g3⟩ | ⟨g2, g3⟩
      · refine .inl ⟨i, j, _, _, by show (idxS (fun (_ : Unit) x => (decide (x = s), ())) () 0 (a.lists.map nLst)).1 = _; rw [h2]; omega, by show (idxS (fun (_ : Unit) x => (decide (x = s), ())) () 0 (b.lists.map nLst)).1 = _; rw [g2]; omega, oneL_spec a i h1 fA.lists, oneL_spec b j g1 fB.lists, ?_⟩
        have hs : smK a b 0 s = qCfg (oneL a i) (oneL b j) := by rw [oneL_q a b h1 g1]; simp only [smK, sameN, h3, g3]
        rw [hs]
        exact rsame_spec _ _ (oneL_fits fA i) (oneL_fits fB j)
      · exact .inr (.inr ⟨i, by show (idxS (fun (_ : Unit) x => (decide (x = s), ())) () 0 (a.lists.map nLst)).1 = _; rw [h2]; omega, by show (idxS (fun (_ : Unit) x => (decide (x = s), ())) () 0 (b.lists.map nLst)).1 = _; rw [g2], by simp only [smK, sameN, h3, g3]⟩)
    · exact .inr (.inl ⟨by show (idxS (fun (_ : Unit) x => (decide (x = s), ())) () 0 (a.lists.map nLst)).1 = _; rw [h2], by simp only [smK, sameN, h3]⟩)
  | 1, _ =>
    rcases idx_find nMap s a.maps 0 with ⟨i, h1, h2, h3⟩ | ⟨h2, h3⟩
    · rcases idx_find nMap s b.maps 0 with ⟨j, g1, g2, g3⟩ | ⟨g2, g3⟩
      · refine .inl ⟨i, j, _, _, by show (idxS (fun (_ : Unit) x => (decide (x = s), ())) () 0 (a.maps.map nMap)).1 = _; rw [h2]; omega, by show (idxS (fun (_ : Unit) x => (decide (x = s), ())) () 0 (b.maps.map nMap)).1 = _; rw [g2]; omega, oneM_spec a i h1 fA.maps, oneM_spec b j g1 fB.maps, ?_⟩
        have hs : smK a b 1 s = qCfg (oneM a i) (oneM b j) := by rw [oneM_q a b h1 g1]; simp only [smK, sameN, h3, g3]
        rw [hs]
        exact rsame_spec _ _ (oneM_fits fA i) (oneM_fits fB j)
      · exact .inr (.inr ⟨i, by show (idxS (fun (_ : Unit) x => (decide (x = s), ())) () 0 (a.maps.map nMap)).1 = _; rw [h2]; omega, by show (idxS (fun (_ : Unit) x => (decide (x = s), ())) () 0 (b.maps.map nMap)).1 = _; rw [g2], by simp only [smK, sameN, h3, g3]⟩)
    · exact .inr (.inl ⟨by show (idxS (fun (_ : Unit) x => (decide (x = s), ())) () 0 (a.maps.map nMap)).1 = _; rw [h2], by simp only [smK, sameN, h3]⟩)
  | 2, _ =>
    rcases idx_find nRtr s a.routers 0 with ⟨i, h1, h2, h3⟩ | ⟨h2, h3⟩
    · rcases idx_find nRtr s b.routers 0 with ⟨j, g1, g2, g3⟩ | ⟨g2, g3⟩
      · refine .inl ⟨i, j, _, _, by show (idxS (fun (_ : Unit) x => (decide (x = s), ())) () 0 (a.routers.map nRtr)).1 = _; rw [h2]; omega, by show (idxS (fun (_ : Unit) x => (decide (x = s), ())) () 0 (b.routers.map nRtr)).1 = _; rw [g2]; omega, oneR_spec a i h1 fA.routers, oneR_spec b j g1 fB.routers, ?_⟩
        have hs : smK a b 2 s = qCfg (oneR a i) (oneR b j) := by rw [oneR_q a b h1 g1]; simp only [smK, sameN, h3, g3]
        rw [hs]
        exact rsame_spec _ _ (oneR_fits fA i) (oneR_fits fB j)
      · exact .inr (.inr ⟨i, by show (idxS (fun (_ : Unit) x => (decide (x = s), ())) () 0 (a.routers.map nRtr)).1 = _; rw [h2]; omega, by show (idxS (fun (_ : Unit) x => (decide (x = s), ())) () 0 (b.routers.map nRtr)).1 = _; rw [g2], by simp only [smK, sameN, h3, g3]⟩)
    · exact .inr (.inl ⟨by show (idxS (fun (_ : Unit) x => (decide (x = s), ())) () 0 (a.routers.map nRtr)).1 = _; rw [h2], by simp only [smK, sameN, h3]⟩)
end Go.Proofs.YtaealcimocpnnaaGreat

namespace Go.Proofs.YtaealcimocpnnaaGreat
open Go.Kern Go.RowKit
structure WnL where
  k : Nat
  kk : SK
  τ : Store
structure FdL where
  i : Nat
  kk : SK
  τ : Store
def wordsD : List AV := [.str ⟨#[112, 114, 101, 102, 105, 120, 45, 108, 105, 115, 116, 32]⟩, .str ⟨#[114, 111, 117, 116, 101, 45, 109, 97, 112, 32]⟩, .str ⟨#[114, 111, 117, 116, 101, 114, 32]⟩]
theorem wordsD_at {k : Nat} (h : k < 3) : wordsD.getD k .any = .str (wdK k) := by
  match k, h with
  | 0, _ => rfl
  | 1, _ => rfl
  | 2, _ => rfl
theorem wdK_size {k : Nat} (h : k < 3) : (wdK k).size ≤ 100 := by
  match k, h with
  | 0, _ => decide
  | 1, _ => decide
  | 2, _ => decide
def KdOk (k : SK) (F : List ByteArray) : Prop := (k = .nil ∧ F = []) ∨ ∃ t, k = .tip t
def wnR (a b : Cfg) (k i : Nat) : List ByteArray := wnC a b k ++ ((fdK a b k).take i).map fun s => wdK k ++ s
theorem wnR_zero (a b : Cfg) (k : Nat) : wnR a b k 0 = wnC a b k := by simp [wnR]
theorem wnR_succ (a b : Cfg) {k i : Nat} {s : ByteArray} (h : (fdK a b k)[i]? = some s) : encL AV.str (wnR a b k i) ++ [.str (wdK k ++ s)] = encL AV.str (wnR a b k (i + 1)) := by
  obtain ⟨hl, he⟩ := List.getElem?_eq_some_iff.1 h
  rw [wnR, wnR, List.take_succ_eq_append_getElem hl, he, List.map_append, ← List.append_assoc]
  simp [encL]
theorem wnR_all (a b : Cfg) (k : Nat) : wnR a b k (fdK a b k).length = wnC a b (k + 1) := by rw [wnR, List.take_length]; rfl
set_option maxRecDepth 100000
set_option maxHeartbeats 4000000
attribute [local irreducible] PCall W
theorem differs_spec (a b : Cfg) (hWa : a.Wf) (hWb : b.Wf) (σ : Store) : PCall Tryz.prog 5 [eCfg a, eCfg b] σ (fun r s => r = .bool true ∧ s = σ) := by
  have hl := lives_spec
  refine PCall_q [.tmp 4] 172 Tryz.func5 (by rfl) rfl rfl rfl rfl ?_
  repeat' first |refine s1 ?_|refine gS ?_|refine wT rfl ?_|refine wF rfl ?_|refine wt rfl ?_|refine wf rfl ?_|(refine wC rfl (fun h=>?_) (fun h=>?_)<;>(try contradiction))|((first|refine rd ?_|refine ry [] c0 fun nu _ _=>?_);simp -dsimp (disch:=omega) only[go_sem])|refine e0 (by decide) ?_|(refine zA ?_ ?_;omega)|refine zA (of_eq_true PutAt_put) ?_|refine gT ?_|refine gF ?_|(refine gI (fun h=>?_) (fun h=>?_)<;>(try contradiction)<;>(try refine rd ?_)<;>(try simp -dsimp (disch:=omega) only[go_sem,h]))|refine zX _ (zX _ (zA (zA rfl rfl) ?_)) |fail
  refine ck (small_spec a σ) ?_
  rintro _ _ ⟨hr, hq⟩
  obtain rfl := hq.symm
  clear hq
  rcases hr with rfl | ⟨rfl, hA⟩
  · skip
    repeat' first |refine s1 ?_|refine gS ?_|refine wT rfl ?_|refine wF rfl ?_|refine wt rfl ?_|refine wf rfl ?_|(refine wC rfl (fun h=>?_) (fun h=>?_)<;>(try contradiction))|((first|refine rd ?_|refine ry [] c0 fun nu _ _=>?_);simp -dsimp (disch:=omega) only[go_sem])|refine e0 (by decide) ?_|(refine zA ?_ ?_;omega)|refine zA (of_eq_true PutAt_put) ?_|refine gT ?_|refine gF ?_|(refine gI (fun h=>?_) (fun h=>?_)<;>(try contradiction)<;>(try refine rd ?_)<;>(try simp -dsimp (disch:=omega) only[go_sem,h]))|refine zX _ (zX _ (zA (zA rfl rfl) ?_)) |refine us (hl) ?_ |fail
  repeat' first |refine s1 ?_|refine gS ?_|refine wT rfl ?_|refine wF rfl ?_|refine wt rfl ?_|refine wf rfl ?_|(refine wC rfl (fun h=>?_) (fun h=>?_)<;>(try contradiction))|((first|refine rd ?_|refine ry [] c0 fun nu _ _=>?_);simp -dsimp (disch:=omega) only[go_sem])|refine e0 (by decide) ?_|(refine zA ?_ ?_;omega)|refine zA (of_eq_true PutAt_put) ?_|refine gT ?_|refine gF ?_|(refine gI (fun h=>?_) (fun h=>?_)<;>(try contradiction)<;>(try refine rd ?_)<;>(try simp -dsimp (disch:=omega) only[go_sem,h]))|refine zX _ (zX _ (zA (zA rfl rfl) ?_)) |fail
  refine ck (small_spec b σ) ?_
  rintro _ _ ⟨hr, hq⟩
  obtain rfl := hq.symm
  clear hq
  rcases hr with rfl | ⟨rfl, hB⟩
  · skip
    repeat' first |refine s1 ?_|refine gS ?_|refine wT rfl ?_|refine wF rfl ?_|refine wt rfl ?_|refine wf rfl ?_|(refine wC rfl (fun h=>?_) (fun h=>?_)<;>(try contradiction))|((first|refine rd ?_|refine ry [] c0 fun nu _ _=>?_);simp -dsimp (disch:=omega) only[go_sem])|refine e0 (by decide) ?_|(refine zA ?_ ?_;omega)|refine zA (of_eq_true PutAt_put) ?_|refine gT ?_|refine gF ?_|(refine gI (fun h=>?_) (fun h=>?_)<;>(try contradiction)<;>(try refine rd ?_)<;>(try simp -dsimp (disch:=omega) only[go_sem,h]))|refine zX _ (zX _ (zA (zA rfl rfl) ?_)) |refine us (hl) ?_ |fail
  have fA := in_fits a hA hWa
  have fB := in_fits b hB hWb
  have dAB := differ_spec a b hA hB fA fB
  have dAA := differ_spec a a hA hA fA fA
  have hAB : Pure Tryz.prog 16 [eCfg a, eCfg b] (.sl (kd (difC a b)) (encL AV.str (difC a b))) := dAB
  have hAA : Pure Tryz.prog 16 [eCfg a, eCfg a] (.sl .nil []) := fun s => (dAA s).mono fun r t ⟨h1, h2⟩ => ⟨by rw [h1, difC_self]; rfl, h2⟩
  have hs1 := same_spec a b fA fB
  have hs2 := rsame_spec a b fA fB
  repeat' first |((fail_if_success (first|show W _ _ (Code.seq (Code.region 5 _ _) _) _ _ _|show W _ _ (Code.seq (Code.seq (Code.region 5 _ _) _) _) _ _ _));refine s1 ?_)|refine gS ?_|refine wT rfl ?_|refine wF rfl ?_|refine wt rfl ?_|refine wf rfl ?_|(refine wC rfl (fun h=>?_) (fun h=>?_)<;>(try contradiction))|((fail_if_success (first|show W _ _ (Code.region 5 _ _) _ _ _));(first|refine rd ?_|refine ry [] c0 fun nu _ _=>?_);simp -dsimp (disch:=omega) only[go_sem])|refine e0 (by decide) ?_|(refine zA ?_ ?_;omega)|refine zA (of_eq_true PutAt_put) ?_|refine gT ?_|refine gF ?_|(refine gI (fun h=>?_) (fun h=>?_)<;>(try contradiction)<;>(try refine rd ?_)<;>(try simp -dsimp (disch:=omega) only[go_sem,h]))|refine zX _ (zX _ (zA (zA rfl rfl) ?_)) |fail
  refine W_midE (fun x : WnL => [(2, .ip (eCfg a) 0), (3, .ip (eCfg b) 0), (6, .sl x.kk (encL AV.str (difC a b)))]) (fun x => x.τ) (fun x => σ.Sub x.τ) ?_ ?_
  · skip
    repeat' first |refine s1 ?_|refine gS ?_|refine wT rfl ?_|refine wF rfl ?_|refine wt rfl ?_|refine wf rfl ?_|(refine wC rfl (fun h=>?_) (fun h=>?_)<;>(try contradiction))|((first|refine rd ?_|refine ry [] c0 fun nu _ _=>?_);simp -dsimp (disch:=omega) only[go_sem])|refine e0 (by decide) ?_|(refine zA ?_ ?_;omega)|refine zA (of_eq_true PutAt_put) ?_|refine gT ?_|refine gF ?_|(refine gI (fun h=>?_) (fun h=>?_)<;>(try contradiction)<;>(try refine rd ?_)<;>(try simp -dsimp (disch:=omega) only[go_sem,h]))|refine zX _ (zX _ (zA (zA rfl rfl) ?_)) |fail
    refine W_loop_st (fun x : WnL => [(2, .ip (eCfg a) 0), (3, .ip (eCfg b) 0), (5, .sl .full wordsD), (6, .sl x.kk (encL AV.str (wnC a b x.k))), (7, .int .i64 x.k)]) (fun x => x.τ) (fun x => x.k ≤ 3 ∧ σ.Sub x.τ ∧ TipD σ x.τ x.kk (encL AV.str (wnC a b x.k))) (fun x => 3 - x.k) ⟨0, .nil, σ⟩ ⟨by simp only; omega, Store.Sub.refl _, .inl ⟨rfl, rfl⟩⟩ (Env.Sub_of_has (by simp [Env.Has, Env.get, Env.putO, eCfg, wordsD, wnC, encL])) (Store.Sub.refl _) ?_
    rintro ⟨k, kw, τ⟩ ⟨hk, hsub, htip⟩
    simp only at hk hsub htip ⊢
    by_cases hlt : k < 3
    · have n1 := names_pure hA k hlt
      have n2 := names_pure hB k hlt
      have hN1 := nmK_len hA k
      have hN2 := nmK_len hB k
      have hNs : ∀ s, s ∈ nmK a k ++ nmK b k → s.size ≤ 100 := fun s hs => by
        rcases List.mem_append.1 hs with h | h
        · exact nmK_size hA k s h
        · exact nmK_size hB k s h
      have hwl := wnC_len hA hB k
      have hfl := fdK_len hA hB k
      have hfz := fdK_size hA hB k
      obtain ⟨N, hN⟩ : ∃ N, nmK a k = N := ⟨_, rfl⟩
      obtain ⟨M, hM⟩ : ∃ M, nmK b k = M := ⟨_, rfl⟩
      have one := one_pair hA hB fA fB k hlt
      rw [hN] at n1 hN1 hNs one
      rw [hM] at n2 hN2 hNs one
      have hlN : (encL AV.str N).length = N.length := length_encL _ _
      have hlM : (encL AV.str M).length = M.length := length_encL _ _
      have hoN : rowsOk 1 (encL AV.str N) = true := ok_encL 1 AV.str (fun _ => rfl) _
      have hoM : rowsOk 1 (encL AV.str M) = true := ok_encL 1 AV.str (fun _ => rfl) _
      have hnl : encL AV.str ([] : List ByteArray) = [] := rfl
      repeat' first |((fail_if_success (first|show W _ _ (Code.seq (Code.region 10 _ _) _) _ _ _|show W _ _ (Code.seq (Code.seq (Code.region 10 _ _) _) _) _ _ _));refine s1 ?_)|refine gS ?_|refine wT rfl ?_|refine wF rfl ?_|refine wt rfl ?_|refine wf rfl ?_|(refine wC rfl (fun h=>?_) (fun h=>?_)<;>(try contradiction))|((fail_if_success (first|show W _ _ (Code.region 10 _ _) _ _ _));(first|refine rd ?_|refine ry [] c0 fun nu _ _=>?_);simp -dsimp (disch:=omega) only[go_sem])|refine e0 (by decide) ?_|(refine zA ?_ ?_;omega)|refine zA (of_eq_true PutAt_put) ?_|refine gT ?_|refine gF ?_|(refine gI (fun h=>?_) (fun h=>?_)<;>(try contradiction)<;>(try refine rd ?_)<;>(try simp -dsimp (disch:=omega) only[go_sem,h]))|refine zX _ (zX _ (zA (zA rfl rfl) ?_)) |refine us (n1) ?_ |refine us (n2) ?_ |fail
      refine W_midE (fun x : WnL => [(2, .ip (eCfg a) 0), (3, .ip (eCfg b) 0), (5, .sl .full wordsD), (6, .sl kw (encL AV.str (wnC a b k))), (7, .int .i64 k), (8, .sl (kd N) (encL AV.str N)), (9, .sl (kd M) (encL AV.str M)), (10, .sl x.kk (encL AV.str N))]) (fun x => x.τ) (fun x => τ.Sub x.τ ∧ TipD τ x.τ x.kk (encL AV.str N)) ?_ ?_
      · by_cases h0 : N = []
        · subst h0
          repeat' first |refine s1 ?_|refine gS ?_|refine wT rfl ?_|refine wF rfl ?_|refine wt rfl ?_|refine wf rfl ?_|(refine wC rfl (fun h=>?_) (fun h=>?_)<;>(try contradiction))|((first|refine rd ?_|refine ry [] c0 fun nu _ _=>?_);simp -dsimp (disch:=omega) only[go_sem,hnl])|refine e0 (by decide) ?_|(refine zA ?_ ?_;omega)|refine zA (of_eq_true PutAt_put) ?_|refine gT ?_|refine gF ?_|(refine gI (fun h=>?_) (fun h=>?_)<;>(try contradiction)<;>(try refine rd ?_)<;>(try simp -dsimp (disch:=omega) only[go_sem,h,hnl]))|refine zX _ (zX _ (zA (zA rfl rfl) ?_)) |fail
          exact ⟨⟨0, .nil, τ⟩, ⟨Store.Sub.refl _, .inl ⟨rfl, rfl⟩⟩, Env.Sub_of_has (by simp [Env.Has, Env.get, Env.putO, eCfg, hnl]), Store.Sub.refl _⟩
        · have hne : (encL AV.str N = []) = False := by rw [nil_encL]; exact eq_false h0
          repeat' first |refine s1 ?_|refine gS ?_|refine wT rfl ?_|refine wF rfl ?_|refine wt rfl ?_|refine wf rfl ?_|(refine wC rfl (fun h=>?_) (fun h=>?_)<;>(try contradiction))|((first|refine rd ?_|refine ry [] c0 fun nu _ _=>?_);simp -dsimp (disch:=omega) only[go_sem,hlN, hoN, hne])|refine e0 (by decide) ?_|(refine zA ?_ ?_;omega)|refine zA (of_eq_true PutAt_put) ?_|refine gT ?_|refine gF ?_|(refine gI (fun h=>?_) (fun h=>?_)<;>(try contradiction)<;>(try refine rd ?_)<;>(try simp -dsimp (disch:=omega) only[go_sem,h,hlN, hoN, hne]))|refine zX _ (zX _ (zA (zA rfl rfl) ?_)) |fail
          intro t ht
          repeat' first |refine s1 ?_|refine gS ?_|refine wT rfl ?_|refine wF rfl ?_|refine wt rfl ?_|refine wf rfl ?_|(refine wC rfl (fun h=>?_) (fun h=>?_)<;>(try contradiction))|((first|refine rd ?_|refine ry [] c0 fun nu _ _=>?_);simp -dsimp (disch:=omega) only[go_sem])|refine e0 (by decide) ?_|(refine zA ?_ ?_;omega)|refine zA (of_eq_true PutAt_put) ?_|refine gT ?_|refine gF ?_|(refine gI (fun h=>?_) (fun h=>?_)<;>(try contradiction)<;>(try refine rd ?_)<;>(try simp -dsimp (disch:=omega) only[go_sem,h]))|refine zX _ (zX _ (zA (zA rfl rfl) ?_)) |fail
          exact ⟨⟨0, .tip t, _⟩, ⟨keep_new (Store.Sub.refl _) ht, .inr ⟨t, rfl, put_same _ _ _, ht, fun e => hne.mp e⟩⟩, Env.Sub_of_has (by simp [Env.Has, Env.get, Env.putO, eCfg]), by simp only [hlN]; exact Store.Sub.refl _⟩
      rintro ⟨_, k1, τ1⟩ ⟨hs1', ht1⟩
      simp only at hs1' ht1 ⊢
      refine W_midE (fun x : WnL => [(2, .ip (eCfg a) 0), (3, .ip (eCfg b) 0), (5, .sl .full wordsD), (6, .sl kw (encL AV.str (wnC a b k))), (7, .int .i64 k), (8, .sl (kd N) (encL AV.str N)), (9, .sl (kd M) (encL AV.str M)), (10, .sl x.kk (encL AV.str (N ++ M)))]) (fun x => x.τ) (fun x => τ.Sub x.τ) ?_ ?_
      · rcases ht1 with ⟨rfl, hz⟩ | ⟨t, rfl, jt, htn, hz⟩
        · have h0 : N = [] := by simpa [encL] using hz
          subst h0
          by_cases h1 : M = []
          · subst h1
            repeat' first |refine s1 ?_|refine gS ?_|refine wT rfl ?_|refine wF rfl ?_|refine wt rfl ?_|refine wf rfl ?_|(refine wC rfl (fun h=>?_) (fun h=>?_)<;>(try contradiction))|((first|refine rd ?_|refine ry [] c0 fun nu _ _=>?_);simp -dsimp (disch:=omega) only[go_sem,hnl])|refine e0 (by decide) ?_|(refine zA ?_ ?_;omega)|refine zA (of_eq_true PutAt_put) ?_|refine gT ?_|refine gF ?_|(refine gI (fun h=>?_) (fun h=>?_)<;>(try contradiction)<;>(try refine rd ?_)<;>(try simp -dsimp (disch:=omega) only[go_sem,h,hnl]))|refine zX _ (zX _ (zA (zA rfl rfl) ?_)) |fail
            exact ⟨⟨0, .nil, _⟩, hs1', Env.Sub_of_has (by simp [Env.Has, Env.get, Env.putO, eCfg, hnl]), Store.Sub.refl _⟩
          · have hne : (encL AV.str M = []) = False := by rw [nil_encL]; exact eq_false h1
            repeat' first |refine s1 ?_|refine gS ?_|refine wT rfl ?_|refine wF rfl ?_|refine wt rfl ?_|refine wf rfl ?_|(refine wC rfl (fun h=>?_) (fun h=>?_)<;>(try contradiction))|((first|refine rd ?_|refine ry [] c0 fun nu _ _=>?_);simp -dsimp (disch:=omega) only[go_sem,hnl, hlM, hoM, hne])|refine e0 (by decide) ?_|(refine zA ?_ ?_;omega)|refine zA (of_eq_true PutAt_put) ?_|refine gT ?_|refine gF ?_|(refine gI (fun h=>?_) (fun h=>?_)<;>(try contradiction)<;>(try refine rd ?_)<;>(try simp -dsimp (disch:=omega) only[go_sem,h,hnl, hlM, hoM, hne]))|refine zX _ (zX _ (zA (zA rfl rfl) ?_)) |fail
            intro t ht
            repeat' first |refine s1 ?_|refine gS ?_|refine wT rfl ?_|refine wF rfl ?_|refine wt rfl ?_|refine wf rfl ?_|(refine wC rfl (fun h=>?_) (fun h=>?_)<;>(try contradiction))|((first|refine rd ?_|refine ry [] c0 fun nu _ _=>?_);simp -dsimp (disch:=omega) only[go_sem])|refine e0 (by decide) ?_|(refine zA ?_ ?_;omega)|refine zA (of_eq_true PutAt_put) ?_|refine gT ?_|refine gF ?_|(refine gI (fun h=>?_) (fun h=>?_)<;>(try contradiction)<;>(try refine rd ?_)<;>(try simp -dsimp (disch:=omega) only[go_sem,h]))|refine zX _ (zX _ (zA (zA rfl rfl) ?_)) |fail
            exact ⟨⟨0, .tip t, _⟩, keep_new hs1' (none_of hs1' ht), Env.Sub_of_has (by simp [Env.Has, Env.get, Env.putO, eCfg, hnl]), Store.Sub.refl _⟩
        · have hap : encL AV.str N ++ encL AV.str M = encL AV.str (N ++ M) := by simp [encL]
          by_cases h1 : M = []
          · subst h1
            repeat' first |refine s1 ?_|refine gS ?_|refine wT rfl ?_|refine wF rfl ?_|refine wt rfl ?_|refine wf rfl ?_|(refine wC rfl (fun h=>?_) (fun h=>?_)<;>(try contradiction))|((first|refine rd ?_|refine ry [] c0 fun nu _ _=>?_);simp -dsimp (disch:=omega) only[go_sem,hnl, hlN, hoN])|refine e0 (by decide) ?_|(refine zA ?_ ?_;omega)|refine zA (of_eq_true PutAt_put) ?_|refine gT ?_|refine gF ?_|(refine gI (fun h=>?_) (fun h=>?_)<;>(try contradiction)<;>(try refine rd ?_)<;>(try simp -dsimp (disch:=omega) only[go_sem,h,hnl, hlN, hoN]))|refine zX _ (zX _ (zA (zA rfl rfl) ?_)) |fail
            exact ⟨⟨0, .tip t, _⟩, hs1', Env.Sub_of_has (by simp [Env.Has, Env.get, Env.putO, eCfg, hnl]), Store.Sub.refl _⟩
          · have hne : (encL AV.str M = []) = False := by rw [nil_encL]; exact eq_false h1
            rw [hlN] at jt
            repeat' first |refine s1 ?_|refine gS ?_|refine wT rfl ?_|refine wF rfl ?_|refine wt rfl ?_|refine wf rfl ?_|(refine wC rfl (fun h=>?_) (fun h=>?_)<;>(try contradiction))|((first|refine rd ?_|refine ry [] c0 fun nu _ _=>?_);simp -dsimp (disch:=omega) only[go_sem,hlN, hoN, hlM, hoM, hne, jt, hap])|refine e0 (by decide) ?_|(refine zA ?_ ?_;omega)|refine zA (of_eq_true PutAt_put) ?_|refine gT ?_|refine gF ?_|(refine gI (fun h=>?_) (fun h=>?_)<;>(try contradiction)<;>(try refine rd ?_)<;>(try simp -dsimp (disch:=omega) only[go_sem,h,hlN, hoN, hlM, hoM, hne, jt, hap]))|refine zX _ (zX _ (zA (zA rfl rfl) ?_)) |fail
            exact ⟨⟨0, .tip t, _⟩, keep_new hs1' htn, Env.Sub_of_has (by simp [Env.Has, Env.get, Env.putO, eCfg, hap]), Store.Sub.refl _⟩
      clear hs1' ht1 k1 τ1
      rintro ⟨_, k1, τ1⟩ hs1'
      simp only at hs1' ⊢
      obtain ⟨A, hA2⟩ : ∃ A, N ++ M = A := ⟨_, rfl⟩
      have hlA : A.length ≤ 40 := by rw [← hA2, List.length_append]; omega
      rw [hA2] at hNs ⊢
      have hF0 : fdK a b k = A.foldl (stepS (smK a b k)) [] := by rw [fdK, hN, hM, hA2]
      repeat' first |((fail_if_success (first|show W _ _ (Code.seq (Code.region 13 _ _) _) _ _ _|show W _ _ (Code.seq (Code.seq (Code.region 13 _ _) _) _) _ _ _));refine s1 ?_)|refine gS ?_|refine wT rfl ?_|refine wF rfl ?_|refine wt rfl ?_|refine wf rfl ?_|(refine wC rfl (fun h=>?_) (fun h=>?_)<;>(try contradiction))|((fail_if_success (first|show W _ _ (Code.region 13 _ _) _ _ _));(first|refine rd ?_|refine ry [] c0 fun nu _ _=>?_);simp -dsimp (disch:=omega) only[go_sem])|refine e0 (by decide) ?_|(refine zA ?_ ?_;omega)|refine zA (of_eq_true PutAt_put) ?_|refine gT ?_|refine gF ?_|(refine gI (fun h=>?_) (fun h=>?_)<;>(try contradiction)<;>(try refine rd ?_)<;>(try simp -dsimp (disch:=omega) only[go_sem,h]))|refine zX _ (zX _ (zA (zA rfl rfl) ?_)) |fail
      refine W_midE (fun x : WnL => [(2, .ip (eCfg a) 0), (3, .ip (eCfg b) 0), (5, .sl .full wordsD), (6, .sl kw (encL AV.str (wnC a b k))), (7, .int .i64 k), (11, .sl x.kk (encL AV.str (fdK a b k)))]) (fun x => x.τ) (fun x => τ.Sub x.τ) ?_ ?_
      · skip
        repeat' first |refine s1 ?_|refine gS ?_|refine wT rfl ?_|refine wF rfl ?_|refine wt rfl ?_|refine wf rfl ?_|(refine wC rfl (fun h=>?_) (fun h=>?_)<;>(try contradiction))|((first|refine rd ?_|refine ry [] c0 fun nu _ _=>?_);simp -dsimp (disch:=omega) only[go_sem])|refine e0 (by decide) ?_|(refine zA ?_ ?_;omega)|refine zA (of_eq_true PutAt_put) ?_|refine gT ?_|refine gF ?_|(refine gI (fun h=>?_) (fun h=>?_)<;>(try contradiction)<;>(try refine rd ?_)<;>(try simp -dsimp (disch:=omega) only[go_sem,h]))|refine zX _ (zX _ (zA (zA rfl rfl) ?_)) |fail
        refine W_loop_st (fun x : FdL => [(2, .ip (eCfg a) 0), (3, .ip (eCfg b) 0), (5, .sl .full wordsD), (6, .sl kw (encL AV.str (wnC a b k))), (7, .int .i64 k), (8, .sl (kd N) (encL AV.str N)), (9, .sl (kd M) (encL AV.str M)), (10, .sl k1 (encL AV.str A)), (11, .sl x.kk (encL AV.str ((A.take x.i).foldl (stepS (smK a b k)) []))), (12, .int .i64 x.i)]) (fun x => x.τ) (fun x => x.i ≤ A.length ∧ τ1.Sub x.τ ∧ KdOk x.kk ((A.take x.i).foldl (stepS (smK a b k)) [])) (fun x => A.length - x.i) ⟨0, .nil, τ1⟩ ⟨Nat.zero_le _, Store.Sub.refl _, .inl ⟨rfl, rfl⟩⟩ (Env.Sub_of_has (by simp [Env.Has, Env.get, Env.putO, eCfg, encL])) (Store.Sub.refl _) ?_
        rintro ⟨i, kf, τ2⟩ ⟨hi, hs2', hkf⟩
        simp only at hi hs2' hkf ⊢
        by_cases hli : i < A.length
        · obtain ⟨s, hs⟩ : ∃ s, A[i]? = some s := ⟨_, List.getElem?_eq_getElem hli⟩
          have hget : (encL AV.str A).getD i .any = .str s := by rw [encL, List.getD_eq_getElem?_getD, List.getElem?_map, hs]; rfl
          have hsz := hNs s (List.mem_of_getElem? hs)
          have hsu := foldS_succ (smK a b k) hs
          have hFl := foldS_len (smK a b k) (A.take i) []
          rw [List.length_take, List.length_nil] at hFl
          obtain ⟨F, hF⟩ : ∃ F, (A.take i).foldl (stepS (smK a b k)) [] = F := ⟨_, rfl⟩
          rw [hF] at hsu hkf hFl ⊢
          have hFl2 : F.length ≤ 40 := by omega
          have hlF : (encL AV.str F).length = F.length := length_encL _ _
          have f1 : Pure Tryz.prog 14 [.sl (kd N) (encL AV.str N), .str s] (.int .i64 (idxN N s)) := first_spec (kd N) N (by omega) s
          have f2 : Pure Tryz.prog 14 [.sl (kd M) (encL AV.str M), .str s] (.int .i64 (idxN M s)) := first_spec (kd M) M (by omega) s
          have f3 : Pure Tryz.prog 14 [.sl kf (encL AV.str F), .str s] (.int .i64 (idxN F s)) := first_spec kf F (by omega) s
          have him := idx_mem s F
          obtain ⟨z, hz⟩ : ∃ z, idxN F s = z := ⟨_, rfl⟩
          rw [hz] at f3 him
          obtain ⟨bs, hbs⟩ : ∃ x, smK a b k s = x := ⟨_, rfl⟩
          have one1 := one s
          rw [hbs] at one1
          repeat' first |((fail_if_success (first|show W _ _ (Code.seq (Code.region 18 _ _) _) _ _ _|show W _ _ (Code.seq (Code.seq (Code.region 18 _ _) _) _) _ _ _));refine s1 ?_)|refine gS ?_|refine wT rfl ?_|refine wF rfl ?_|refine wt rfl ?_|refine wf rfl ?_|(refine wC rfl (fun h=>?_) (fun h=>?_)<;>(try contradiction))|((fail_if_success (first|show W _ _ (Code.region 18 _ _) _ _ _));(first|refine rd ?_|refine ry [] c0 fun nu _ _=>?_);simp -dsimp (disch:=omega) only[go_sem,hget])|refine e0 (by decide) ?_|(refine zA ?_ ?_;omega)|refine zA (of_eq_true PutAt_put) ?_|refine gT ?_|refine gF ?_|(refine gI (fun h=>?_) (fun h=>?_)<;>(try contradiction)<;>(try refine rd ?_)<;>(try simp -dsimp (disch:=omega) only[go_sem,h,hget]))|refine zX _ (zX _ (zA (zA rfl rfl) ?_)) |refine us (f1) ?_ |refine us (f2) ?_ |fail
          refine W_midE (fun _ : Unit => [(2, .ip (eCfg a) 0), (3, .ip (eCfg b) 0), (5, .sl .full wordsD), (6, .sl kw (encL AV.str (wnC a b k))), (7, .int .i64 k), (8, .sl (kd N) (encL AV.str N)), (9, .sl (kd M) (encL AV.str M)), (10, .sl k1 (encL AV.str A)), (11, .sl kf (encL AV.str F)), (12, .int .i64 i), (13, .str s)]) (fun _ => τ2) (fun _ => bs = false ∧ memB F s = false) ?_ ?_
          · have skip1 : bs = true ∨ memB F s = true → encL AV.str ((A.take (i + 1)).foldl (stepS (smK a b k)) []) = encL AV.str F := fun h => by
              rw [hsu, stepS, hbs, if_pos (by rcases h with h | h <;> simp [h])]
            have skip2 : bs = true ∨ memB F s = true → KdOk kf ((A.take (i + 1)).foldl (stepS (smK a b k)) []) := fun h => by
              rw [hsu, stepS, hbs, if_pos (by rcases h with h | h <;> simp [h])]; exact hkf
            by_cases hz0 : 0 ≤ z
            · have hmem : memB F s = true := by rw [← him]; exact decide_eq_true hz0
              have q1 := skip1 (.inr hmem)
              have q2 := skip2 (.inr hmem)
              rcases one1 with ⟨x, y, oa, ob, g1, g2, o1, o2, o3⟩ | ⟨g1, g2⟩ | ⟨x, g1, g2, g3⟩
              · rw [g1, g2]
                cases bs with
                | true =>
                  repeat' first |refine s1 ?_|refine gS ?_|refine wT rfl ?_|refine wF rfl ?_|refine wt rfl ?_|refine wf rfl ?_|(refine wC rfl (fun h=>?_) (fun h=>?_)<;>(try contradiction))|((first|refine rd ?_|refine ry [] c0 fun nu _ _=>?_);simp -dsimp (disch:=omega) only[go_sem])|refine e0 (by decide) ?_|(refine zA ?_ ?_;omega)|refine zA (of_eq_true PutAt_put) ?_|refine gT ?_|refine gF ?_|(refine gI (fun h=>?_) (fun h=>?_)<;>(try contradiction)<;>(try refine rd ?_)<;>(try simp -dsimp (disch:=omega) only[go_sem,h]))|refine zX _ (zX _ (zA (zA rfl rfl) ?_)) |refine us (f3) ?_ |refine us (o1) ?_ |refine us (o2) ?_ |refine us (o3) ?_ |fail
                  exact ⟨⟨i + 1, kf, τ2⟩, by simp only; omega, ⟨hli, hs2', q2⟩, Env.Sub_of_has (by simp [Env.Has, Env.get, Env.putO, eCfg, q1]), Store.Sub.refl _⟩
                | false =>
                  repeat' first |refine s1 ?_|refine gS ?_|refine wT rfl ?_|refine wF rfl ?_|refine wt rfl ?_|refine wf rfl ?_|(refine wC rfl (fun h=>?_) (fun h=>?_)<;>(try contradiction))|((first|refine rd ?_|refine ry [] c0 fun nu _ _=>?_);simp -dsimp (disch:=omega) only[go_sem])|refine e0 (by decide) ?_|(refine zA ?_ ?_;omega)|refine zA (of_eq_true PutAt_put) ?_|refine gT ?_|refine gF ?_|(refine gI (fun h=>?_) (fun h=>?_)<;>(try contradiction)<;>(try refine rd ?_)<;>(try simp -dsimp (disch:=omega) only[go_sem,h]))|refine zX _ (zX _ (zA (zA rfl rfl) ?_)) |refine us (f3) ?_ |refine us (o1) ?_ |refine us (o2) ?_ |refine us (o3) ?_ |fail
                  exact ⟨⟨i + 1, kf, τ2⟩, by simp only; omega, ⟨hli, hs2', q2⟩, Env.Sub_of_has (by simp [Env.Has, Env.get, Env.putO, eCfg, q1]), Store.Sub.refl _⟩
              · rw [g1]
                repeat' first |refine s1 ?_|refine gS ?_|refine wT rfl ?_|refine wF rfl ?_|refine wt rfl ?_|refine wf rfl ?_|(refine wC rfl (fun h=>?_) (fun h=>?_)<;>(try contradiction))|((first|refine rd ?_|refine ry [] c0 fun nu _ _=>?_);simp -dsimp (disch:=omega) only[go_sem])|refine e0 (by decide) ?_|(refine zA ?_ ?_;omega)|refine zA (of_eq_true PutAt_put) ?_|refine gT ?_|refine gF ?_|(refine gI (fun h=>?_) (fun h=>?_)<;>(try contradiction)<;>(try refine rd ?_)<;>(try simp -dsimp (disch:=omega) only[go_sem,h]))|refine zX _ (zX _ (zA (zA rfl rfl) ?_)) |refine us (f3) ?_ |fail
                exact ⟨⟨i + 1, kf, τ2⟩, by simp only; omega, ⟨hli, hs2', q2⟩, Env.Sub_of_has (by simp [Env.Has, Env.get, Env.putO, eCfg, q1]), Store.Sub.refl _⟩
              · rw [g1, g2]
                repeat' first |refine s1 ?_|refine gS ?_|refine wT rfl ?_|refine wF rfl ?_|refine wt rfl ?_|refine wf rfl ?_|(refine wC rfl (fun h=>?_) (fun h=>?_)<;>(try contradiction))|((first|refine rd ?_|refine ry [] c0 fun nu _ _=>?_);simp -dsimp (disch:=omega) only[go_sem])|refine e0 (by decide) ?_|(refine zA ?_ ?_;omega)|refine zA (of_eq_true PutAt_put) ?_|refine gT ?_|refine gF ?_|(refine gI (fun h=>?_) (fun h=>?_)<;>(try contradiction)<;>(try refine rd ?_)<;>(try simp -dsimp (disch:=omega) only[go_sem,h]))|refine zX _ (zX _ (zA (zA rfl rfl) ?_)) |refine us (f3) ?_ |fail
                exact ⟨⟨i + 1, kf, τ2⟩, by simp only; omega, ⟨hli, hs2', q2⟩, Env.Sub_of_has (by simp [Env.Has, Env.get, Env.putO, eCfg, q1]), Store.Sub.refl _⟩
            · have hmem : memB F s = false := by rw [← him]; exact decide_eq_false hz0
              rcases one1 with ⟨x, y, oa, ob, g1, g2, o1, o2, o3⟩ | ⟨g1, g2⟩ | ⟨x, g1, g2, g3⟩
              · rw [g1, g2]
                cases bs with
                | true =>
                  have q1 := skip1 (.inl rfl)
                  have q2 := skip2 (.inl rfl)
                  repeat' first |refine s1 ?_|refine gS ?_|refine wT rfl ?_|refine wF rfl ?_|refine wt rfl ?_|refine wf rfl ?_|(refine wC rfl (fun h=>?_) (fun h=>?_)<;>(try contradiction))|((first|refine rd ?_|refine ry [] c0 fun nu _ _=>?_);simp -dsimp (disch:=omega) only[go_sem])|refine e0 (by decide) ?_|(refine zA ?_ ?_;omega)|refine zA (of_eq_true PutAt_put) ?_|refine gT ?_|refine gF ?_|(refine gI (fun h=>?_) (fun h=>?_)<;>(try contradiction)<;>(try refine rd ?_)<;>(try simp -dsimp (disch:=omega) only[go_sem,h]))|refine zX _ (zX _ (zA (zA rfl rfl) ?_)) |refine us (f3) ?_ |refine us (o1) ?_ |refine us (o2) ?_ |refine us (o3) ?_ |fail
                  exact ⟨⟨i + 1, kf, τ2⟩, by simp only; omega, ⟨hli, hs2', q2⟩, Env.Sub_of_has (by simp [Env.Has, Env.get, Env.putO, eCfg, q1]), Store.Sub.refl _⟩
                | false =>
                  repeat' first |refine s1 ?_|refine gS ?_|refine wT rfl ?_|refine wF rfl ?_|refine wt rfl ?_|refine wf rfl ?_|(refine wC rfl (fun h=>?_) (fun h=>?_)<;>(try contradiction))|((first|refine rd ?_|refine ry [] c0 fun nu _ _=>?_);simp -dsimp (disch:=omega) only[go_sem])|refine e0 (by decide) ?_|(refine zA ?_ ?_;omega)|refine zA (of_eq_true PutAt_put) ?_|refine gT ?_|refine gF ?_|(refine gI (fun h=>?_) (fun h=>?_)<;>(try contradiction)<;>(try refine rd ?_)<;>(try simp -dsimp (disch:=omega) only[go_sem,h]))|refine zX _ (zX _ (zA (zA rfl rfl) ?_)) |refine us (f3) ?_ |refine us (o1) ?_ |refine us (o2) ?_ |refine us (o3) ?_ |fail
                  exact ⟨(), ⟨rfl, hmem⟩, Env.Sub_of_has (by simp [Env.Has, Env.get, Env.putO, eCfg]), Store.Sub.refl _⟩
              · rw [g1]
                repeat' first |refine s1 ?_|refine gS ?_|refine wT rfl ?_|refine wF rfl ?_|refine wt rfl ?_|refine wf rfl ?_|(refine wC rfl (fun h=>?_) (fun h=>?_)<;>(try contradiction))|((first|refine rd ?_|refine ry [] c0 fun nu _ _=>?_);simp -dsimp (disch:=omega) only[go_sem])|refine e0 (by decide) ?_|(refine zA ?_ ?_;omega)|refine zA (of_eq_true PutAt_put) ?_|refine gT ?_|refine gF ?_|(refine gI (fun h=>?_) (fun h=>?_)<;>(try contradiction)<;>(try refine rd ?_)<;>(try simp -dsimp (disch:=omega) only[go_sem,h]))|refine zX _ (zX _ (zA (zA rfl rfl) ?_)) |refine us (f3) ?_ |fail
                exact ⟨(), ⟨g2, hmem⟩, Env.Sub_of_has (by simp [Env.Has, Env.get, Env.putO, eCfg]), Store.Sub.refl _⟩
              · rw [g1, g2]
                repeat' first |refine s1 ?_|refine gS ?_|refine wT rfl ?_|refine wF rfl ?_|refine wt rfl ?_|refine wf rfl ?_|(refine wC rfl (fun h=>?_) (fun h=>?_)<;>(try contradiction))|((first|refine rd ?_|refine ry [] c0 fun nu _ _=>?_);simp -dsimp (disch:=omega) only[go_sem])|refine e0 (by decide) ?_|(refine zA ?_ ?_;omega)|refine zA (of_eq_true PutAt_put) ?_|refine gT ?_|refine gF ?_|(refine gI (fun h=>?_) (fun h=>?_)<;>(try contradiction)<;>(try refine rd ?_)<;>(try simp -dsimp (disch:=omega) only[go_sem,h]))|refine zX _ (zX _ (zA (zA rfl rfl) ?_)) |refine us (f3) ?_ |fail
                exact ⟨(), ⟨g3, hmem⟩, Env.Sub_of_has (by simp [Env.Has, Env.get, Env.putO, eCfg]), Store.Sub.refl _⟩
          rintro _ ⟨hb0, hm0⟩
          rw [stepS, hbs, hb0, hm0, if_neg (by simp)] at hsu
          have hpl := posS_le s F
          have hins : encL AV.str (insS F s) = (encL AV.str (F.take (posS s F)) ++ [.str s]) ++ encL AV.str (F.drop (posS s F)) := by simp [insS, encL]
          refine W_midE (fun _ : Unit => [(2, .ip (eCfg a) 0), (3, .ip (eCfg b) 0), (5, .sl .full wordsD), (6, .sl kw (encL AV.str (wnC a b k))), (7, .int .i64 k), (8, .sl (kd N) (encL AV.str N)), (9, .sl (kd M) (encL AV.str M)), (10, .sl k1 (encL AV.str A)), (11, .sl kf (encL AV.str F)), (12, .int .i64 i), (13, .str s), (16, .int .i64 0)]) (fun _ => τ2) (fun _ => True) ?_ ?_
          · skip
            repeat' first |refine s1 ?_|refine gS ?_|refine wT rfl ?_|refine wF rfl ?_|refine wt rfl ?_|refine wf rfl ?_|(refine wC rfl (fun h=>?_) (fun h=>?_)<;>(try contradiction))|((first|refine rd ?_|refine ry [] c0 fun nu _ _=>?_);simp -dsimp (disch:=omega) only[go_sem])|refine e0 (by decide) ?_|(refine zA ?_ ?_;omega)|refine zA (of_eq_true PutAt_put) ?_|refine gT ?_|refine gF ?_|(refine gI (fun h=>?_) (fun h=>?_)<;>(try contradiction)<;>(try refine rd ?_)<;>(try simp -dsimp (disch:=omega) only[go_sem,h]))|refine zX _ (zX _ (zA (zA rfl rfl) ?_)) |fail
            exact ⟨(), trivial, Env.Sub_of_has (by simp [Env.Has, Env.get, Env.putO, eCfg]), Store.Sub.refl _⟩
          rintro _ _
          refine W_midE (fun _ : Unit => [(2, .ip (eCfg a) 0), (3, .ip (eCfg b) 0), (5, .sl .full wordsD), (6, .sl kw (encL AV.str (wnC a b k))), (7, .int .i64 k), (8, .sl (kd N) (encL AV.str N)), (9, .sl (kd M) (encL AV.str M)), (10, .sl k1 (encL AV.str A)), (11, .sl kf (encL AV.str F)), (12, .int .i64 i), (13, .str s), (16, .int .i64 (posS s F))]) (fun _ => τ2) (fun _ => True) ?_ ?_
          · skip
            repeat' first |refine s1 ?_|refine gS ?_|refine wT rfl ?_|refine wF rfl ?_|refine wt rfl ?_|refine wf rfl ?_|(refine wC rfl (fun h=>?_) (fun h=>?_)<;>(try contradiction))|((first|refine rd ?_|refine ry [] c0 fun nu _ _=>?_);simp -dsimp (disch:=omega) only[go_sem])|refine e0 (by decide) ?_|(refine zA ?_ ?_;omega)|refine zA (of_eq_true PutAt_put) ?_|refine gT ?_|refine gF ?_|(refine gI (fun h=>?_) (fun h=>?_)<;>(try contradiction)<;>(try refine rd ?_)<;>(try simp -dsimp (disch:=omega) only[go_sem,h]))|refine zX _ (zX _ (zA (zA rfl rfl) ?_)) |fail
            refine W_loop_st (fun j : Nat => [(2, .ip (eCfg a) 0), (3, .ip (eCfg b) 0), (5, .sl .full wordsD), (6, .sl kw (encL AV.str (wnC a b k))), (7, .int .i64 k), (8, .sl (kd N) (encL AV.str N)), (9, .sl (kd M) (encL AV.str M)), (10, .sl k1 (encL AV.str A)), (11, .sl kf (encL AV.str F)), (12, .int .i64 i), (13, .str s), (16, .int .i64 j)]) (fun _ => τ2) (fun j => j ≤ posS s F) (fun j => F.length - j) 0 (Nat.zero_le _) (Env.Sub_of_has (by simp [Env.Has, Env.get, Env.putO, eCfg])) (Store.Sub.refl _) ?_
            intro j hj
            by_cases hjl : j < F.length
            · obtain ⟨y, hy⟩ : ∃ y, F.getD j default = y := ⟨_, rfl⟩
              have hgy : (encL AV.str F).getD j .any = .str y := by rw [← hy]; exact getD_encL AV.str hjl
              obtain ⟨c, hc⟩ : ∃ c, Op.bytesLess y.toList s.toList = c := ⟨_, rfl⟩
              cases c with
              | true =>
                have hj2 : j < posS s F := by
                  rcases Nat.lt_or_ge j (posS s F) with h | h
                  · exact h
                  · have e : j = posS s F := by omega
                    have := posS_stop s F (by omega)
                    rw [← e, hy, ltB, hc] at this; cases this
                repeat' first |refine s1 ?_|refine gS ?_|refine wT rfl ?_|refine wF rfl ?_|refine wt rfl ?_|refine wf rfl ?_|(refine wC rfl (fun h=>?_) (fun h=>?_)<;>(try contradiction))|((first|refine rd ?_|refine ry [] c0 fun nu _ _=>?_);simp -dsimp (disch:=omega) only[go_sem,hlF, hgy, hc])|refine e0 (by decide) ?_|(refine zA ?_ ?_;omega)|refine zA (of_eq_true PutAt_put) ?_|refine gT ?_|refine gF ?_|(refine gI (fun h=>?_) (fun h=>?_)<;>(try contradiction)<;>(try refine rd ?_)<;>(try simp -dsimp (disch:=omega) only[go_sem,h,hlF, hgy, hc]))|refine zX _ (zX _ (zA (zA rfl rfl) ?_)) |fail
                exact ⟨j + 1, by omega, hj2, Env.Sub_of_has (by simp [Env.Has, Env.get, Env.putO, eCfg]), Store.Sub.refl _⟩
              | false =>
                have hj2 : j = posS s F := by
                  rcases Nat.lt_or_ge j (posS s F) with h | h
                  · have := posS_at s F j h
                    rw [hy, ltB, hc] at this; cases this
                  · omega
                subst hj2
                repeat' first |refine s1 ?_|refine gS ?_|refine wT rfl ?_|refine wF rfl ?_|refine wt rfl ?_|refine wf rfl ?_|(refine wC rfl (fun h=>?_) (fun h=>?_)<;>(try contradiction))|((first|refine rd ?_|refine ry [] c0 fun nu _ _=>?_);simp -dsimp (disch:=omega) only[go_sem,hlF, hgy, hc])|refine e0 (by decide) ?_|(refine zA ?_ ?_;omega)|refine zA (of_eq_true PutAt_put) ?_|refine gT ?_|refine gF ?_|(refine gI (fun h=>?_) (fun h=>?_)<;>(try contradiction)<;>(try refine rd ?_)<;>(try simp -dsimp (disch:=omega) only[go_sem,h,hlF, hgy, hc]))|refine zX _ (zX _ (zA (zA rfl rfl) ?_)) |fail
                exact ⟨(), trivial, Env.Sub_of_has (by simp [Env.Has, Env.get, Env.putO, eCfg]), Store.Sub.refl _⟩
            · have hj2 : j = posS s F := by omega
              subst hj2
              repeat' first |refine s1 ?_|refine gS ?_|refine wT rfl ?_|refine wF rfl ?_|refine wt rfl ?_|refine wf rfl ?_|(refine wC rfl (fun h=>?_) (fun h=>?_)<;>(try contradiction))|((first|refine rd ?_|refine ry [] c0 fun nu _ _=>?_);simp -dsimp (disch:=omega) only[go_sem,hlF])|refine e0 (by decide) ?_|(refine zA ?_ ?_;omega)|refine zA (of_eq_true PutAt_put) ?_|refine gT ?_|refine gF ?_|(refine gI (fun h=>?_) (fun h=>?_)<;>(try contradiction)<;>(try refine rd ?_)<;>(try simp -dsimp (disch:=omega) only[go_sem,h,hlF]))|refine zX _ (zX _ (zA (zA rfl rfl) ?_)) |fail
              exact ⟨(), trivial, Env.Sub_of_has (by simp [Env.Has, Env.get, Env.putO, eCfg]), Store.Sub.refl _⟩
          rintro _ _
          obtain ⟨P, hP⟩ : ∃ P, posS s F = P := ⟨_, rfl⟩
          rw [hP] at hpl hins ⊢
          obtain ⟨T, hT⟩ : ∃ T, F.take P = T := ⟨_, rfl⟩
          obtain ⟨D, hD⟩ : ∃ D, F.drop P = D := ⟨_, rfl⟩
          have hTl : T.length ≤ 40 := by rw [← hT, List.length_take]; omega
          have hDl : D.length ≤ 40 := by rw [← hD, List.length_drop]; omega
          have hlT : (encL AV.str T).length = T.length := length_encL _ _
          have hlD : (encL AV.str D).length = D.length := length_encL _ _
          have hoT : rowsOk 1 (encL AV.str T) = true := ok_encL 1 AV.str (fun _ => rfl) _
          have hoD : rowsOk 1 (encL AV.str D) = true := ok_encL 1 AV.str (fun _ => rfl) _
          have hoF : rowsOk 1 (encL AV.str F) = true := ok_encL 1 AV.str (fun _ => rfl) _
          rw [hT, hD] at hins
          rw [← hsu] at hins
          rcases hkf with ⟨rfl, rfl⟩ | ⟨t0, rfl⟩
          · have e1 : T = [] := by rw [← hT]; simp
            have e2 : D = [] := by rw [← hD]; simp
            have e3 : P = 0 := by simpa using hpl
            subst e1; subst e2; subst e3
            rw [hnl] at hins
            repeat' first |refine s1 ?_|refine gS ?_|refine wT rfl ?_|refine wF rfl ?_|refine wt rfl ?_|refine wf rfl ?_|(refine wC rfl (fun h=>?_) (fun h=>?_)<;>(try contradiction))|((first|refine rd ?_|refine ry [] c0 fun nu _ _=>?_);simp -dsimp (disch:=omega) only[go_sem,hnl])|refine e0 (by decide) ?_|(refine zA ?_ ?_;omega)|refine zA (of_eq_true PutAt_put) ?_|refine gT ?_|refine gF ?_|(refine gI (fun h=>?_) (fun h=>?_)<;>(try contradiction)<;>(try refine rd ?_)<;>(try simp -dsimp (disch:=omega) only[go_sem,h,hnl]))|refine zX _ (zX _ (zA (zA rfl rfl) ?_)) |fail
            intro t ht
            repeat' first |refine s1 ?_|refine gS ?_|refine wT rfl ?_|refine wF rfl ?_|refine wt rfl ?_|refine wf rfl ?_|(refine wC rfl (fun h=>?_) (fun h=>?_)<;>(try contradiction))|((first|refine rd ?_|refine ry [] c0 fun nu _ _=>?_);simp -dsimp (disch:=omega) only[go_sem])|refine e0 (by decide) ?_|(refine zA ?_ ?_;omega)|refine zA (of_eq_true PutAt_put) ?_|refine gT ?_|refine gF ?_|(refine gI (fun h=>?_) (fun h=>?_)<;>(try contradiction)<;>(try refine rd ?_)<;>(try simp -dsimp (disch:=omega) only[go_sem,h]))|refine zX _ (zX _ (zA (zA rfl rfl) ?_)) |fail
            exact ⟨⟨i + 1, .tip t, _⟩, by simp only; omega, ⟨hli, keep_new hs2' (none_of hs2' ht), .inr ⟨t, rfl⟩⟩, Env.Sub_of_has (by simp [Env.Has, Env.get, Env.putO, eCfg, hins]), Store.Sub.refl _⟩
          by_cases c1 : T = []
          · rw [c1, hnl] at hins
            rw [c1] at hT
            by_cases c2 : D = []
            · rw [c2, hnl] at hins
              rw [c2] at hD
              repeat' first |refine s1 ?_|refine gS ?_|refine wT rfl ?_|refine wF rfl ?_|refine wt rfl ?_|refine wf rfl ?_|(refine wC rfl (fun h=>?_) (fun h=>?_)<;>(try contradiction))|((first|refine rd ?_|refine ry [] c0 fun nu _ _=>?_);simp -dsimp (disch:=omega) only[go_sem,hlF, hoF, take_encL, drop_encL, List.take_length, hT, hD, hnl])|refine e0 (by decide) ?_|(refine zA ?_ ?_;omega)|refine zA (of_eq_true PutAt_put) ?_|refine gT ?_|refine gF ?_|(refine gI (fun h=>?_) (fun h=>?_)<;>(try contradiction)<;>(try refine rd ?_)<;>(try simp -dsimp (disch:=omega) only[go_sem,h,hlF, hoF, take_encL, drop_encL, List.take_length, hT, hD, hnl]))|refine zX _ (zX _ (zA (zA rfl rfl) ?_)) |fail
              intro t ht
              repeat' first |refine s1 ?_|refine gS ?_|refine wT rfl ?_|refine wF rfl ?_|refine wt rfl ?_|refine wf rfl ?_|(refine wC rfl (fun h=>?_) (fun h=>?_)<;>(try contradiction))|((first|refine rd ?_|refine ry [] c0 fun nu _ _=>?_);simp -dsimp (disch:=omega) only[go_sem,hlF, hoF, take_encL, drop_encL, List.take_length, hT, hD, hnl])|refine e0 (by decide) ?_|(refine zA ?_ ?_;omega)|refine zA (of_eq_true PutAt_put) ?_|refine gT ?_|refine gF ?_|(refine gI (fun h=>?_) (fun h=>?_)<;>(try contradiction)<;>(try refine rd ?_)<;>(try simp -dsimp (disch:=omega) only[go_sem,h,hlF, hoF, take_encL, drop_encL, List.take_length, hT, hD, hnl]))|refine zX _ (zX _ (zA (zA rfl rfl) ?_)) |fail
              exact ⟨⟨i + 1, .tip t, _⟩, by simp only; omega, ⟨hli, keep_new hs2' (none_of hs2' ht), .inr ⟨t, rfl⟩⟩, Env.Sub_of_has (by simp [Env.Has, Env.get, Env.putO, eCfg, hins]), Store.Sub.refl _⟩
            · have hnD : (encL AV.str D = []) = False := by rw [nil_encL]; exact eq_false c2
              repeat' first |refine s1 ?_|refine gS ?_|refine wT rfl ?_|refine wF rfl ?_|refine wt rfl ?_|refine wf rfl ?_|(refine wC rfl (fun h=>?_) (fun h=>?_)<;>(try contradiction))|((first|refine rd ?_|refine ry [] c0 fun nu _ _=>?_);simp -dsimp (disch:=omega) only[go_sem,hlF, hoF, take_encL, drop_encL, List.take_length, hT, hD, hnl])|refine e0 (by decide) ?_|(refine zA ?_ ?_;omega)|refine zA (of_eq_true PutAt_put) ?_|refine gT ?_|refine gF ?_|(refine gI (fun h=>?_) (fun h=>?_)<;>(try contradiction)<;>(try refine rd ?_)<;>(try simp -dsimp (disch:=omega) only[go_sem,h,hlF, hoF, take_encL, drop_encL, List.take_length, hT, hD, hnl]))|refine zX _ (zX _ (zA (zA rfl rfl) ?_)) |fail
              intro t ht
              repeat' first |refine s1 ?_|refine gS ?_|refine wT rfl ?_|refine wF rfl ?_|refine wt rfl ?_|refine wf rfl ?_|(refine wC rfl (fun h=>?_) (fun h=>?_)<;>(try contradiction))|((first|refine rd ?_|refine ry [] c0 fun nu _ _=>?_);simp -dsimp (disch:=omega) only[go_sem,hlF, hoF, take_encL, drop_encL, List.take_length, hT, hD, hnl, hlD, hoD, hnD])|refine e0 (by decide) ?_|(refine zA ?_ ?_;omega)|refine zA (of_eq_true PutAt_put) ?_|refine gT ?_|refine gF ?_|(refine gI (fun h=>?_) (fun h=>?_)<;>(try contradiction)<;>(try refine rd ?_)<;>(try simp -dsimp (disch:=omega) only[go_sem,h,hlF, hoF, take_encL, drop_encL, List.take_length, hT, hD, hnl, hlD, hoD, hnD]))|refine zX _ (zX _ (zA (zA rfl rfl) ?_)) |fail
              exact ⟨⟨i + 1, .tip t, _⟩, by simp only; omega, ⟨hli, keep_new hs2' (none_of hs2' ht), .inr ⟨t, rfl⟩⟩, Env.Sub_of_has (by simp [Env.Has, Env.get, Env.putO, eCfg, hins]), Store.Sub.refl _⟩
          · have hnT : (encL AV.str T = []) = False := by rw [nil_encL]; exact eq_false c1
            by_cases c2 : D = []
            · rw [c2, hnl] at hins
              rw [c2] at hD
              repeat' first |refine s1 ?_|refine gS ?_|refine wT rfl ?_|refine wF rfl ?_|refine wt rfl ?_|refine wf rfl ?_|(refine wC rfl (fun h=>?_) (fun h=>?_)<;>(try contradiction))|((first|refine rd ?_|refine ry [] c0 fun nu _ _=>?_);simp -dsimp (disch:=omega) only[go_sem,hlF, hoF, take_encL, drop_encL, List.take_length, hT, hD, hnl, hlT, hoT, hnT, List.length_append, List.length_cons, List.length_nil])|refine e0 (by decide) ?_|(refine zA ?_ ?_;omega)|refine zA (of_eq_true PutAt_put) ?_|refine gT ?_|refine gF ?_|(refine gI (fun h=>?_) (fun h=>?_)<;>(try contradiction)<;>(try refine rd ?_)<;>(try simp -dsimp (disch:=omega) only[go_sem,h,hlF, hoF, take_encL, drop_encL, List.take_length, hT, hD, hnl, hlT, hoT, hnT, List.length_append, List.length_cons, List.length_nil]))|refine zX _ (zX _ (zA (zA rfl rfl) ?_)) |fail
              intro t ht
              repeat' first |refine s1 ?_|refine gS ?_|refine wT rfl ?_|refine wF rfl ?_|refine wt rfl ?_|refine wf rfl ?_|(refine wC rfl (fun h=>?_) (fun h=>?_)<;>(try contradiction))|((first|refine rd ?_|refine ry [] c0 fun nu _ _=>?_);simp -dsimp (disch:=omega) only[go_sem,hlF, hoF, take_encL, drop_encL, List.take_length, hT, hD, hnl, hlT, hoT, hnT, List.length_append, List.length_cons, List.length_nil])|refine e0 (by decide) ?_|(refine zA ?_ ?_;omega)|refine zA (of_eq_true PutAt_put) ?_|refine gT ?_|refine gF ?_|(refine gI (fun h=>?_) (fun h=>?_)<;>(try contradiction)<;>(try refine rd ?_)<;>(try simp -dsimp (disch:=omega) only[go_sem,h,hlF, hoF, take_encL, drop_encL, List.take_length, hT, hD, hnl, hlT, hoT, hnT, List.length_append, List.length_cons, List.length_nil]))|refine zX _ (zX _ (zA (zA rfl rfl) ?_)) |fail
              exact ⟨⟨i + 1, .tip t, _⟩, by simp only; omega, ⟨hli, keep_new hs2' (none_of hs2' ht), .inr ⟨t, rfl⟩⟩, Env.Sub_of_has (by simp [Env.Has, Env.get, Env.putO, eCfg, hins]), Store.Sub.refl _⟩
            · have hnD : (encL AV.str D = []) = False := by rw [nil_encL]; exact eq_false c2
              repeat' first |refine s1 ?_|refine gS ?_|refine wT rfl ?_|refine wF rfl ?_|refine wt rfl ?_|refine wf rfl ?_|(refine wC rfl (fun h=>?_) (fun h=>?_)<;>(try contradiction))|((first|refine rd ?_|refine ry [] c0 fun nu _ _=>?_);simp -dsimp (disch:=omega) only[go_sem,hlF, hoF, take_encL, drop_encL, List.take_length, hT, hD, hnl, hlT, hoT, hnT, List.length_append, List.length_cons, List.length_nil])|refine e0 (by decide) ?_|(refine zA ?_ ?_;omega)|refine zA (of_eq_true PutAt_put) ?_|refine gT ?_|refine gF ?_|(refine gI (fun h=>?_) (fun h=>?_)<;>(try contradiction)<;>(try refine rd ?_)<;>(try simp -dsimp (disch:=omega) only[go_sem,h,hlF, hoF, take_encL, drop_encL, List.take_length, hT, hD, hnl, hlT, hoT, hnT, List.length_append, List.length_cons, List.length_nil]))|refine zX _ (zX _ (zA (zA rfl rfl) ?_)) |fail
              intro t ht
              repeat' first |refine s1 ?_|refine gS ?_|refine wT rfl ?_|refine wF rfl ?_|refine wt rfl ?_|refine wf rfl ?_|(refine wC rfl (fun h=>?_) (fun h=>?_)<;>(try contradiction))|((first|refine rd ?_|refine ry [] c0 fun nu _ _=>?_);simp -dsimp (disch:=omega) only[go_sem,hlF, hoF, take_encL, drop_encL, List.take_length, hT, hD, hnl, hlT, hoT, hnT, hlD, hoD, hnD, List.length_append, List.length_cons, List.length_nil])|refine e0 (by decide) ?_|(refine zA ?_ ?_;omega)|refine zA (of_eq_true PutAt_put) ?_|refine gT ?_|refine gF ?_|(refine gI (fun h=>?_) (fun h=>?_)<;>(try contradiction)<;>(try refine rd ?_)<;>(try simp -dsimp (disch:=omega) only[go_sem,h,hlF, hoF, take_encL, drop_encL, List.take_length, hT, hD, hnl, hlT, hoT, hnT, hlD, hoD, hnD, List.length_append, List.length_cons, List.length_nil]))|refine zX _ (zX _ (zA (zA rfl rfl) ?_)) |fail
              exact ⟨⟨i + 1, .tip t, _⟩, by simp only; omega, ⟨hli, keep_new hs2' (none_of hs2' ht), .inr ⟨t, rfl⟩⟩, Env.Sub_of_has (by simp [Env.Has, Env.get, Env.putO, eCfg, hins]), Store.Sub.refl _⟩
        · have hi' : i = A.length := by omega
          subst hi'
          rw [List.take_length, ← hF0]
          repeat' first |refine s1 ?_|refine gS ?_|refine wT rfl ?_|refine wF rfl ?_|refine wt rfl ?_|refine wf rfl ?_|(refine wC rfl (fun h=>?_) (fun h=>?_)<;>(try contradiction))|((first|refine rd ?_|refine ry [] c0 fun nu _ _=>?_);simp -dsimp (disch:=omega) only[go_sem])|refine e0 (by decide) ?_|(refine zA ?_ ?_;omega)|refine zA (of_eq_true PutAt_put) ?_|refine gT ?_|refine gF ?_|(refine gI (fun h=>?_) (fun h=>?_)<;>(try contradiction)<;>(try refine rd ?_)<;>(try simp -dsimp (disch:=omega) only[go_sem,h]))|refine zX _ (zX _ (zA (zA rfl rfl) ?_)) |fail
          exact ⟨⟨0, kf, τ2⟩, fun o x h => hs2' _ _ (hs1' _ _ h), Env.Sub_of_has (by simp [Env.Has, Env.get, Env.putO, eCfg]), Store.Sub.refl _⟩
      rintro ⟨_, k2, τ2⟩ hs2'
      simp only at hs2' ⊢
      have hsu2 : σ.Sub τ2 := fun o x h => hs2' _ _ (hsub _ _ h)
      have htip2 : TipD σ τ2 kw (encL AV.str (wnR a b k 0)) := by
        rw [wnR_zero]
        rcases htip with h | ⟨t, h1, h2, h3, h4⟩
        · exact .inl h
        · exact .inr ⟨t, h1, hs2' _ _ h2, h3, h4⟩
      have hww := wordsD_at hlt
      have hwz := wdK_size hlt
      have hw3 : wordsD.length = 3 := rfl
      have hlFd : (encL AV.str (fdK a b k)).length = (fdK a b k).length := length_encL _ _
      repeat' first |refine s1 ?_|refine gS ?_|refine wT rfl ?_|refine wF rfl ?_|refine wt rfl ?_|refine wf rfl ?_|(refine wC rfl (fun h=>?_) (fun h=>?_)<;>(try contradiction))|((first|refine rd ?_|refine ry [] c0 fun nu _ _=>?_);simp -dsimp (disch:=omega) only[go_sem])|refine e0 (by decide) ?_|(refine zA ?_ ?_;omega)|refine zA (of_eq_true PutAt_put) ?_|refine gT ?_|refine gF ?_|(refine gI (fun h=>?_) (fun h=>?_)<;>(try contradiction)<;>(try refine rd ?_)<;>(try simp -dsimp (disch:=omega) only[go_sem,h]))|refine zX _ (zX _ (zA (zA rfl rfl) ?_)) |fail
      refine W_loop_st (fun x : FdL => [(2, .ip (eCfg a) 0), (3, .ip (eCfg b) 0), (5, .sl .full wordsD), (7, .int .i64 k), (11, .sl k2 (encL AV.str (fdK a b k))), (6, .sl x.kk (encL AV.str (wnR a b k x.i))), (18, .int .i64 x.i)]) (fun x => x.τ) (fun x => x.i ≤ (fdK a b k).length ∧ σ.Sub x.τ ∧ TipD σ x.τ x.kk (encL AV.str (wnR a b k x.i))) (fun x => (fdK a b k).length - x.i) ⟨0, kw, τ2⟩ ⟨Nat.zero_le _, hsu2, htip2⟩ (Env.Sub_of_has (by simp [Env.Has, Env.get, Env.putO, eCfg, wnR_zero])) (Store.Sub.refl _) ?_
      rintro ⟨i, k5, τ5⟩ ⟨hi, hs5, ht5⟩
      simp only at hi hs5 ht5 ⊢
      by_cases hli : i < (fdK a b k).length
      · obtain ⟨s, hs⟩ : ∃ s, (fdK a b k)[i]? = some s := ⟨_, List.getElem?_eq_getElem hli⟩
        have hget : (encL AV.str (fdK a b k)).getD i .any = .str s := by rw [encL, List.getD_eq_getElem?_getD, List.getElem?_map, hs]; rfl
        have hsz := hfz s (List.mem_of_getElem? hs)
        have hsu := wnR_succ a b hs
        have hsl := congrArg List.length hsu
        have hoR : rowsOk 1 (encL AV.str (wnR a b k i)) = true := ok_encL 1 AV.str (fun _ => rfl) _
        have hlR : (wnR a b k i).length ≤ 200 := by
          rw [wnR, List.length_append, List.length_map, List.length_take]; omega
        rcases ht5 with ⟨rfl, hz⟩ | ⟨t, rfl, jt, htn, hz⟩
        · rw [hz] at hsu hsl ⊢
          repeat' first |refine s1 ?_|refine gS ?_|refine wT rfl ?_|refine wF rfl ?_|refine wt rfl ?_|refine wf rfl ?_|(refine wC rfl (fun h=>?_) (fun h=>?_)<;>(try contradiction))|((first|refine rd ?_|refine ry (id:=29) [] (cw [] [11] [] [11] []) fun nu _ _=>?_|refine ry [] c0 fun nu _ _=>?_);simp -dsimp (disch:=omega) only[go_sem,hget, hww, hw3, hlFd])|refine e0 (by decide) ?_|(refine zA ?_ ?_;omega)|refine zA (of_eq_true PutAt_put) ?_|refine gT ?_|refine gF ?_|(refine gI (fun h=>?_) (fun h=>?_)<;>(try contradiction)<;>(try refine rd ?_)<;>(try simp -dsimp (disch:=omega) only[go_sem,h,hget, hww, hw3, hlFd]))|refine zX _ (zX _ (zA (zA rfl rfl) ?_)) |fail
          rename_i hn1 hn2
          have hnu : τ5 (nu 11) = none := hn1 11 (by decide)
          exact ⟨⟨i + 1, .tip (nu 11), _⟩, by simp only; omega, ⟨hli, keep_new hs5 (none_of hs5 hnu), .inr ⟨nu 11, rfl, by simp only; rw [← hsl]; exact put_same _ _ _, none_of hs5 hnu, fun e => by simp only at e; rw [← hsu] at e; simp at e⟩⟩, Env.Sub_of_has (by simp [Env.Has, Env.get, Env.putO, eCfg, ← hsu]), Store.Sub.refl _⟩
        · skip
          repeat' first |refine s1 ?_|refine gS ?_|refine wT rfl ?_|refine wF rfl ?_|refine wt rfl ?_|refine wf rfl ?_|(refine wC rfl (fun h=>?_) (fun h=>?_)<;>(try contradiction))|((first|refine rd ?_|refine ry (id:=29) [] (cw [] [11] [] [] []) fun nu _ _=>?_|refine ry [] c0 fun nu _ _=>?_);simp -dsimp (disch:=omega) only[go_sem,hget, hww, hw3, hlFd, hoR, jt])|refine e0 (by decide) ?_|(refine zA ?_ ?_;omega)|refine zA (of_eq_true PutAt_put) ?_|refine gT ?_|refine gF ?_|(refine gI (fun h=>?_) (fun h=>?_)<;>(try contradiction)<;>(try refine rd ?_)<;>(try simp -dsimp (disch:=omega) only[go_sem,h,hget, hww, hw3, hlFd, hoR, jt]))|refine zX _ (zX _ (zA (zA rfl rfl) ?_)) |fail
          exact ⟨⟨i + 1, .tip t, τ5.put t (.tip (encL AV.str (wnR a b k (i + 1))).length 9 1)⟩, by simp only; omega, ⟨hli, keep_new hs5 htn, .inr ⟨t, rfl, put_same _ _ _, htn, fun e => by simp only at e; rw [← hsu] at e; simp at e⟩⟩, Env.Sub_of_has (by simp [Env.Has, Env.get, Env.putO, eCfg, ← hsu]), by rw [← hsl]; simp only [List.length_append, List.length_cons, List.length_nil]; exact Store.Sub.refl _⟩
      · have hi' : i = (fdK a b k).length := by omega
        subst hi'
        rw [wnR_all] at ht5 ⊢
        repeat' first |refine s1 ?_|refine gS ?_|refine wT rfl ?_|refine wF rfl ?_|refine wt rfl ?_|refine wf rfl ?_|(refine wC rfl (fun h=>?_) (fun h=>?_)<;>(try contradiction))|((first|refine rd ?_|refine ry [] c0 fun nu _ _=>?_);simp -dsimp (disch:=omega) only[go_sem,hlFd])|refine e0 (by decide) ?_|(refine zA ?_ ?_;omega)|refine zA (of_eq_true PutAt_put) ?_|refine gT ?_|refine gF ?_|(refine gI (fun h=>?_) (fun h=>?_)<;>(try contradiction)<;>(try refine rd ?_)<;>(try simp -dsimp (disch:=omega) only[go_sem,h,hlFd]))|refine zX _ (zX _ (zA (zA rfl rfl) ?_)) |fail
        exact ⟨⟨k + 1, k5, τ5⟩, by simp only; omega, ⟨hlt, hs5, ht5⟩, Env.Sub_of_has (by simp [Env.Has, Env.get, Env.putO, eCfg]), Store.Sub.refl _⟩
    · have hk' : k = 3 := by omega
      subst hk'
      rw [wnC_all]
      repeat' first |refine s1 ?_|refine gS ?_|refine wT rfl ?_|refine wF rfl ?_|refine wt rfl ?_|refine wf rfl ?_|(refine wC rfl (fun h=>?_) (fun h=>?_)<;>(try contradiction))|((first|refine rd ?_|refine ry [] c0 fun nu _ _=>?_);simp -dsimp (disch:=omega) only[go_sem])|refine e0 (by decide) ?_|(refine zA ?_ ?_;omega)|refine zA (of_eq_true PutAt_put) ?_|refine gT ?_|refine gF ?_|(refine gI (fun h=>?_) (fun h=>?_)<;>(try contradiction)<;>(try refine rd ?_)<;>(try simp -dsimp (disch:=omega) only[go_sem,h]))|refine zX _ (zX _ (zA (zA rfl rfl) ?_)) |fail
      exact ⟨⟨0, kw, τ⟩, hsub, Env.Sub_of_has (by simp [Env.Has, Env.get, Env.putO, eCfg]), Store.Sub.refl _⟩
  rintro ⟨_, kw, τ⟩ hsub
  simp only at hsub ⊢
  obtain ⟨L, hL⟩ : ∃ L, difC a b = L := ⟨_, rfl⟩
  have hLl : L.length ≤ 200 := by
    have := wnC_len hA hB 3
    rw [wnC_all, hL] at this; omega
  rw [hL] at hAB ⊢
  have hlL : (encL AV.str L).length = L.length := length_encL _ _
  obtain ⟨bq, hbq⟩ : ∃ c, qCfg a b = c := ⟨_, rfl⟩
  rw [hbq] at hs1 hs2
  refine W_midE (fun _ : Unit => [(2, .ip (eCfg a) 0), (3, .ip (eCfg b) 0), (6, .sl kw (encL AV.str L)), (19, .sl (kd L) (encL AV.str L))]) (fun _ => τ) (fun _ => True) ?_ ?_
  · skip
    repeat' first |refine s1 ?_|refine gS ?_|refine wT rfl ?_|refine wF rfl ?_|refine wt rfl ?_|refine wf rfl ?_|(refine wC rfl (fun h=>?_) (fun h=>?_)<;>(try contradiction))|((first|refine rd ?_|refine ry [] c0 fun nu _ _=>?_);simp -dsimp (disch:=omega) only[go_sem])|refine e0 (by decide) ?_|(refine zA ?_ ?_;omega)|refine zA (of_eq_true PutAt_put) ?_|refine gT ?_|refine gF ?_|(refine gI (fun h=>?_) (fun h=>?_)<;>(try contradiction)<;>(try refine rd ?_)<;>(try simp -dsimp (disch:=omega) only[go_sem,h]))|refine zX _ (zX _ (zA (zA rfl rfl) ?_)) |refine us (hAB) ?_ |fail
    exact ⟨(), trivial, Env.Sub_of_has (by simp [Env.Has, Env.get, Env.putO, eCfg]), Store.Sub.refl _⟩
  rintro _ _
  have hb2 : (bq == bq) = true := by cases bq <;> rfl
  repeat' first |((fail_if_success (first|show W _ _ (Code.seq (Code.region 33 _ _) _) _ _ _|show W _ _ (Code.seq (Code.seq (Code.region 33 _ _) _) _) _ _ _));refine s1 ?_)|refine gS ?_|refine wT rfl ?_|refine wF rfl ?_|refine wt rfl ?_|refine wf rfl ?_|(refine wC rfl (fun h=>?_) (fun h=>?_)<;>(try contradiction))|((fail_if_success (first|show W _ _ (Code.region 33 _ _) _ _ _));(first|refine rd ?_|refine ry [] c0 fun nu _ _=>?_);simp -dsimp (disch:=omega) only[go_sem,hlL, hb2])|refine e0 (by decide) ?_|(refine zA ?_ ?_;omega)|refine zA (of_eq_true PutAt_put) ?_|refine gT ?_|refine gF ?_|(refine gI (fun h=>?_) (fun h=>?_)<;>(try contradiction)<;>(try refine rd ?_)<;>(try simp -dsimp (disch:=omega) only[go_sem,h,hlL, hb2]))|refine zX _ (zX _ (zA (zA rfl rfl) ?_)) |refine us (hAB) ?_ |refine us (hAA) ?_ |refine us (hs1) ?_ |refine us (hs2) ?_ |fail
  refine W_midE (fun _ : Unit => [(2, .ip (eCfg a) 0)]) (fun _ => τ) (fun _ => True) ?_ ?_
  · skip
    repeat' first |refine s1 ?_|refine gS ?_|refine wT rfl ?_|refine wF rfl ?_|refine wt rfl ?_|refine wf rfl ?_|(refine wC rfl (fun h=>?_) (fun h=>?_)<;>(try contradiction))|((first|refine rd ?_|refine ry [] c0 fun nu _ _=>?_);simp -dsimp (disch:=omega) only[go_sem])|refine e0 (by decide) ?_|(refine zA ?_ ?_;omega)|refine zA (of_eq_true PutAt_put) ?_|refine gT ?_|refine gF ?_|(refine gI (fun h=>?_) (fun h=>?_)<;>(try contradiction)<;>(try refine rd ?_)<;>(try simp -dsimp (disch:=omega) only[go_sem,h]))|refine zX _ (zX _ (zA (zA rfl rfl) ?_)) |fail
    refine W_loop_st (fun i : Nat => [(2, .ip (eCfg a) 0), (6, .sl kw (encL AV.str L)), (19, .sl (kd L) (encL AV.str L)), (20, .int .i64 i)]) (fun _ => τ) (fun i => i ≤ L.length) (fun i => L.length - i) 0 (Nat.zero_le _) (Env.Sub_of_has (by simp [Env.Has, Env.get, Env.putO, eCfg])) (Store.Sub.refl _) ?_
    intro i hi
    by_cases hli : i < L.length
    · have hgy : (encL AV.str L).getD i .any = .str (L.getD i default) := getD_encL AV.str hli
      repeat' first |refine s1 ?_|refine gS ?_|refine wT rfl ?_|refine wF rfl ?_|refine wt rfl ?_|refine wf rfl ?_|(refine wC rfl (fun h=>?_) (fun h=>?_)<;>(try contradiction))|((first|refine rd ?_|refine ry [] c0 fun nu _ _=>?_);simp -dsimp (disch:=omega) only[go_sem,hlL, hgy])|refine e0 (by decide) ?_|(refine zA ?_ ?_;omega)|refine zA (of_eq_true PutAt_put) ?_|refine gT ?_|refine gF ?_|(refine gI (fun h=>?_) (fun h=>?_)<;>(try contradiction)<;>(try refine rd ?_)<;>(try simp -dsimp (disch:=omega) only[go_sem,h,hlL, hgy]))|refine zX _ (zX _ (zA (zA rfl rfl) ?_)) |fail
      exact ⟨i + 1, by omega, hli, Env.Sub_of_has (by simp [Env.Has, Env.get, Env.putO, eCfg]), Store.Sub.refl _⟩
    · have hi' : i = L.length := by omega
      subst hi'
      repeat' first |refine s1 ?_|refine gS ?_|refine wT rfl ?_|refine wF rfl ?_|refine wt rfl ?_|refine wf rfl ?_|(refine wC rfl (fun h=>?_) (fun h=>?_)<;>(try contradiction))|((first|refine rd ?_|refine ry [] c0 fun nu _ _=>?_);simp -dsimp (disch:=omega) only[go_sem,hlL])|refine e0 (by decide) ?_|(refine zA ?_ ?_;omega)|refine zA (of_eq_true PutAt_put) ?_|refine gT ?_|refine gF ?_|(refine gI (fun h=>?_) (fun h=>?_)<;>(try contradiction)<;>(try refine rd ?_)<;>(try simp -dsimp (disch:=omega) only[go_sem,h,hlL]))|refine zX _ (zX _ (zA (zA rfl rfl) ?_)) |fail
      exact ⟨(), trivial, Env.Sub_of_has (by simp [Env.Has, Env.get, Env.putO, eCfg]), Store.Sub.refl _⟩
  rintro _ _
  repeat' first |refine s1 ?_|refine gS ?_|refine wT rfl ?_|refine wF rfl ?_|refine wt rfl ?_|refine wf rfl ?_|(refine wC rfl (fun h=>?_) (fun h=>?_)<;>(try contradiction))|((first|refine rd ?_|refine ry [] c0 fun nu _ _=>?_);simp -dsimp (disch:=omega) only[go_sem])|refine e0 (by decide) ?_|(refine zA ?_ ?_;omega)|refine zA (of_eq_true PutAt_put) ?_|refine gT ?_|refine gF ?_|(refine gI (fun h=>?_) (fun h=>?_)<;>(try contradiction)<;>(try refine rd ?_)<;>(try simp -dsimp (disch:=omega) only[go_sem,h]))|refine zX _ (zX _ (zA (zA rfl rfl) ?_)) |refine us (hl) ?_ |fail
  exact hsub
end Go.Proofs.YtaealcimocpnnaaGreat

namespace Go.Proofs.YtaealcimocpnnaaGreat
open Go.Kern Go.RowKit Go.ChangeShapes
def pfxSh : Sh := .cons (.int .u32) (.cons intSh .nil)
def rngSh : Sh := .cons pfxSh (.cons intSh (.cons intSh (.cons .bool .nil)))
def comSh : Sh := .cons intSh (.cons intSh .nil)
def matSh : Sh := .cons .str (.cons .str (.cons comSh .nil))
def chgSh : Sh := .cons intSh (.cons intSh (.cons intSh (.cons (.sl comSh true) (.cons (.sl comSh true) (.cons .bool (.cons (.sl intSh false) .nil))))))
def clsSh : Sh := .cons intSh (.cons .bool (.cons matSh (.cons chgSh .nil)))
def mapSh : Sh := .cons .str (.cons (.sl clsSh true) .nil)
def lstSh : Sh := .cons .str (.cons (.sl rngSh true) .nil)
def nbrSh : Sh := .cons .str (.cons .str (.cons .str (.cons .bool .nil)))
def lnkSh : Sh := .cons .str (.cons intSh .nil)
def rtrSh : Sh := .cons .str (.cons intSh (.cons intSh (.cons (.sl pfxSh true) (.cons (.sl nbrSh true) (.cons (.sl lnkSh true) .nil)))))
def cfgSh : Sh := .cons (.sl lstSh true) (.cons (.sl mapSh true) (.cons (.sl rtrSh true) .nil))
theorem chk_cfg : (cfgSh.chk Tryz.prog).1 26 = true := by kernel_rfl
theorem own : ownKnob Tryz.prog.godebug = none := by kernel_rfl
theorem laid : laidOutB Tryz.prog = true := by kernel_rfl
theorem types_cfg : Tryz.prog.readableRec 26 = true ∧ 26 < Tryz.prog.types.size := ⟨by kernel_rfl, of_decide_eq_true (by kernel_rfl)⟩
theorem sl_ofP {α : Type} {e : Sh} {ag : Bool} (f : α → AV) (Pr : α → Prop) (hf : ∀ y, e.ok y → ∃ a, wrapV ag y = f a ∧ Pr a) {l : List AV} (h : (Sh.sl e ag).ok l) : ∃ (k : SK) (zs : List α), l = [.sl k (encL f zs)] ∧ ∀ z, z ∈ zs → Pr z := by
  have gen : ∀ ys : List (List AV), (∀ y, y ∈ ys → e.ok y) → ∃ zs : List α, ys.map (wrapV ag) = zs.map f ∧ ∀ z, z ∈ zs → Pr z := by
    intro ys
    induction ys with
    | nil => exact fun _ => ⟨[], rfl, fun z hz => by simp at hz⟩
    | cons y ys ih =>
      intro h
      obtain ⟨a, ha, hp⟩ := hf y (h y List.mem_cons_self)
      obtain ⟨zs, h1, h2⟩ := ih fun y hy => h y (List.mem_cons_of_mem _ hy)
      exact ⟨a :: zs, by rw [List.map_cons, h1, ha]; rfl, fun z hz => by
        rcases List.mem_cons.1 hz with rfl | hz
        · exact hp
        · exact h2 z hz⟩
  obtain ⟨k, ys, rfl, h1, h2⟩ := h
  obtain ⟨zs, h3, h4⟩ := gen ys h2
  exact ⟨k, zs, by rw [h3]; rfl, h4⟩
theorem pfx_of {l : List AV} (h : pfxSh.ok l) : ∃ p : Pfx, AV.agg l = ePfx p ∧ p.Ok := by
  obtain ⟨x1, r1, rfl, ⟨a, rfl, wa⟩, x2, r2, rfl, ⟨b, rfl, _⟩, rfl⟩ := h
  refine ⟨⟨a, b⟩, rfl, ?_⟩
  simp [Lit.wf, IntKind.min, IntKind.max] at wa
  show 0 ≤ a ∧ a < 4294967296
  simp [IntKind.signed, IntKind.bits] at wa
  omega
theorem rng_of {l : List AV} (h : rngSh.ok l) : ∃ r : Rng, AV.agg l = eRng r ∧ r.p.Ok := by
  obtain ⟨x0, r0, rfl, h0, x1, r1, rfl, ⟨ge, rfl, _⟩, x2, r2, rfl, ⟨le, rfl, _⟩, x3, r3, rfl, ⟨b, rfl⟩, rfl⟩ := h
  obtain ⟨p, hp, ho⟩ := pfx_of h0
  simp only [ePfx, AV.agg.injEq] at hp
  subst hp
  exact ⟨⟨p, ge, le, b⟩, rfl, ho⟩
theorem com_of {l : List AV} (h : comSh.ok l) : ∃ c : Com, AV.agg l = eCom c ∧ True := by
  obtain ⟨x1, r1, rfl, ⟨a, rfl, _⟩, x2, r2, rfl, ⟨b, rfl, _⟩, rfl⟩ := h
  exact ⟨⟨a, b⟩, rfl, trivial⟩
theorem cls_ofA {l : List AV} (h : clsSh.ok l) : ∃ c : Cls, AV.agg l = eCls c ∧ True := by
  obtain ⟨x1, r1, rfl, ⟨n, rfl, _⟩, x2, r2, rfl, ⟨b, rfl⟩, x3, r3, rfl, ⟨m1, q1, rfl, ⟨ml, rfl, _⟩, m2, q2, rfl, ⟨mp, rfl, _⟩, m3, q3, rfl, h3, rfl⟩, x4, r4, rfl, hs, rfl⟩ := h
  obtain ⟨mc, hmc, _⟩ := com_of h3
  simp only [eCom, AV.agg.injEq] at hmc
  subst hmc
  obtain ⟨s1, t1, rfl, ⟨pref, rfl, _⟩, s2, t2, rfl, ⟨med, rfl, _⟩, s3, t3, rfl, ⟨org, rfl, _⟩, s4, t4, rfl, h4, s5, t5, rfl, h5, s6, t6, rfl, ⟨clr, rfl⟩, s7, t7, rfl, h7, rfl⟩ := hs
  obtain ⟨kA, add, rfl, _⟩ := sl_ofP (ag := true) (e := comSh) eCom (fun _ => True) (fun y hy => com_of hy) h4
  obtain ⟨kD, del, rfl, _⟩ := sl_ofP (ag := true) (e := comSh) eCom (fun _ => True) (fun y hy => com_of hy) h5
  obtain ⟨kP, pre, rfl, _⟩ := sl_ints h7
  exact ⟨⟨n, b, ⟨ml, mp, mc⟩, ⟨pref, med, org, kA, add, kD, del, clr, kP, pre⟩⟩, rfl, trivial⟩
theorem map_of {l : List AV} (h : mapSh.ok l) : ∃ m : MapD, AV.agg l = eMap m ∧ True := by
  obtain ⟨x1, r1, rfl, ⟨s, rfl, _⟩, x2, r2, rfl, h2, rfl⟩ := h
  obtain ⟨k, zs, rfl, _⟩ := sl_ofP (ag := true) (e := clsSh) eCls (fun _ => True) (fun y hy => cls_ofA hy) h2
  exact ⟨⟨s, k, zs⟩, rfl, trivial⟩
theorem lst_of {l : List AV} (h : lstSh.ok l) : ∃ m : LstD, AV.agg l = eLst m ∧ ∀ r, r ∈ m.l → r.p.Ok := by
  obtain ⟨x1, r1, rfl, ⟨s, rfl, _⟩, x2, r2, rfl, h2, rfl⟩ := h
  obtain ⟨k, zs, rfl, hz⟩ := sl_ofP (ag := true) (e := rngSh) eRng (fun r => r.p.Ok) (fun y hy => rng_of hy) h2
  exact ⟨⟨s, k, zs⟩, rfl, hz⟩
theorem nbr_of {l : List AV} (h : nbrSh.ok l) : ∃ n : Nbr, AV.agg l = eNbr n ∧ (n.name.size ≤ 9223372036854775807 ∧ n.imp.size ≤ 9223372036854775807 ∧ n.exp.size ≤ 9223372036854775807) := by
  obtain ⟨x1, r1, rfl, ⟨a, rfl, wa⟩, x2, r2, rfl, ⟨b, rfl, wb⟩, x3, r3, rfl, ⟨c, rfl, wc⟩, x4, r4, rfl, ⟨d, rfl⟩, rfl⟩ := h
  exact ⟨⟨a, b, c, d⟩, rfl, wa, wb, wc⟩
theorem lnk_of {l : List AV} (h : lnkSh.ok l) : ∃ n : Lnk, AV.agg l = eLnk n ∧ n.name.size ≤ 9223372036854775807 := by
  obtain ⟨x1, r1, rfl, ⟨a, rfl, wa⟩, x2, r2, rfl, ⟨b, rfl, _⟩, rfl⟩ := h
  exact ⟨⟨a, b⟩, rfl, wa⟩
structure Rtr.Wf (x : Rtr) : Prop where
  nets : ∀ p, p ∈ x.nets → p.Ok
  nbrs : ∀ n, n ∈ x.nbrs → n.name.size ≤ 9223372036854775807 ∧ n.imp.size ≤ 9223372036854775807 ∧ n.exp.size ≤ 9223372036854775807
  links : ∀ n, n ∈ x.links → n.name.size ≤ 9223372036854775807
theorem rtr_of {l : List AV} (h : rtrSh.ok l) : ∃ n : Rtr, AV.agg l = eRtr n ∧ n.Wf := by
  obtain ⟨x1, r1, rfl, ⟨a, rfl, wa⟩, x2, r2, rfl, ⟨b, rfl, _⟩, x3, r3, rfl, ⟨c, rfl, _⟩, x4, r4, rfl, h4, x5, r5, rfl, h5, x6, r6, rfl, h6, rfl⟩ := h
  obtain ⟨k4, z4, rfl, p4⟩ := sl_ofP (ag := true) (e := pfxSh) ePfx Pfx.Ok (fun y hy => pfx_of hy) h4
  obtain ⟨k5, z5, rfl, p5⟩ := sl_ofP (ag := true) (e := nbrSh) eNbr (fun n => n.name.size ≤ 9223372036854775807 ∧ n.imp.size ≤ 9223372036854775807 ∧ n.exp.size ≤ 9223372036854775807) (fun y hy => nbr_of hy) h5
  obtain ⟨k6, z6, rfl, p6⟩ := sl_ofP (ag := true) (e := lnkSh) eLnk (fun n => n.name.size ≤ 9223372036854775807) (fun y hy => lnk_of hy) h6
  exact ⟨⟨a, b, c, k4, z4, k5, z5, k6, z6⟩, rfl, p4, p5, p6⟩
theorem cfg_of {l : List AV} (h : cfgSh.ok l) : ∃ c : Cfg, AV.agg l = eCfg c ∧ c.Wf := by
  obtain ⟨x4, r4, rfl, h4, x5, r5, rfl, h5, x6, r6, rfl, h6, rfl⟩ := h
  obtain ⟨k4, z4, rfl, p4⟩ := sl_ofP (ag := true) (e := lstSh) eLst (fun m => ∀ r, r ∈ m.l → r.p.Ok) (fun y hy => lst_of hy) h4
  obtain ⟨k5, z5, rfl, _⟩ := sl_ofP (ag := true) (e := mapSh) eMap (fun _ => True) (fun y hy => map_of hy) h5
  obtain ⟨k6, z6, rfl, p6⟩ := sl_ofP (ag := true) (e := rtrSh) eRtr Rtr.Wf (fun y hy => rtr_of hy) h6
  exact ⟨⟨k4, z4, k5, z5, k6, z6⟩, rfl, p4, fun x hx => (p6 x hx).nets, fun x hx => (p6 x hx).nbrs, fun x hx => (p6 x hx).links⟩
theorem cfg_read {H : Type} {enc : TypeId × Value → H} {W : World} {v : Value} {d : DataW H} {p : List MemPlace} (h : DataW.Trod enc Tryz.prog W 0 (fun _ => true) true 26 v d p) :
    ∃ c : Cfg, c.Wf ∧ R (gh0 W) (eCfg c) v := by
  obtain ⟨fuel, hf⟩ := h
  obtain ⟨l, hl, hr⟩ := (cfgSh.read).1 _ _ _ _ chk_cfg hf
  obtain ⟨c, hc, hw⟩ := cfg_of hl
  refine ⟨c, hw, ?_⟩
  rw [← hc]
  have h3 : l.length = 3 := by have := cfgSh.ok_size hl; exact this
  rcases cells_one_agg (v := v) with ⟨cs, rfl⟩ | h1
  · exact .agg (by simpa [Value.cells] using hr.1) (by simpa [Value.cells] using hr.2)
  · have := hr.1
    rw [h1, h3] at this
    cases this
end Go.Proofs.YtaealcimocpnnaaGreat

namespace Go.Proofs.YtaealcimocpnnaaGreat
open Go.Kern Go.RowKit Go.ChangeShapes
theorem differs_contract (H : Type) (enc : TypeId × Value → H) (W : World) (args : Array Value) (ds gs : List (DataW H)) (before : List MemPlace)
    (hW : DataW.Whole enc Tryz.prog Tryz.f5.params.toList Rows.showDiffersSpec.vars false W args.toList ds gs before) :
    Calls Tryz.prog 5 args W fun e W' => ∃ v, e = .returned v ∧ Rows.showDiffersSpec.post enc Tryz.prog Tryz.f5 false true false false W args v W' := by
  have hA := hW
  obtain ⟨p, q, hA, _⟩ := hA
  have hA2 : DataW.TrodAll enc Tryz.prog W 0 (fun _ => true) true [26, 26] args.toList ds p := hA
  obtain ⟨v, u, d, d2, p1, p2, rfl, rfl, rfl, h0, h1⟩ := trodAll_two hA2
  obtain ⟨c, hc, rc⟩ := cfg_read h0
  obtain ⟨c2, hc2, rc2⟩ := cfg_read h1
  obtain ⟨hxl, hx⟩ := R_args [eCfg c, eCfg c2] [v, u] (.cons rc (.cons rc2 .nil))
  refine law_row laid (fun t ht => ?_) (by rfl) Tryz.underlying4 rfl rfl hW _ hxl hx (differs_spec c c2 hc hc2 st0)
  have ht' : t ∈ [26, 26] := ht
  obtain rfl : t = 26 := by simpa using ht'
  exact types_cfg
set_option maxRecDepth 100000 in
theorem differs_lifted (os : Os) (started : os.Started) (H : Type) (enc : TypeId × Value → H) :
    ReturnsInHanded {} Tryz.checked os 5 .any (Rows.showDiffersSpec.pre6 enc Tryz.prog Tryz.f5 Rows.showDiffersRow.domain false) (Rows.showDiffersSpec.post enc Tryz.prog Tryz.f5 false true false false) := by
  refine returnsInHanded_of_change (C := Tryz.checked) own started (by kernel_rfl) Tryz.func5
    (ChangeSpec.witness6 (enc := enc) (C := Tryz.checked) false ⟨#[], #[.agg #[.slice none 0 0, .slice none 0 0, .slice none 0 0], .agg #[.slice none 0 0, .slice none 0 0, .slice none 0 0]], []⟩ 8 (by kernel_rfl) (by kernel_rfl) (by kernel_rfl) (by kernel_rfl)) ?_
  intro W base args ds gs before _ hW _ _
  exact differs_contract H enc W args ds gs before hW
theorem showDiffers_holds : Rows.ShowDiffersSaid :=
  OpenClaim.holds_of_wide 5 Tryz.f5 rfl rfl rfl rfl rfl rfl rfl ⟨rfl, rfl, rfl, rfl, rfl⟩ rfl rfl rfl rfl rfl (by kernel_rfl) Tryz.func5 (by kernel_rfl)
    (of_decide_eq_true (by kernel_rfl)) (by unfold Func.isWrapper; first | (rw [if_pos (by decide +kernel)]; kernel_rfl) | (rw [if_neg (by decide +kernel)]; exact ⟨rfl, rfl⟩))
    (fun os started H enc _ => differs_lifted os started H enc)
#print axioms showDiffers_holds
end Go.Proofs.YtaealcimocpnnaaGreat

