/- What the claim needs, part 3: Bb Bc Bd Be Bf Bg Bh Df Bi Bj Bk Bl Bm. Conditions: none. -/
import Derived.Test.YtaealcimocpnnaaGreatPdb
set_option linter.unusedVariables false
set_option linter.unusedSimpArgs false
set_option linter.unusedSectionVars false
namespace Go.Proofs.YtaealcimocpnnaaGreat
open Go.Kern
set_option maxRecDepth 100000
set_option maxHeartbeats 4000000
attribute [local irreducible] PCall W
theorem idxFLst {τ : Type} (fi : Nat) (cs : List AV) (S : τ → Store) (step : τ → LstD → Bool × τ) (k : SK) (l : List LstD) (hl : l.length < 4611686018427387904) (hf : ∀ (st : τ) (x : LstD), x ∈ l → PCall Tryz.prog fi (eLst x :: cs) (S st) (fun r s => r = .bool (step st x).1 ∧ s = S (step st x).2)) (st : τ) :
    PCall Tryz.prog 125 [.sl k (encL eLst l), .fn fi cs] (S st) (fun r s => r = .int .i64 (idxS step st 0 l).1 ∧ s = S (idxS step st 0 l).2) := by
  refine PCall_w [.tmp 4] 19 Tryz.func125 (by rfl) rfl rfl rfl rfl ?_
  repeat' first |refine s1 ?_|refine gS ?_|refine wT rfl ?_|refine wF rfl ?_|refine wt rfl ?_|refine wf rfl ?_|(refine wC rfl (fun h=>?_) (fun h=>?_)<;>(try contradiction))|((first|refine rd ?_|refine ry [] c0 fun nu _ _=>?_);simp -dsimp (disch:=omega) only[go_sem])|refine e0 (by decide) ?_|(refine zA ?_ ?_;omega)|refine zA (of_eq_true PutAt_put) ?_|refine gT ?_|refine gF ?_|(refine gI (fun h=>?_) (fun h=>?_)<;>(try contradiction)<;>(try refine rd ?_)<;>(try simp -dsimp (disch:=omega) only[go_sem,h]))|refine zX _ (zX _ (zA (zA rfl rfl) ?_)) |fail
  refine W_loop_st (fun x : Nat × τ => [(0, .sl k (encL eLst l)), (1, .fn fi cs), (6, .sl k (encL eLst l)), (7, .int .i64 l.length), (8, .int .i64 x.1)]) (fun x => S x.2) (fun x => x.1 ≤ l.length ∧ idxS step st 0 l = idxS step x.2 x.1 (l.drop x.1)) (fun x => l.length - x.1) (0, st) ⟨Nat.zero_le _, rfl⟩ (Env.Sub_of_has (by simp [Env.Has, Env.get])) (Store.Sub.refl _) ?_
  rintro ⟨i, u⟩ ⟨hi, hor⟩
  simp only at hi hor
  by_cases hlt : i < l.length
  · have ho := idxS_drop step u l i hlt i
    have hfx := hf u (l.getD i default) (by rw [List.getD_eq_getElem?_getD, List.getElem?_eq_getElem hlt]; exact List.getElem_mem hlt)
    repeat' first |refine s1 ?_|refine gS ?_|refine wT rfl ?_|refine wF rfl ?_|refine wt rfl ?_|refine wf rfl ?_|(refine wC rfl (fun h=>?_) (fun h=>?_)<;>(try contradiction))|((first|refine rd ?_|refine ry [] c0 fun nu _ _=>?_);simp -dsimp (disch:=omega) only[go_sem])|refine e0 (by decide) ?_|(refine zA ?_ ?_;omega)|refine zA (of_eq_true PutAt_put) ?_|refine gT ?_|refine gF ?_|(refine gI (fun h=>?_) (fun h=>?_)<;>(try contradiction)<;>(try refine rd ?_)<;>(try simp -dsimp (disch:=omega) only[go_sem,h]))|refine zX _ (zX _ (zA (zA rfl rfl) ?_)) |refine uw (hfx) ?_ |fail
    · rw [hor, ho, if_pos h]; exact ⟨_, Store.Sub.refl _, rfl, rfl⟩
    · rw [if_neg (by rw [h]; simp)] at ho
      exact ⟨(i + 1, _), by simp only; omega, ⟨by simp only; omega, by rw [hor, ho]; rfl⟩, Env.Sub_of_has (by simp [Env.Has, Env.get]), Store.Sub.refl _⟩
  · have hi' : i = l.length := by omega
    subst hi'
    repeat' first |refine s1 ?_|refine gS ?_|refine wT rfl ?_|refine wF rfl ?_|refine wt rfl ?_|refine wf rfl ?_|(refine wC rfl (fun h=>?_) (fun h=>?_)<;>(try contradiction))|((first|refine rd ?_|refine ry [] c0 fun nu _ _=>?_);simp -dsimp (disch:=omega) only[go_sem])|refine e0 (by decide) ?_|(refine zA ?_ ?_;omega)|refine zA (of_eq_true PutAt_put) ?_|refine gT ?_|refine gF ?_|(refine gI (fun h=>?_) (fun h=>?_)<;>(try contradiction)<;>(try refine rd ?_)<;>(try simp -dsimp (disch:=omega) only[go_sem,h]))|refine zX _ (zX _ (zA (zA rfl rfl) ?_)) |fail
    rw [hor, List.drop_length]; exact ⟨_, Store.Sub.refl _, rfl, rfl⟩
theorem conFLst {τ : Type} (fi : Nat) (cs : List AV) (S : τ → Store) (step : τ → LstD → Bool × τ) (k : SK) (l : List LstD) (hl : l.length < 4611686018427387904) (hf : ∀ (st : τ) (x : LstD), x ∈ l → PCall Tryz.prog fi (eLst x :: cs) (S st) (fun r s => r = .bool (step st x).1 ∧ s = S (step st x).2)) (st : τ) :
    PCall Tryz.prog 70 [.sl k (encL eLst l), .fn fi cs] (S st) (fun r s => r = .bool (anyS step st l).1 ∧ s = S (anyS step st l).2) := by
  have e := idxS_any step l st 0 (Int.le_refl _)
  refine PCall_w [.tmp 4] 9 Tryz.func70 (by rfl) rfl rfl rfl rfl ?_
  repeat' first |refine s1 ?_|refine gS ?_|refine wT rfl ?_|refine wF rfl ?_|refine wt rfl ?_|refine wf rfl ?_|(refine wC rfl (fun h=>?_) (fun h=>?_)<;>(try contradiction))|((first|refine rd ?_|refine ry [] c0 fun nu _ _=>?_);simp -dsimp (disch:=omega) only[go_sem])|refine e0 (by decide) ?_|(refine zA ?_ ?_;omega)|refine zA (of_eq_true PutAt_put) ?_|refine gT ?_|refine gF ?_|(refine gI (fun h=>?_) (fun h=>?_)<;>(try contradiction)<;>(try refine rd ?_)<;>(try simp -dsimp (disch:=omega) only[go_sem,h]))|refine zX _ (zX _ (zA (zA rfl rfl) ?_)) |refine uw (idxFLst fi cs S step k l hl hf st) ?_ |fail
  rw [← e]; exact ⟨_, Store.Sub.refl _, rfl, rfl⟩
theorem each1Lst (fi : Nat) (cs : List AV) (x : LstD) (σ τ : Store) (b : Bool) (h : PCall Tryz.prog fi (eLst x :: cs) σ (fun r s => r = .bool b ∧ s = τ)) :
    PCall Tryz.prog 71 [eLst x, .ip (.fn fi cs) 0] σ (fun r s => r = .bool (!b) ∧ s = τ) := by
  refine PCall_w [.tmp 3] 8 Tryz.func71 (by rfl) rfl rfl rfl rfl ?_
  repeat' first |refine s1 ?_|refine gS ?_|refine wT rfl ?_|refine wF rfl ?_|refine wt rfl ?_|refine wf rfl ?_|(refine wC rfl (fun h=>?_) (fun h=>?_)<;>(try contradiction))|((first|refine rd ?_|refine ry [] c0 fun nu _ _=>?_);simp -dsimp (disch:=omega) only[go_sem])|refine e0 (by decide) ?_|(refine zA ?_ ?_;omega)|refine zA (of_eq_true PutAt_put) ?_|refine gT ?_|refine gF ?_|(refine gI (fun h=>?_) (fun h=>?_)<;>(try contradiction)<;>(try refine rd ?_)<;>(try simp -dsimp (disch:=omega) only[go_sem,h]))|refine zX _ (zX _ (zA (zA rfl rfl) ?_)) |refine uw (h) ?_ |fail
theorem eachLst {τ : Type} (fi : Nat) (cs : List AV) (S : τ → Store) (step : τ → LstD → Bool × τ) (k : SK) (l : List LstD) (most : Int) (hl : l.length < 4611686018427387904) (hf : ∀ (st : τ) (x : LstD), x ∈ l → PCall Tryz.prog fi (eLst x :: cs) (S st) (fun r s => r = .bool (step st x).1 ∧ s = S (step st x).2)) (st : τ) :
    PCall Tryz.prog 27 [.sl k (encL eLst l), .int .i64 most, .fn fi cs] (S st) (fun r s => r = .bool (eachS most step st l).1 ∧ s = S (eachS most step st l).2) := by
  have hc := conFLst 71 [.ip (.fn fi cs) 0] S (fun st x => (!(step st x).1, (step st x).2)) k l hl (fun st x hx => each1Lst fi cs x _ _ _ (hf st x hx)) st
  unfold eachS
  refine PCall_w [.tmp 6] 17 Tryz.func27 (by rfl) rfl rfl rfl rfl ?_
  by_cases hm : (l.length : Int) ≤ most
  · rw [if_pos hm]
    repeat' first |refine s1 ?_|refine gS ?_|refine wT rfl ?_|refine wF rfl ?_|refine wt rfl ?_|refine wf rfl ?_|(refine wC rfl (fun h=>?_) (fun h=>?_)<;>(try contradiction))|((first|refine rd ?_|refine ry [] c0 fun nu _ _=>?_);simp -dsimp (disch:=omega) only[go_sem,hm])|refine e0 (by decide) ?_|(refine zA ?_ ?_;omega)|refine zA (of_eq_true PutAt_put) ?_|refine gT ?_|refine gF ?_|(refine gI (fun h=>?_) (fun h=>?_)<;>(try contradiction)<;>(try refine rd ?_)<;>(try simp -dsimp (disch:=omega) only[go_sem,h,hm]))|refine zX _ (zX _ (zA (zA rfl rfl) ?_)) |refine uw (hc) ?_ |fail
  · rw [if_neg hm]
    repeat' first |refine s1 ?_|refine gS ?_|refine wT rfl ?_|refine wF rfl ?_|refine wt rfl ?_|refine wf rfl ?_|(refine wC rfl (fun h=>?_) (fun h=>?_)<;>(try contradiction))|((first|refine rd ?_|refine ry [] c0 fun nu _ _=>?_);simp -dsimp (disch:=omega) only[go_sem,hm])|refine e0 (by decide) ?_|(refine zA ?_ ?_;omega)|refine zA (of_eq_true PutAt_put) ?_|refine gT ?_|refine gF ?_|(refine gI (fun h=>?_) (fun h=>?_)<;>(try contradiction)<;>(try refine rd ?_)<;>(try simp -dsimp (disch:=omega) only[go_sem,h,hm]))|refine zX _ (zX _ (zA (zA rfl rfl) ?_)) |fail
theorem eachPLst (fi : Nat) (cs : List AV) (q : LstD → Bool) (k : SK) (l : List LstD) (most : Int) (hl : l.length < 4611686018427387904) (hf : ∀ x : LstD, x ∈ l → Pure Tryz.prog fi (eLst x :: cs) (.bool (q x))) :
    Pure Tryz.prog 27 [.sl k (encL eLst l), .int .i64 most, .fn fi cs] (.bool (eachP most q l)) := fun σ => by
  rw [← eachS_pure]
  exact eachLst fi cs (fun _ : Unit => σ) (fun _ x => (q x, ())) k l most hl (fun _ x hx => hf x hx σ) ()
theorem idxFMap {τ : Type} (fi : Nat) (cs : List AV) (S : τ → Store) (step : τ → MapD → Bool × τ) (k : SK) (l : List MapD) (hl : l.length < 4611686018427387904) (hf : ∀ (st : τ) (x : MapD), x ∈ l → PCall Tryz.prog fi (eMap x :: cs) (S st) (fun r s => r = .bool (step st x).1 ∧ s = S (step st x).2)) (st : τ) :
    PCall Tryz.prog 126 [.sl k (encL eMap l), .fn fi cs] (S st) (fun r s => r = .int .i64 (idxS step st 0 l).1 ∧ s = S (idxS step st 0 l).2) := by
  refine PCall_w [.tmp 4] 19 Tryz.func126 (by rfl) rfl rfl rfl rfl ?_
  repeat' first |refine s1 ?_|refine gS ?_|refine wT rfl ?_|refine wF rfl ?_|refine wt rfl ?_|refine wf rfl ?_|(refine wC rfl (fun h=>?_) (fun h=>?_)<;>(try contradiction))|((first|refine rd ?_|refine ry [] c0 fun nu _ _=>?_);simp -dsimp (disch:=omega) only[go_sem])|refine e0 (by decide) ?_|(refine zA ?_ ?_;omega)|refine zA (of_eq_true PutAt_put) ?_|refine gT ?_|refine gF ?_|(refine gI (fun h=>?_) (fun h=>?_)<;>(try contradiction)<;>(try refine rd ?_)<;>(try simp -dsimp (disch:=omega) only[go_sem,h]))|refine zX _ (zX _ (zA (zA rfl rfl) ?_)) |fail
  refine W_loop_st (fun x : Nat × τ => [(0, .sl k (encL eMap l)), (1, .fn fi cs), (6, .sl k (encL eMap l)), (7, .int .i64 l.length), (8, .int .i64 x.1)]) (fun x => S x.2) (fun x => x.1 ≤ l.length ∧ idxS step st 0 l = idxS step x.2 x.1 (l.drop x.1)) (fun x => l.length - x.1) (0, st) ⟨Nat.zero_le _, rfl⟩ (Env.Sub_of_has (by simp [Env.Has, Env.get])) (Store.Sub.refl _) ?_
  rintro ⟨i, u⟩ ⟨hi, hor⟩
  simp only at hi hor
  by_cases hlt : i < l.length
  · have ho := idxS_drop step u l i hlt i
    have hfx := hf u (l.getD i default) (by rw [List.getD_eq_getElem?_getD, List.getElem?_eq_getElem hlt]; exact List.getElem_mem hlt)
    repeat' first |refine s1 ?_|refine gS ?_|refine wT rfl ?_|refine wF rfl ?_|refine wt rfl ?_|refine wf rfl ?_|(refine wC rfl (fun h=>?_) (fun h=>?_)<;>(try contradiction))|((first|refine rd ?_|refine ry [] c0 fun nu _ _=>?_);simp -dsimp (disch:=omega) only[go_sem])|refine e0 (by decide) ?_|(refine zA ?_ ?_;omega)|refine zA (of_eq_true PutAt_put) ?_|refine gT ?_|refine gF ?_|(refine gI (fun h=>?_) (fun h=>?_)<;>(try contradiction)<;>(try refine rd ?_)<;>(try simp -dsimp (disch:=omega) only[go_sem,h]))|refine zX _ (zX _ (zA (zA rfl rfl) ?_)) |refine uw (hfx) ?_ |fail
    · rw [hor, ho, if_pos h]; exact ⟨_, Store.Sub.refl _, rfl, rfl⟩
    · rw [if_neg (by rw [h]; simp)] at ho
      exact ⟨(i + 1, _), by simp only; omega, ⟨by simp only; omega, by rw [hor, ho]; rfl⟩, Env.Sub_of_has (by simp [Env.Has, Env.get]), Store.Sub.refl _⟩
  · have hi' : i = l.length := by omega
    subst hi'
    repeat' first |refine s1 ?_|refine gS ?_|refine wT rfl ?_|refine wF rfl ?_|refine wt rfl ?_|refine wf rfl ?_|(refine wC rfl (fun h=>?_) (fun h=>?_)<;>(try contradiction))|((first|refine rd ?_|refine ry [] c0 fun nu _ _=>?_);simp -dsimp (disch:=omega) only[go_sem])|refine e0 (by decide) ?_|(refine zA ?_ ?_;omega)|refine zA (of_eq_true PutAt_put) ?_|refine gT ?_|refine gF ?_|(refine gI (fun h=>?_) (fun h=>?_)<;>(try contradiction)<;>(try refine rd ?_)<;>(try simp -dsimp (disch:=omega) only[go_sem,h]))|refine zX _ (zX _ (zA (zA rfl rfl) ?_)) |fail
    rw [hor, List.drop_length]; exact ⟨_, Store.Sub.refl _, rfl, rfl⟩
theorem conFMap {τ : Type} (fi : Nat) (cs : List AV) (S : τ → Store) (step : τ → MapD → Bool × τ) (k : SK) (l : List MapD) (hl : l.length < 4611686018427387904) (hf : ∀ (st : τ) (x : MapD), x ∈ l → PCall Tryz.prog fi (eMap x :: cs) (S st) (fun r s => r = .bool (step st x).1 ∧ s = S (step st x).2)) (st : τ) :
    PCall Tryz.prog 73 [.sl k (encL eMap l), .fn fi cs] (S st) (fun r s => r = .bool (anyS step st l).1 ∧ s = S (anyS step st l).2) := by
  have e := idxS_any step l st 0 (Int.le_refl _)
  refine PCall_w [.tmp 4] 9 Tryz.func73 (by rfl) rfl rfl rfl rfl ?_
  repeat' first |refine s1 ?_|refine gS ?_|refine wT rfl ?_|refine wF rfl ?_|refine wt rfl ?_|refine wf rfl ?_|(refine wC rfl (fun h=>?_) (fun h=>?_)<;>(try contradiction))|((first|refine rd ?_|refine ry [] c0 fun nu _ _=>?_);simp -dsimp (disch:=omega) only[go_sem])|refine e0 (by decide) ?_|(refine zA ?_ ?_;omega)|refine zA (of_eq_true PutAt_put) ?_|refine gT ?_|refine gF ?_|(refine gI (fun h=>?_) (fun h=>?_)<;>(try contradiction)<;>(try refine rd ?_)<;>(try simp -dsimp (disch:=omega) only[go_sem,h]))|refine zX _ (zX _ (zA (zA rfl rfl) ?_)) |refine uw (idxFMap fi cs S step k l hl hf st) ?_ |fail
  rw [← e]; exact ⟨_, Store.Sub.refl _, rfl, rfl⟩
theorem each1Map (fi : Nat) (cs : List AV) (x : MapD) (σ τ : Store) (b : Bool) (h : PCall Tryz.prog fi (eMap x :: cs) σ (fun r s => r = .bool b ∧ s = τ)) :
    PCall Tryz.prog 74 [eMap x, .ip (.fn fi cs) 0] σ (fun r s => r = .bool (!b) ∧ s = τ) := by
  refine PCall_w [.tmp 3] 8 Tryz.func74 (by rfl) rfl rfl rfl rfl ?_
  repeat' first |refine s1 ?_|refine gS ?_|refine wT rfl ?_|refine wF rfl ?_|refine wt rfl ?_|refine wf rfl ?_|(refine wC rfl (fun h=>?_) (fun h=>?_)<;>(try contradiction))|((first|refine rd ?_|refine ry [] c0 fun nu _ _=>?_);simp -dsimp (disch:=omega) only[go_sem])|refine e0 (by decide) ?_|(refine zA ?_ ?_;omega)|refine zA (of_eq_true PutAt_put) ?_|refine gT ?_|refine gF ?_|(refine gI (fun h=>?_) (fun h=>?_)<;>(try contradiction)<;>(try refine rd ?_)<;>(try simp -dsimp (disch:=omega) only[go_sem,h]))|refine zX _ (zX _ (zA (zA rfl rfl) ?_)) |refine uw (h) ?_ |fail
theorem eachMap {τ : Type} (fi : Nat) (cs : List AV) (S : τ → Store) (step : τ → MapD → Bool × τ) (k : SK) (l : List MapD) (most : Int) (hl : l.length < 4611686018427387904) (hf : ∀ (st : τ) (x : MapD), x ∈ l → PCall Tryz.prog fi (eMap x :: cs) (S st) (fun r s => r = .bool (step st x).1 ∧ s = S (step st x).2)) (st : τ) :
    PCall Tryz.prog 30 [.sl k (encL eMap l), .int .i64 most, .fn fi cs] (S st) (fun r s => r = .bool (eachS most step st l).1 ∧ s = S (eachS most step st l).2) := by
  have hc := conFMap 74 [.ip (.fn fi cs) 0] S (fun st x => (!(step st x).1, (step st x).2)) k l hl (fun st x hx => each1Map fi cs x _ _ _ (hf st x hx)) st
  unfold eachS
  refine PCall_w [.tmp 6] 17 Tryz.func30 (by rfl) rfl rfl rfl rfl ?_
  by_cases hm : (l.length : Int) ≤ most
  · rw [if_pos hm]
    repeat' first |refine s1 ?_|refine gS ?_|refine wT rfl ?_|refine wF rfl ?_|refine wt rfl ?_|refine wf rfl ?_|(refine wC rfl (fun h=>?_) (fun h=>?_)<;>(try contradiction))|((first|refine rd ?_|refine ry [] c0 fun nu _ _=>?_);simp -dsimp (disch:=omega) only[go_sem,hm])|refine e0 (by decide) ?_|(refine zA ?_ ?_;omega)|refine zA (of_eq_true PutAt_put) ?_|refine gT ?_|refine gF ?_|(refine gI (fun h=>?_) (fun h=>?_)<;>(try contradiction)<;>(try refine rd ?_)<;>(try simp -dsimp (disch:=omega) only[go_sem,h,hm]))|refine zX _ (zX _ (zA (zA rfl rfl) ?_)) |refine uw (hc) ?_ |fail
  · rw [if_neg hm]
    repeat' first |refine s1 ?_|refine gS ?_|refine wT rfl ?_|refine wF rfl ?_|refine wt rfl ?_|refine wf rfl ?_|(refine wC rfl (fun h=>?_) (fun h=>?_)<;>(try contradiction))|((first|refine rd ?_|refine ry [] c0 fun nu _ _=>?_);simp -dsimp (disch:=omega) only[go_sem,hm])|refine e0 (by decide) ?_|(refine zA ?_ ?_;omega)|refine zA (of_eq_true PutAt_put) ?_|refine gT ?_|refine gF ?_|(refine gI (fun h=>?_) (fun h=>?_)<;>(try contradiction)<;>(try refine rd ?_)<;>(try simp -dsimp (disch:=omega) only[go_sem,h,hm]))|refine zX _ (zX _ (zA (zA rfl rfl) ?_)) |fail
theorem eachPMap (fi : Nat) (cs : List AV) (q : MapD → Bool) (k : SK) (l : List MapD) (most : Int) (hl : l.length < 4611686018427387904) (hf : ∀ x : MapD, x ∈ l → Pure Tryz.prog fi (eMap x :: cs) (.bool (q x))) :
    Pure Tryz.prog 30 [.sl k (encL eMap l), .int .i64 most, .fn fi cs] (.bool (eachP most q l)) := fun σ => by
  rw [← eachS_pure]
  exact eachMap fi cs (fun _ : Unit => σ) (fun _ x => (q x, ())) k l most hl (fun _ x hx => hf x hx σ) ()
theorem idxFRtr {τ : Type} (fi : Nat) (cs : List AV) (S : τ → Store) (step : τ → Rtr → Bool × τ) (k : SK) (l : List Rtr) (hl : l.length < 4611686018427387904) (hf : ∀ (st : τ) (x : Rtr), x ∈ l → PCall Tryz.prog fi (eRtr x :: cs) (S st) (fun r s => r = .bool (step st x).1 ∧ s = S (step st x).2)) (st : τ) :
    PCall Tryz.prog 135 [.sl k (encL eRtr l), .fn fi cs] (S st) (fun r s => r = .int .i64 (idxS step st 0 l).1 ∧ s = S (idxS step st 0 l).2) := by
  refine PCall_w [.tmp 4] 19 Tryz.func135 (by rfl) rfl rfl rfl rfl ?_
  repeat' first |refine s1 ?_|refine gS ?_|refine wT rfl ?_|refine wF rfl ?_|refine wt rfl ?_|refine wf rfl ?_|(refine wC rfl (fun h=>?_) (fun h=>?_)<;>(try contradiction))|((first|refine rd ?_|refine ry [] c0 fun nu _ _=>?_);simp -dsimp (disch:=omega) only[go_sem])|refine e0 (by decide) ?_|(refine zA ?_ ?_;omega)|refine zA (of_eq_true PutAt_put) ?_|refine gT ?_|refine gF ?_|(refine gI (fun h=>?_) (fun h=>?_)<;>(try contradiction)<;>(try refine rd ?_)<;>(try simp -dsimp (disch:=omega) only[go_sem,h]))|refine zX _ (zX _ (zA (zA rfl rfl) ?_)) |fail
  refine W_loop_st (fun x : Nat × τ => [(0, .sl k (encL eRtr l)), (1, .fn fi cs), (6, .sl k (encL eRtr l)), (7, .int .i64 l.length), (8, .int .i64 x.1)]) (fun x => S x.2) (fun x => x.1 ≤ l.length ∧ idxS step st 0 l = idxS step x.2 x.1 (l.drop x.1)) (fun x => l.length - x.1) (0, st) ⟨Nat.zero_le _, rfl⟩ (Env.Sub_of_has (by simp [Env.Has, Env.get])) (Store.Sub.refl _) ?_
  rintro ⟨i, u⟩ ⟨hi, hor⟩
  simp only at hi hor
  by_cases hlt : i < l.length
  · have ho := idxS_drop step u l i hlt i
    have hfx := hf u (l.getD i default) (by rw [List.getD_eq_getElem?_getD, List.getElem?_eq_getElem hlt]; exact List.getElem_mem hlt)
    repeat' first |refine s1 ?_|refine gS ?_|refine wT rfl ?_|refine wF rfl ?_|refine wt rfl ?_|refine wf rfl ?_|(refine wC rfl (fun h=>?_) (fun h=>?_)<;>(try contradiction))|((first|refine rd ?_|refine ry [] c0 fun nu _ _=>?_);simp -dsimp (disch:=omega) only[go_sem])|refine e0 (by decide) ?_|(refine zA ?_ ?_;omega)|refine zA (of_eq_true PutAt_put) ?_|refine gT ?_|refine gF ?_|(refine gI (fun h=>?_) (fun h=>?_)<;>(try contradiction)<;>(try refine rd ?_)<;>(try simp -dsimp (disch:=omega) only[go_sem,h]))|refine zX _ (zX _ (zA (zA rfl rfl) ?_)) |refine uw (hfx) ?_ |fail
    · rw [hor, ho, if_pos h]; exact ⟨_, Store.Sub.refl _, rfl, rfl⟩
    · rw [if_neg (by rw [h]; simp)] at ho
      exact ⟨(i + 1, _), by simp only; omega, ⟨by simp only; omega, by rw [hor, ho]; rfl⟩, Env.Sub_of_has (by simp [Env.Has, Env.get]), Store.Sub.refl _⟩
  · have hi' : i = l.length := by omega
    subst hi'
    repeat' first |refine s1 ?_|refine gS ?_|refine wT rfl ?_|refine wF rfl ?_|refine wt rfl ?_|refine wf rfl ?_|(refine wC rfl (fun h=>?_) (fun h=>?_)<;>(try contradiction))|((first|refine rd ?_|refine ry [] c0 fun nu _ _=>?_);simp -dsimp (disch:=omega) only[go_sem])|refine e0 (by decide) ?_|(refine zA ?_ ?_;omega)|refine zA (of_eq_true PutAt_put) ?_|refine gT ?_|refine gF ?_|(refine gI (fun h=>?_) (fun h=>?_)<;>(try contradiction)<;>(try refine rd ?_)<;>(try simp -dsimp (disch:=omega) only[go_sem,h]))|refine zX _ (zX _ (zA (zA rfl rfl) ?_)) |fail
    rw [hor, List.drop_length]; exact ⟨_, Store.Sub.refl _, rfl, rfl⟩
theorem conFRtr {τ : Type} (fi : Nat) (cs : List AV) (S : τ → Store) (step : τ → Rtr → Bool × τ) (k : SK) (l : List Rtr) (hl : l.length < 4611686018427387904) (hf : ∀ (st : τ) (x : Rtr), x ∈ l → PCall Tryz.prog fi (eRtr x :: cs) (S st) (fun r s => r = .bool (step st x).1 ∧ s = S (step st x).2)) (st : τ) :
    PCall Tryz.prog 80 [.sl k (encL eRtr l), .fn fi cs] (S st) (fun r s => r = .bool (anyS step st l).1 ∧ s = S (anyS step st l).2) := by
  have e := idxS_any step l st 0 (Int.le_refl _)
  refine PCall_w [.tmp 4] 9 Tryz.func80 (by rfl) rfl rfl rfl rfl ?_
  repeat' first |refine s1 ?_|refine gS ?_|refine wT rfl ?_|refine wF rfl ?_|refine wt rfl ?_|refine wf rfl ?_|(refine wC rfl (fun h=>?_) (fun h=>?_)<;>(try contradiction))|((first|refine rd ?_|refine ry [] c0 fun nu _ _=>?_);simp -dsimp (disch:=omega) only[go_sem])|refine e0 (by decide) ?_|(refine zA ?_ ?_;omega)|refine zA (of_eq_true PutAt_put) ?_|refine gT ?_|refine gF ?_|(refine gI (fun h=>?_) (fun h=>?_)<;>(try contradiction)<;>(try refine rd ?_)<;>(try simp -dsimp (disch:=omega) only[go_sem,h]))|refine zX _ (zX _ (zA (zA rfl rfl) ?_)) |refine uw (idxFRtr fi cs S step k l hl hf st) ?_ |fail
  rw [← e]; exact ⟨_, Store.Sub.refl _, rfl, rfl⟩
theorem each1Rtr (fi : Nat) (cs : List AV) (x : Rtr) (σ τ : Store) (b : Bool) (h : PCall Tryz.prog fi (eRtr x :: cs) σ (fun r s => r = .bool b ∧ s = τ)) :
    PCall Tryz.prog 81 [eRtr x, .ip (.fn fi cs) 0] σ (fun r s => r = .bool (!b) ∧ s = τ) := by
  refine PCall_w [.tmp 3] 8 Tryz.func81 (by rfl) rfl rfl rfl rfl ?_
  repeat' first |refine s1 ?_|refine gS ?_|refine wT rfl ?_|refine wF rfl ?_|refine wt rfl ?_|refine wf rfl ?_|(refine wC rfl (fun h=>?_) (fun h=>?_)<;>(try contradiction))|((first|refine rd ?_|refine ry [] c0 fun nu _ _=>?_);simp -dsimp (disch:=omega) only[go_sem])|refine e0 (by decide) ?_|(refine zA ?_ ?_;omega)|refine zA (of_eq_true PutAt_put) ?_|refine gT ?_|refine gF ?_|(refine gI (fun h=>?_) (fun h=>?_)<;>(try contradiction)<;>(try refine rd ?_)<;>(try simp -dsimp (disch:=omega) only[go_sem,h]))|refine zX _ (zX _ (zA (zA rfl rfl) ?_)) |refine uw (h) ?_ |fail
theorem eachRtr {τ : Type} (fi : Nat) (cs : List AV) (S : τ → Store) (step : τ → Rtr → Bool × τ) (k : SK) (l : List Rtr) (most : Int) (hl : l.length < 4611686018427387904) (hf : ∀ (st : τ) (x : Rtr), x ∈ l → PCall Tryz.prog fi (eRtr x :: cs) (S st) (fun r s => r = .bool (step st x).1 ∧ s = S (step st x).2)) (st : τ) :
    PCall Tryz.prog 32 [.sl k (encL eRtr l), .int .i64 most, .fn fi cs] (S st) (fun r s => r = .bool (eachS most step st l).1 ∧ s = S (eachS most step st l).2) := by
  have hc := conFRtr 81 [.ip (.fn fi cs) 0] S (fun st x => (!(step st x).1, (step st x).2)) k l hl (fun st x hx => each1Rtr fi cs x _ _ _ (hf st x hx)) st
  unfold eachS
  refine PCall_w [.tmp 6] 17 Tryz.func32 (by rfl) rfl rfl rfl rfl ?_
  by_cases hm : (l.length : Int) ≤ most
  · rw [if_pos hm]
    repeat' first |refine s1 ?_|refine gS ?_|refine wT rfl ?_|refine wF rfl ?_|refine wt rfl ?_|refine wf rfl ?_|(refine wC rfl (fun h=>?_) (fun h=>?_)<;>(try contradiction))|((first|refine rd ?_|refine ry [] c0 fun nu _ _=>?_);simp -dsimp (disch:=omega) only[go_sem,hm])|refine e0 (by decide) ?_|(refine zA ?_ ?_;omega)|refine zA (of_eq_true PutAt_put) ?_|refine gT ?_|refine gF ?_|(refine gI (fun h=>?_) (fun h=>?_)<;>(try contradiction)<;>(try refine rd ?_)<;>(try simp -dsimp (disch:=omega) only[go_sem,h,hm]))|refine zX _ (zX _ (zA (zA rfl rfl) ?_)) |refine uw (hc) ?_ |fail
  · rw [if_neg hm]
    repeat' first |refine s1 ?_|refine gS ?_|refine wT rfl ?_|refine wF rfl ?_|refine wt rfl ?_|refine wf rfl ?_|(refine wC rfl (fun h=>?_) (fun h=>?_)<;>(try contradiction))|((first|refine rd ?_|refine ry [] c0 fun nu _ _=>?_);simp -dsimp (disch:=omega) only[go_sem,hm])|refine e0 (by decide) ?_|(refine zA ?_ ?_;omega)|refine zA (of_eq_true PutAt_put) ?_|refine gT ?_|refine gF ?_|(refine gI (fun h=>?_) (fun h=>?_)<;>(try contradiction)<;>(try refine rd ?_)<;>(try simp -dsimp (disch:=omega) only[go_sem,h,hm]))|refine zX _ (zX _ (zA (zA rfl rfl) ?_)) |fail
theorem eachPRtr (fi : Nat) (cs : List AV) (q : Rtr → Bool) (k : SK) (l : List Rtr) (most : Int) (hl : l.length < 4611686018427387904) (hf : ∀ x : Rtr, x ∈ l → Pure Tryz.prog fi (eRtr x :: cs) (.bool (q x))) :
    Pure Tryz.prog 32 [.sl k (encL eRtr l), .int .i64 most, .fn fi cs] (.bool (eachP most q l)) := fun σ => by
  rw [← eachS_pure]
  exact eachRtr fi cs (fun _ : Unit => σ) (fun _ x => (q x, ())) k l most hl (fun _ x hx => hf x hx σ) ()
theorem idxFCls {τ : Type} (fi : Nat) (cs : List AV) (S : τ → Store) (step : τ → Cls → Bool × τ) (k : SK) (l : List Cls) (hl : l.length < 4611686018427387904) (hf : ∀ (st : τ) (x : Cls), x ∈ l → PCall Tryz.prog fi (eCls x :: cs) (S st) (fun r s => r = .bool (step st x).1 ∧ s = S (step st x).2)) (st : τ) :
    PCall Tryz.prog 162 [.sl k (encL eCls l), .fn fi cs] (S st) (fun r s => r = .int .i64 (idxS step st 0 l).1 ∧ s = S (idxS step st 0 l).2) := by
  refine PCall_w [.tmp 4] 19 Tryz.func162 (by rfl) rfl rfl rfl rfl ?_
  repeat' first |refine s1 ?_|refine gS ?_|refine wT rfl ?_|refine wF rfl ?_|refine wt rfl ?_|refine wf rfl ?_|(refine wC rfl (fun h=>?_) (fun h=>?_)<;>(try contradiction))|((first|refine rd ?_|refine ry [] c0 fun nu _ _=>?_);simp -dsimp (disch:=omega) only[go_sem])|refine e0 (by decide) ?_|(refine zA ?_ ?_;omega)|refine zA (of_eq_true PutAt_put) ?_|refine gT ?_|refine gF ?_|(refine gI (fun h=>?_) (fun h=>?_)<;>(try contradiction)<;>(try refine rd ?_)<;>(try simp -dsimp (disch:=omega) only[go_sem,h]))|refine zX _ (zX _ (zA (zA rfl rfl) ?_)) |fail
  refine W_loop_st (fun x : Nat × τ => [(0, .sl k (encL eCls l)), (1, .fn fi cs), (6, .sl k (encL eCls l)), (7, .int .i64 l.length), (8, .int .i64 x.1)]) (fun x => S x.2) (fun x => x.1 ≤ l.length ∧ idxS step st 0 l = idxS step x.2 x.1 (l.drop x.1)) (fun x => l.length - x.1) (0, st) ⟨Nat.zero_le _, rfl⟩ (Env.Sub_of_has (by simp [Env.Has, Env.get])) (Store.Sub.refl _) ?_
  rintro ⟨i, u⟩ ⟨hi, hor⟩
  simp only at hi hor
  by_cases hlt : i < l.length
  · have ho := idxS_drop step u l i hlt i
    have hfx := hf u (l.getD i default) (by rw [List.getD_eq_getElem?_getD, List.getElem?_eq_getElem hlt]; exact List.getElem_mem hlt)
    repeat' first |refine s1 ?_|refine gS ?_|refine wT rfl ?_|refine wF rfl ?_|refine wt rfl ?_|refine wf rfl ?_|(refine wC rfl (fun h=>?_) (fun h=>?_)<;>(try contradiction))|((first|refine rd ?_|refine ry [] c0 fun nu _ _=>?_);simp -dsimp (disch:=omega) only[go_sem])|refine e0 (by decide) ?_|(refine zA ?_ ?_;omega)|refine zA (of_eq_true PutAt_put) ?_|refine gT ?_|refine gF ?_|(refine gI (fun h=>?_) (fun h=>?_)<;>(try contradiction)<;>(try refine rd ?_)<;>(try simp -dsimp (disch:=omega) only[go_sem,h]))|refine zX _ (zX _ (zA (zA rfl rfl) ?_)) |refine uw (hfx) ?_ |fail
    · rw [hor, ho, if_pos h]; exact ⟨_, Store.Sub.refl _, rfl, rfl⟩
    · rw [if_neg (by rw [h]; simp)] at ho
      exact ⟨(i + 1, _), by simp only; omega, ⟨by simp only; omega, by rw [hor, ho]; rfl⟩, Env.Sub_of_has (by simp [Env.Has, Env.get]), Store.Sub.refl _⟩
  · have hi' : i = l.length := by omega
    subst hi'
    repeat' first |refine s1 ?_|refine gS ?_|refine wT rfl ?_|refine wF rfl ?_|refine wt rfl ?_|refine wf rfl ?_|(refine wC rfl (fun h=>?_) (fun h=>?_)<;>(try contradiction))|((first|refine rd ?_|refine ry [] c0 fun nu _ _=>?_);simp -dsimp (disch:=omega) only[go_sem])|refine e0 (by decide) ?_|(refine zA ?_ ?_;omega)|refine zA (of_eq_true PutAt_put) ?_|refine gT ?_|refine gF ?_|(refine gI (fun h=>?_) (fun h=>?_)<;>(try contradiction)<;>(try refine rd ?_)<;>(try simp -dsimp (disch:=omega) only[go_sem,h]))|refine zX _ (zX _ (zA (zA rfl rfl) ?_)) |fail
    rw [hor, List.drop_length]; exact ⟨_, Store.Sub.refl _, rfl, rfl⟩
theorem conFCls {τ : Type} (fi : Nat) (cs : List AV) (S : τ → Store) (step : τ → Cls → Bool × τ) (k : SK) (l : List Cls) (hl : l.length < 4611686018427387904) (hf : ∀ (st : τ) (x : Cls), x ∈ l → PCall Tryz.prog fi (eCls x :: cs) (S st) (fun r s => r = .bool (step st x).1 ∧ s = S (step st x).2)) (st : τ) :
    PCall Tryz.prog 127 [.sl k (encL eCls l), .fn fi cs] (S st) (fun r s => r = .bool (anyS step st l).1 ∧ s = S (anyS step st l).2) := by
  have e := idxS_any step l st 0 (Int.le_refl _)
  refine PCall_w [.tmp 4] 9 Tryz.func127 (by rfl) rfl rfl rfl rfl ?_
  repeat' first |refine s1 ?_|refine gS ?_|refine wT rfl ?_|refine wF rfl ?_|refine wt rfl ?_|refine wf rfl ?_|(refine wC rfl (fun h=>?_) (fun h=>?_)<;>(try contradiction))|((first|refine rd ?_|refine ry [] c0 fun nu _ _=>?_);simp -dsimp (disch:=omega) only[go_sem])|refine e0 (by decide) ?_|(refine zA ?_ ?_;omega)|refine zA (of_eq_true PutAt_put) ?_|refine gT ?_|refine gF ?_|(refine gI (fun h=>?_) (fun h=>?_)<;>(try contradiction)<;>(try refine rd ?_)<;>(try simp -dsimp (disch:=omega) only[go_sem,h]))|refine zX _ (zX _ (zA (zA rfl rfl) ?_)) |refine uw (idxFCls fi cs S step k l hl hf st) ?_ |fail
  rw [← e]; exact ⟨_, Store.Sub.refl _, rfl, rfl⟩
theorem each1Cls (fi : Nat) (cs : List AV) (x : Cls) (σ τ : Store) (b : Bool) (h : PCall Tryz.prog fi (eCls x :: cs) σ (fun r s => r = .bool b ∧ s = τ)) :
    PCall Tryz.prog 128 [eCls x, .ip (.fn fi cs) 0] σ (fun r s => r = .bool (!b) ∧ s = τ) := by
  refine PCall_w [.tmp 3] 8 Tryz.func128 (by rfl) rfl rfl rfl rfl ?_
  repeat' first |refine s1 ?_|refine gS ?_|refine wT rfl ?_|refine wF rfl ?_|refine wt rfl ?_|refine wf rfl ?_|(refine wC rfl (fun h=>?_) (fun h=>?_)<;>(try contradiction))|((first|refine rd ?_|refine ry [] c0 fun nu _ _=>?_);simp -dsimp (disch:=omega) only[go_sem])|refine e0 (by decide) ?_|(refine zA ?_ ?_;omega)|refine zA (of_eq_true PutAt_put) ?_|refine gT ?_|refine gF ?_|(refine gI (fun h=>?_) (fun h=>?_)<;>(try contradiction)<;>(try refine rd ?_)<;>(try simp -dsimp (disch:=omega) only[go_sem,h]))|refine zX _ (zX _ (zA (zA rfl rfl) ?_)) |refine uw (h) ?_ |fail
theorem eachCls {τ : Type} (fi : Nat) (cs : List AV) (S : τ → Store) (step : τ → Cls → Bool × τ) (k : SK) (l : List Cls) (most : Int) (hl : l.length < 4611686018427387904) (hf : ∀ (st : τ) (x : Cls), x ∈ l → PCall Tryz.prog fi (eCls x :: cs) (S st) (fun r s => r = .bool (step st x).1 ∧ s = S (step st x).2)) (st : τ) :
    PCall Tryz.prog 75 [.sl k (encL eCls l), .int .i64 most, .fn fi cs] (S st) (fun r s => r = .bool (eachS most step st l).1 ∧ s = S (eachS most step st l).2) := by
  have hc := conFCls 128 [.ip (.fn fi cs) 0] S (fun st x => (!(step st x).1, (step st x).2)) k l hl (fun st x hx => each1Cls fi cs x _ _ _ (hf st x hx)) st
  unfold eachS
  refine PCall_w [.tmp 6] 17 Tryz.func75 (by rfl) rfl rfl rfl rfl ?_
  by_cases hm : (l.length : Int) ≤ most
  · rw [if_pos hm]
    repeat' first |refine s1 ?_|refine gS ?_|refine wT rfl ?_|refine wF rfl ?_|refine wt rfl ?_|refine wf rfl ?_|(refine wC rfl (fun h=>?_) (fun h=>?_)<;>(try contradiction))|((first|refine rd ?_|refine ry [] c0 fun nu _ _=>?_);simp -dsimp (disch:=omega) only[go_sem,hm])|refine e0 (by decide) ?_|(refine zA ?_ ?_;omega)|refine zA (of_eq_true PutAt_put) ?_|refine gT ?_|refine gF ?_|(refine gI (fun h=>?_) (fun h=>?_)<;>(try contradiction)<;>(try refine rd ?_)<;>(try simp -dsimp (disch:=omega) only[go_sem,h,hm]))|refine zX _ (zX _ (zA (zA rfl rfl) ?_)) |refine uw (hc) ?_ |fail
  · rw [if_neg hm]
    repeat' first |refine s1 ?_|refine gS ?_|refine wT rfl ?_|refine wF rfl ?_|refine wt rfl ?_|refine wf rfl ?_|(refine wC rfl (fun h=>?_) (fun h=>?_)<;>(try contradiction))|((first|refine rd ?_|refine ry [] c0 fun nu _ _=>?_);simp -dsimp (disch:=omega) only[go_sem,hm])|refine e0 (by decide) ?_|(refine zA ?_ ?_;omega)|refine zA (of_eq_true PutAt_put) ?_|refine gT ?_|refine gF ?_|(refine gI (fun h=>?_) (fun h=>?_)<;>(try contradiction)<;>(try refine rd ?_)<;>(try simp -dsimp (disch:=omega) only[go_sem,h,hm]))|refine zX _ (zX _ (zA (zA rfl rfl) ?_)) |fail
theorem idxFPfx {τ : Type} (fi : Nat) (cs : List AV) (S : τ → Store) (step : τ → Pfx → Bool × τ) (k : SK) (l : List Pfx) (hl : l.length < 4611686018427387904) (hf : ∀ (st : τ) (x : Pfx), x ∈ l → PCall Tryz.prog fi (ePfx x :: cs) (S st) (fun r s => r = .bool (step st x).1 ∧ s = S (step st x).2)) (st : τ) :
    PCall Tryz.prog 173 [.sl k (encL ePfx l), .fn fi cs] (S st) (fun r s => r = .int .i64 (idxS step st 0 l).1 ∧ s = S (idxS step st 0 l).2) := by
  refine PCall_w [.tmp 4] 19 Tryz.func173 (by rfl) rfl rfl rfl rfl ?_
  repeat' first |refine s1 ?_|refine gS ?_|refine wT rfl ?_|refine wF rfl ?_|refine wt rfl ?_|refine wf rfl ?_|(refine wC rfl (fun h=>?_) (fun h=>?_)<;>(try contradiction))|((first|refine rd ?_|refine ry [] c0 fun nu _ _=>?_);simp -dsimp (disch:=omega) only[go_sem])|refine e0 (by decide) ?_|(refine zA ?_ ?_;omega)|refine zA (of_eq_true PutAt_put) ?_|refine gT ?_|refine gF ?_|(refine gI (fun h=>?_) (fun h=>?_)<;>(try contradiction)<;>(try refine rd ?_)<;>(try simp -dsimp (disch:=omega) only[go_sem,h]))|refine zX _ (zX _ (zA (zA rfl rfl) ?_)) |fail
  refine W_loop_st (fun x : Nat × τ => [(0, .sl k (encL ePfx l)), (1, .fn fi cs), (6, .sl k (encL ePfx l)), (7, .int .i64 l.length), (8, .int .i64 x.1)]) (fun x => S x.2) (fun x => x.1 ≤ l.length ∧ idxS step st 0 l = idxS step x.2 x.1 (l.drop x.1)) (fun x => l.length - x.1) (0, st) ⟨Nat.zero_le _, rfl⟩ (Env.Sub_of_has (by simp [Env.Has, Env.get])) (Store.Sub.refl _) ?_
  rintro ⟨i, u⟩ ⟨hi, hor⟩
  simp only at hi hor
  by_cases hlt : i < l.length
  · have ho := idxS_drop step u l i hlt i
    have hfx := hf u (l.getD i default) (by rw [List.getD_eq_getElem?_getD, List.getElem?_eq_getElem hlt]; exact List.getElem_mem hlt)
    repeat' first |refine s1 ?_|refine gS ?_|refine wT rfl ?_|refine wF rfl ?_|refine wt rfl ?_|refine wf rfl ?_|(refine wC rfl (fun h=>?_) (fun h=>?_)<;>(try contradiction))|((first|refine rd ?_|refine ry [] c0 fun nu _ _=>?_);simp -dsimp (disch:=omega) only[go_sem])|refine e0 (by decide) ?_|(refine zA ?_ ?_;omega)|refine zA (of_eq_true PutAt_put) ?_|refine gT ?_|refine gF ?_|(refine gI (fun h=>?_) (fun h=>?_)<;>(try contradiction)<;>(try refine rd ?_)<;>(try simp -dsimp (disch:=omega) only[go_sem,h]))|refine zX _ (zX _ (zA (zA rfl rfl) ?_)) |refine uw (hfx) ?_ |fail
    · rw [hor, ho, if_pos h]; exact ⟨_, Store.Sub.refl _, rfl, rfl⟩
    · rw [if_neg (by rw [h]; simp)] at ho
      exact ⟨(i + 1, _), by simp only; omega, ⟨by simp only; omega, by rw [hor, ho]; rfl⟩, Env.Sub_of_has (by simp [Env.Has, Env.get]), Store.Sub.refl _⟩
  · have hi' : i = l.length := by omega
    subst hi'
    repeat' first |refine s1 ?_|refine gS ?_|refine wT rfl ?_|refine wF rfl ?_|refine wt rfl ?_|refine wf rfl ?_|(refine wC rfl (fun h=>?_) (fun h=>?_)<;>(try contradiction))|((first|refine rd ?_|refine ry [] c0 fun nu _ _=>?_);simp -dsimp (disch:=omega) only[go_sem])|refine e0 (by decide) ?_|(refine zA ?_ ?_;omega)|refine zA (of_eq_true PutAt_put) ?_|refine gT ?_|refine gF ?_|(refine gI (fun h=>?_) (fun h=>?_)<;>(try contradiction)<;>(try refine rd ?_)<;>(try simp -dsimp (disch:=omega) only[go_sem,h]))|refine zX _ (zX _ (zA (zA rfl rfl) ?_)) |fail
    rw [hor, List.drop_length]; exact ⟨_, Store.Sub.refl _, rfl, rfl⟩
theorem conFPfx {τ : Type} (fi : Nat) (cs : List AV) (S : τ → Store) (step : τ → Pfx → Bool × τ) (k : SK) (l : List Pfx) (hl : l.length < 4611686018427387904) (hf : ∀ (st : τ) (x : Pfx), x ∈ l → PCall Tryz.prog fi (ePfx x :: cs) (S st) (fun r s => r = .bool (step st x).1 ∧ s = S (step st x).2)) (st : τ) :
    PCall Tryz.prog 136 [.sl k (encL ePfx l), .fn fi cs] (S st) (fun r s => r = .bool (anyS step st l).1 ∧ s = S (anyS step st l).2) := by
  have e := idxS_any step l st 0 (Int.le_refl _)
  refine PCall_w [.tmp 4] 9 Tryz.func136 (by rfl) rfl rfl rfl rfl ?_
  repeat' first |refine s1 ?_|refine gS ?_|refine wT rfl ?_|refine wF rfl ?_|refine wt rfl ?_|refine wf rfl ?_|(refine wC rfl (fun h=>?_) (fun h=>?_)<;>(try contradiction))|((first|refine rd ?_|refine ry [] c0 fun nu _ _=>?_);simp -dsimp (disch:=omega) only[go_sem])|refine e0 (by decide) ?_|(refine zA ?_ ?_;omega)|refine zA (of_eq_true PutAt_put) ?_|refine gT ?_|refine gF ?_|(refine gI (fun h=>?_) (fun h=>?_)<;>(try contradiction)<;>(try refine rd ?_)<;>(try simp -dsimp (disch:=omega) only[go_sem,h]))|refine zX _ (zX _ (zA (zA rfl rfl) ?_)) |refine uw (idxFPfx fi cs S step k l hl hf st) ?_ |fail
  rw [← e]; exact ⟨_, Store.Sub.refl _, rfl, rfl⟩
theorem each1Pfx (fi : Nat) (cs : List AV) (x : Pfx) (σ τ : Store) (b : Bool) (h : PCall Tryz.prog fi (ePfx x :: cs) σ (fun r s => r = .bool b ∧ s = τ)) :
    PCall Tryz.prog 137 [ePfx x, .ip (.fn fi cs) 0] σ (fun r s => r = .bool (!b) ∧ s = τ) := by
  refine PCall_w [.tmp 3] 8 Tryz.func137 (by rfl) rfl rfl rfl rfl ?_
  repeat' first |refine s1 ?_|refine gS ?_|refine wT rfl ?_|refine wF rfl ?_|refine wt rfl ?_|refine wf rfl ?_|(refine wC rfl (fun h=>?_) (fun h=>?_)<;>(try contradiction))|((first|refine rd ?_|refine ry [] c0 fun nu _ _=>?_);simp -dsimp (disch:=omega) only[go_sem])|refine e0 (by decide) ?_|(refine zA ?_ ?_;omega)|refine zA (of_eq_true PutAt_put) ?_|refine gT ?_|refine gF ?_|(refine gI (fun h=>?_) (fun h=>?_)<;>(try contradiction)<;>(try refine rd ?_)<;>(try simp -dsimp (disch:=omega) only[go_sem,h]))|refine zX _ (zX _ (zA (zA rfl rfl) ?_)) |refine uw (h) ?_ |fail
theorem eachPfx {τ : Type} (fi : Nat) (cs : List AV) (S : τ → Store) (step : τ → Pfx → Bool × τ) (k : SK) (l : List Pfx) (most : Int) (hl : l.length < 4611686018427387904) (hf : ∀ (st : τ) (x : Pfx), x ∈ l → PCall Tryz.prog fi (ePfx x :: cs) (S st) (fun r s => r = .bool (step st x).1 ∧ s = S (step st x).2)) (st : τ) :
    PCall Tryz.prog 82 [.sl k (encL ePfx l), .int .i64 most, .fn fi cs] (S st) (fun r s => r = .bool (eachS most step st l).1 ∧ s = S (eachS most step st l).2) := by
  have hc := conFPfx 137 [.ip (.fn fi cs) 0] S (fun st x => (!(step st x).1, (step st x).2)) k l hl (fun st x hx => each1Pfx fi cs x _ _ _ (hf st x hx)) st
  unfold eachS
  refine PCall_w [.tmp 6] 17 Tryz.func82 (by rfl) rfl rfl rfl rfl ?_
  by_cases hm : (l.length : Int) ≤ most
  · rw [if_pos hm]
    repeat' first |refine s1 ?_|refine gS ?_|refine wT rfl ?_|refine wF rfl ?_|refine wt rfl ?_|refine wf rfl ?_|(refine wC rfl (fun h=>?_) (fun h=>?_)<;>(try contradiction))|((first|refine rd ?_|refine ry [] c0 fun nu _ _=>?_);simp -dsimp (disch:=omega) only[go_sem,hm])|refine e0 (by decide) ?_|(refine zA ?_ ?_;omega)|refine zA (of_eq_true PutAt_put) ?_|refine gT ?_|refine gF ?_|(refine gI (fun h=>?_) (fun h=>?_)<;>(try contradiction)<;>(try refine rd ?_)<;>(try simp -dsimp (disch:=omega) only[go_sem,h,hm]))|refine zX _ (zX _ (zA (zA rfl rfl) ?_)) |refine uw (hc) ?_ |fail
  · rw [if_neg hm]
    repeat' first |refine s1 ?_|refine gS ?_|refine wT rfl ?_|refine wF rfl ?_|refine wt rfl ?_|refine wf rfl ?_|(refine wC rfl (fun h=>?_) (fun h=>?_)<;>(try contradiction))|((first|refine rd ?_|refine ry [] c0 fun nu _ _=>?_);simp -dsimp (disch:=omega) only[go_sem,hm])|refine e0 (by decide) ?_|(refine zA ?_ ?_;omega)|refine zA (of_eq_true PutAt_put) ?_|refine gT ?_|refine gF ?_|(refine gI (fun h=>?_) (fun h=>?_)<;>(try contradiction)<;>(try refine rd ?_)<;>(try simp -dsimp (disch:=omega) only[go_sem,h,hm]))|refine zX _ (zX _ (zA (zA rfl rfl) ?_)) |fail
theorem eachPPfx (fi : Nat) (cs : List AV) (q : Pfx → Bool) (k : SK) (l : List Pfx) (most : Int) (hl : l.length < 4611686018427387904) (hf : ∀ x : Pfx, x ∈ l → Pure Tryz.prog fi (ePfx x :: cs) (.bool (q x))) :
    Pure Tryz.prog 82 [.sl k (encL ePfx l), .int .i64 most, .fn fi cs] (.bool (eachP most q l)) := fun σ => by
  rw [← eachS_pure]
  exact eachPfx fi cs (fun _ : Unit => σ) (fun _ x => (q x, ())) k l most hl (fun _ x hx => hf x hx σ) ()
theorem idxFNbr {τ : Type} (fi : Nat) (cs : List AV) (S : τ → Store) (step : τ → Nbr → Bool × τ) (k : SK) (l : List Nbr) (hl : l.length < 4611686018427387904) (hf : ∀ (st : τ) (x : Nbr), x ∈ l → PCall Tryz.prog fi (eNbr x :: cs) (S st) (fun r s => r = .bool (step st x).1 ∧ s = S (step st x).2)) (st : τ) :
    PCall Tryz.prog 174 [.sl k (encL eNbr l), .fn fi cs] (S st) (fun r s => r = .int .i64 (idxS step st 0 l).1 ∧ s = S (idxS step st 0 l).2) := by
  refine PCall_w [.tmp 4] 19 Tryz.func174 (by rfl) rfl rfl rfl rfl ?_
  repeat' first |refine s1 ?_|refine gS ?_|refine wT rfl ?_|refine wF rfl ?_|refine wt rfl ?_|refine wf rfl ?_|(refine wC rfl (fun h=>?_) (fun h=>?_)<;>(try contradiction))|((first|refine rd ?_|refine ry [] c0 fun nu _ _=>?_);simp -dsimp (disch:=omega) only[go_sem])|refine e0 (by decide) ?_|(refine zA ?_ ?_;omega)|refine zA (of_eq_true PutAt_put) ?_|refine gT ?_|refine gF ?_|(refine gI (fun h=>?_) (fun h=>?_)<;>(try contradiction)<;>(try refine rd ?_)<;>(try simp -dsimp (disch:=omega) only[go_sem,h]))|refine zX _ (zX _ (zA (zA rfl rfl) ?_)) |fail
  refine W_loop_st (fun x : Nat × τ => [(0, .sl k (encL eNbr l)), (1, .fn fi cs), (6, .sl k (encL eNbr l)), (7, .int .i64 l.length), (8, .int .i64 x.1)]) (fun x => S x.2) (fun x => x.1 ≤ l.length ∧ idxS step st 0 l = idxS step x.2 x.1 (l.drop x.1)) (fun x => l.length - x.1) (0, st) ⟨Nat.zero_le _, rfl⟩ (Env.Sub_of_has (by simp [Env.Has, Env.get])) (Store.Sub.refl _) ?_
  rintro ⟨i, u⟩ ⟨hi, hor⟩
  simp only at hi hor
  by_cases hlt : i < l.length
  · have ho := idxS_drop step u l i hlt i
    have hfx := hf u (l.getD i default) (by rw [List.getD_eq_getElem?_getD, List.getElem?_eq_getElem hlt]; exact List.getElem_mem hlt)
    repeat' first |refine s1 ?_|refine gS ?_|refine wT rfl ?_|refine wF rfl ?_|refine wt rfl ?_|refine wf rfl ?_|(refine wC rfl (fun h=>?_) (fun h=>?_)<;>(try contradiction))|((first|refine rd ?_|refine ry [] c0 fun nu _ _=>?_);simp -dsimp (disch:=omega) only[go_sem])|refine e0 (by decide) ?_|(refine zA ?_ ?_;omega)|refine zA (of_eq_true PutAt_put) ?_|refine gT ?_|refine gF ?_|(refine gI (fun h=>?_) (fun h=>?_)<;>(try contradiction)<;>(try refine rd ?_)<;>(try simp -dsimp (disch:=omega) only[go_sem,h]))|refine zX _ (zX _ (zA (zA rfl rfl) ?_)) |refine uw (hfx) ?_ |fail
    · rw [hor, ho, if_pos h]; exact ⟨_, Store.Sub.refl _, rfl, rfl⟩
    · rw [if_neg (by rw [h]; simp)] at ho
      exact ⟨(i + 1, _), by simp only; omega, ⟨by simp only; omega, by rw [hor, ho]; rfl⟩, Env.Sub_of_has (by simp [Env.Has, Env.get]), Store.Sub.refl _⟩
  · have hi' : i = l.length := by omega
    subst hi'
    repeat' first |refine s1 ?_|refine gS ?_|refine wT rfl ?_|refine wF rfl ?_|refine wt rfl ?_|refine wf rfl ?_|(refine wC rfl (fun h=>?_) (fun h=>?_)<;>(try contradiction))|((first|refine rd ?_|refine ry [] c0 fun nu _ _=>?_);simp -dsimp (disch:=omega) only[go_sem])|refine e0 (by decide) ?_|(refine zA ?_ ?_;omega)|refine zA (of_eq_true PutAt_put) ?_|refine gT ?_|refine gF ?_|(refine gI (fun h=>?_) (fun h=>?_)<;>(try contradiction)<;>(try refine rd ?_)<;>(try simp -dsimp (disch:=omega) only[go_sem,h]))|refine zX _ (zX _ (zA (zA rfl rfl) ?_)) |fail
    rw [hor, List.drop_length]; exact ⟨_, Store.Sub.refl _, rfl, rfl⟩
theorem conFNbr {τ : Type} (fi : Nat) (cs : List AV) (S : τ → Store) (step : τ → Nbr → Bool × τ) (k : SK) (l : List Nbr) (hl : l.length < 4611686018427387904) (hf : ∀ (st : τ) (x : Nbr), x ∈ l → PCall Tryz.prog fi (eNbr x :: cs) (S st) (fun r s => r = .bool (step st x).1 ∧ s = S (step st x).2)) (st : τ) :
    PCall Tryz.prog 140 [.sl k (encL eNbr l), .fn fi cs] (S st) (fun r s => r = .bool (anyS step st l).1 ∧ s = S (anyS step st l).2) := by
  have e := idxS_any step l st 0 (Int.le_refl _)
  refine PCall_w [.tmp 4] 9 Tryz.func140 (by rfl) rfl rfl rfl rfl ?_
  repeat' first |refine s1 ?_|refine gS ?_|refine wT rfl ?_|refine wF rfl ?_|refine wt rfl ?_|refine wf rfl ?_|(refine wC rfl (fun h=>?_) (fun h=>?_)<;>(try contradiction))|((first|refine rd ?_|refine ry [] c0 fun nu _ _=>?_);simp -dsimp (disch:=omega) only[go_sem])|refine e0 (by decide) ?_|(refine zA ?_ ?_;omega)|refine zA (of_eq_true PutAt_put) ?_|refine gT ?_|refine gF ?_|(refine gI (fun h=>?_) (fun h=>?_)<;>(try contradiction)<;>(try refine rd ?_)<;>(try simp -dsimp (disch:=omega) only[go_sem,h]))|refine zX _ (zX _ (zA (zA rfl rfl) ?_)) |refine uw (idxFNbr fi cs S step k l hl hf st) ?_ |fail
  rw [← e]; exact ⟨_, Store.Sub.refl _, rfl, rfl⟩
theorem each1Nbr (fi : Nat) (cs : List AV) (x : Nbr) (σ τ : Store) (b : Bool) (h : PCall Tryz.prog fi (eNbr x :: cs) σ (fun r s => r = .bool b ∧ s = τ)) :
    PCall Tryz.prog 141 [eNbr x, .ip (.fn fi cs) 0] σ (fun r s => r = .bool (!b) ∧ s = τ) := by
  refine PCall_w [.tmp 3] 8 Tryz.func141 (by rfl) rfl rfl rfl rfl ?_
  repeat' first |refine s1 ?_|refine gS ?_|refine wT rfl ?_|refine wF rfl ?_|refine wt rfl ?_|refine wf rfl ?_|(refine wC rfl (fun h=>?_) (fun h=>?_)<;>(try contradiction))|((first|refine rd ?_|refine ry [] c0 fun nu _ _=>?_);simp -dsimp (disch:=omega) only[go_sem])|refine e0 (by decide) ?_|(refine zA ?_ ?_;omega)|refine zA (of_eq_true PutAt_put) ?_|refine gT ?_|refine gF ?_|(refine gI (fun h=>?_) (fun h=>?_)<;>(try contradiction)<;>(try refine rd ?_)<;>(try simp -dsimp (disch:=omega) only[go_sem,h]))|refine zX _ (zX _ (zA (zA rfl rfl) ?_)) |refine uw (h) ?_ |fail
theorem eachNbr {τ : Type} (fi : Nat) (cs : List AV) (S : τ → Store) (step : τ → Nbr → Bool × τ) (k : SK) (l : List Nbr) (most : Int) (hl : l.length < 4611686018427387904) (hf : ∀ (st : τ) (x : Nbr), x ∈ l → PCall Tryz.prog fi (eNbr x :: cs) (S st) (fun r s => r = .bool (step st x).1 ∧ s = S (step st x).2)) (st : τ) :
    PCall Tryz.prog 85 [.sl k (encL eNbr l), .int .i64 most, .fn fi cs] (S st) (fun r s => r = .bool (eachS most step st l).1 ∧ s = S (eachS most step st l).2) := by
  have hc := conFNbr 141 [.ip (.fn fi cs) 0] S (fun st x => (!(step st x).1, (step st x).2)) k l hl (fun st x hx => each1Nbr fi cs x _ _ _ (hf st x hx)) st
  unfold eachS
  refine PCall_w [.tmp 6] 17 Tryz.func85 (by rfl) rfl rfl rfl rfl ?_
  by_cases hm : (l.length : Int) ≤ most
  · rw [if_pos hm]
    repeat' first |refine s1 ?_|refine gS ?_|refine wT rfl ?_|refine wF rfl ?_|refine wt rfl ?_|refine wf rfl ?_|(refine wC rfl (fun h=>?_) (fun h=>?_)<;>(try contradiction))|((first|refine rd ?_|refine ry [] c0 fun nu _ _=>?_);simp -dsimp (disch:=omega) only[go_sem,hm])|refine e0 (by decide) ?_|(refine zA ?_ ?_;omega)|refine zA (of_eq_true PutAt_put) ?_|refine gT ?_|refine gF ?_|(refine gI (fun h=>?_) (fun h=>?_)<;>(try contradiction)<;>(try refine rd ?_)<;>(try simp -dsimp (disch:=omega) only[go_sem,h,hm]))|refine zX _ (zX _ (zA (zA rfl rfl) ?_)) |refine uw (hc) ?_ |fail
  · rw [if_neg hm]
    repeat' first |refine s1 ?_|refine gS ?_|refine wT rfl ?_|refine wF rfl ?_|refine wt rfl ?_|refine wf rfl ?_|(refine wC rfl (fun h=>?_) (fun h=>?_)<;>(try contradiction))|((first|refine rd ?_|refine ry [] c0 fun nu _ _=>?_);simp -dsimp (disch:=omega) only[go_sem,hm])|refine e0 (by decide) ?_|(refine zA ?_ ?_;omega)|refine zA (of_eq_true PutAt_put) ?_|refine gT ?_|refine gF ?_|(refine gI (fun h=>?_) (fun h=>?_)<;>(try contradiction)<;>(try refine rd ?_)<;>(try simp -dsimp (disch:=omega) only[go_sem,h,hm]))|refine zX _ (zX _ (zA (zA rfl rfl) ?_)) |fail
theorem eachPNbr (fi : Nat) (cs : List AV) (q : Nbr → Bool) (k : SK) (l : List Nbr) (most : Int) (hl : l.length < 4611686018427387904) (hf : ∀ x : Nbr, x ∈ l → Pure Tryz.prog fi (eNbr x :: cs) (.bool (q x))) :
    Pure Tryz.prog 85 [.sl k (encL eNbr l), .int .i64 most, .fn fi cs] (.bool (eachP most q l)) := fun σ => by
  rw [← eachS_pure]
  exact eachNbr fi cs (fun _ : Unit => σ) (fun _ x => (q x, ())) k l most hl (fun _ x hx => hf x hx σ) ()
theorem idxFLnk {τ : Type} (fi : Nat) (cs : List AV) (S : τ → Store) (step : τ → Lnk → Bool × τ) (k : SK) (l : List Lnk) (hl : l.length < 4611686018427387904) (hf : ∀ (st : τ) (x : Lnk), x ∈ l → PCall Tryz.prog fi (eLnk x :: cs) (S st) (fun r s => r = .bool (step st x).1 ∧ s = S (step st x).2)) (st : τ) :
    PCall Tryz.prog 175 [.sl k (encL eLnk l), .fn fi cs] (S st) (fun r s => r = .int .i64 (idxS step st 0 l).1 ∧ s = S (idxS step st 0 l).2) := by
  refine PCall_w [.tmp 4] 19 Tryz.func175 (by rfl) rfl rfl rfl rfl ?_
  repeat' first |refine s1 ?_|refine gS ?_|refine wT rfl ?_|refine wF rfl ?_|refine wt rfl ?_|refine wf rfl ?_|(refine wC rfl (fun h=>?_) (fun h=>?_)<;>(try contradiction))|((first|refine rd ?_|refine ry [] c0 fun nu _ _=>?_);simp -dsimp (disch:=omega) only[go_sem])|refine e0 (by decide) ?_|(refine zA ?_ ?_;omega)|refine zA (of_eq_true PutAt_put) ?_|refine gT ?_|refine gF ?_|(refine gI (fun h=>?_) (fun h=>?_)<;>(try contradiction)<;>(try refine rd ?_)<;>(try simp -dsimp (disch:=omega) only[go_sem,h]))|refine zX _ (zX _ (zA (zA rfl rfl) ?_)) |fail
  refine W_loop_st (fun x : Nat × τ => [(0, .sl k (encL eLnk l)), (1, .fn fi cs), (6, .sl k (encL eLnk l)), (7, .int .i64 l.length), (8, .int .i64 x.1)]) (fun x => S x.2) (fun x => x.1 ≤ l.length ∧ idxS step st 0 l = idxS step x.2 x.1 (l.drop x.1)) (fun x => l.length - x.1) (0, st) ⟨Nat.zero_le _, rfl⟩ (Env.Sub_of_has (by simp [Env.Has, Env.get])) (Store.Sub.refl _) ?_
  rintro ⟨i, u⟩ ⟨hi, hor⟩
  simp only at hi hor
  by_cases hlt : i < l.length
  · have ho := idxS_drop step u l i hlt i
    have hfx := hf u (l.getD i default) (by rw [List.getD_eq_getElem?_getD, List.getElem?_eq_getElem hlt]; exact List.getElem_mem hlt)
    repeat' first |refine s1 ?_|refine gS ?_|refine wT rfl ?_|refine wF rfl ?_|refine wt rfl ?_|refine wf rfl ?_|(refine wC rfl (fun h=>?_) (fun h=>?_)<;>(try contradiction))|((first|refine rd ?_|refine ry [] c0 fun nu _ _=>?_);simp -dsimp (disch:=omega) only[go_sem])|refine e0 (by decide) ?_|(refine zA ?_ ?_;omega)|refine zA (of_eq_true PutAt_put) ?_|refine gT ?_|refine gF ?_|(refine gI (fun h=>?_) (fun h=>?_)<;>(try contradiction)<;>(try refine rd ?_)<;>(try simp -dsimp (disch:=omega) only[go_sem,h]))|refine zX _ (zX _ (zA (zA rfl rfl) ?_)) |refine uw (hfx) ?_ |fail
    · rw [hor, ho, if_pos h]; exact ⟨_, Store.Sub.refl _, rfl, rfl⟩
    · rw [if_neg (by rw [h]; simp)] at ho
      exact ⟨(i + 1, _), by simp only; omega, ⟨by simp only; omega, by rw [hor, ho]; rfl⟩, Env.Sub_of_has (by simp [Env.Has, Env.get]), Store.Sub.refl _⟩
  · have hi' : i = l.length := by omega
    subst hi'
    repeat' first |refine s1 ?_|refine gS ?_|refine wT rfl ?_|refine wF rfl ?_|refine wt rfl ?_|refine wf rfl ?_|(refine wC rfl (fun h=>?_) (fun h=>?_)<;>(try contradiction))|((first|refine rd ?_|refine ry [] c0 fun nu _ _=>?_);simp -dsimp (disch:=omega) only[go_sem])|refine e0 (by decide) ?_|(refine zA ?_ ?_;omega)|refine zA (of_eq_true PutAt_put) ?_|refine gT ?_|refine gF ?_|(refine gI (fun h=>?_) (fun h=>?_)<;>(try contradiction)<;>(try refine rd ?_)<;>(try simp -dsimp (disch:=omega) only[go_sem,h]))|refine zX _ (zX _ (zA (zA rfl rfl) ?_)) |fail
    rw [hor, List.drop_length]; exact ⟨_, Store.Sub.refl _, rfl, rfl⟩
theorem conFLnk {τ : Type} (fi : Nat) (cs : List AV) (S : τ → Store) (step : τ → Lnk → Bool × τ) (k : SK) (l : List Lnk) (hl : l.length < 4611686018427387904) (hf : ∀ (st : τ) (x : Lnk), x ∈ l → PCall Tryz.prog fi (eLnk x :: cs) (S st) (fun r s => r = .bool (step st x).1 ∧ s = S (step st x).2)) (st : τ) :
    PCall Tryz.prog 142 [.sl k (encL eLnk l), .fn fi cs] (S st) (fun r s => r = .bool (anyS step st l).1 ∧ s = S (anyS step st l).2) := by
  have e := idxS_any step l st 0 (Int.le_refl _)
  refine PCall_w [.tmp 4] 9 Tryz.func142 (by rfl) rfl rfl rfl rfl ?_
  repeat' first |refine s1 ?_|refine gS ?_|refine wT rfl ?_|refine wF rfl ?_|refine wt rfl ?_|refine wf rfl ?_|(refine wC rfl (fun h=>?_) (fun h=>?_)<;>(try contradiction))|((first|refine rd ?_|refine ry [] c0 fun nu _ _=>?_);simp -dsimp (disch:=omega) only[go_sem])|refine e0 (by decide) ?_|(refine zA ?_ ?_;omega)|refine zA (of_eq_true PutAt_put) ?_|refine gT ?_|refine gF ?_|(refine gI (fun h=>?_) (fun h=>?_)<;>(try contradiction)<;>(try refine rd ?_)<;>(try simp -dsimp (disch:=omega) only[go_sem,h]))|refine zX _ (zX _ (zA (zA rfl rfl) ?_)) |refine uw (idxFLnk fi cs S step k l hl hf st) ?_ |fail
  rw [← e]; exact ⟨_, Store.Sub.refl _, rfl, rfl⟩
theorem each1Lnk (fi : Nat) (cs : List AV) (x : Lnk) (σ τ : Store) (b : Bool) (h : PCall Tryz.prog fi (eLnk x :: cs) σ (fun r s => r = .bool b ∧ s = τ)) :
    PCall Tryz.prog 143 [eLnk x, .ip (.fn fi cs) 0] σ (fun r s => r = .bool (!b) ∧ s = τ) := by
  refine PCall_w [.tmp 3] 8 Tryz.func143 (by rfl) rfl rfl rfl rfl ?_
  repeat' first |refine s1 ?_|refine gS ?_|refine wT rfl ?_|refine wF rfl ?_|refine wt rfl ?_|refine wf rfl ?_|(refine wC rfl (fun h=>?_) (fun h=>?_)<;>(try contradiction))|((first|refine rd ?_|refine ry [] c0 fun nu _ _=>?_);simp -dsimp (disch:=omega) only[go_sem])|refine e0 (by decide) ?_|(refine zA ?_ ?_;omega)|refine zA (of_eq_true PutAt_put) ?_|refine gT ?_|refine gF ?_|(refine gI (fun h=>?_) (fun h=>?_)<;>(try contradiction)<;>(try refine rd ?_)<;>(try simp -dsimp (disch:=omega) only[go_sem,h]))|refine zX _ (zX _ (zA (zA rfl rfl) ?_)) |refine uw (h) ?_ |fail
theorem eachLnk {τ : Type} (fi : Nat) (cs : List AV) (S : τ → Store) (step : τ → Lnk → Bool × τ) (k : SK) (l : List Lnk) (most : Int) (hl : l.length < 4611686018427387904) (hf : ∀ (st : τ) (x : Lnk), x ∈ l → PCall Tryz.prog fi (eLnk x :: cs) (S st) (fun r s => r = .bool (step st x).1 ∧ s = S (step st x).2)) (st : τ) :
    PCall Tryz.prog 88 [.sl k (encL eLnk l), .int .i64 most, .fn fi cs] (S st) (fun r s => r = .bool (eachS most step st l).1 ∧ s = S (eachS most step st l).2) := by
  have hc := conFLnk 143 [.ip (.fn fi cs) 0] S (fun st x => (!(step st x).1, (step st x).2)) k l hl (fun st x hx => each1Lnk fi cs x _ _ _ (hf st x hx)) st
  unfold eachS
  refine PCall_w [.tmp 6] 17 Tryz.func88 (by rfl) rfl rfl rfl rfl ?_
  by_cases hm : (l.length : Int) ≤ most
  · rw [if_pos hm]
    repeat' first |refine s1 ?_|refine gS ?_|refine wT rfl ?_|refine wF rfl ?_|refine wt rfl ?_|refine wf rfl ?_|(refine wC rfl (fun h=>?_) (fun h=>?_)<;>(try contradiction))|((first|refine rd ?_|refine ry [] c0 fun nu _ _=>?_);simp -dsimp (disch:=omega) only[go_sem,hm])|refine e0 (by decide) ?_|(refine zA ?_ ?_;omega)|refine zA (of_eq_true PutAt_put) ?_|refine gT ?_|refine gF ?_|(refine gI (fun h=>?_) (fun h=>?_)<;>(try contradiction)<;>(try refine rd ?_)<;>(try simp -dsimp (disch:=omega) only[go_sem,h,hm]))|refine zX _ (zX _ (zA (zA rfl rfl) ?_)) |refine uw (hc) ?_ |fail
  · rw [if_neg hm]
    repeat' first |refine s1 ?_|refine gS ?_|refine wT rfl ?_|refine wF rfl ?_|refine wt rfl ?_|refine wf rfl ?_|(refine wC rfl (fun h=>?_) (fun h=>?_)<;>(try contradiction))|((first|refine rd ?_|refine ry [] c0 fun nu _ _=>?_);simp -dsimp (disch:=omega) only[go_sem,hm])|refine e0 (by decide) ?_|(refine zA ?_ ?_;omega)|refine zA (of_eq_true PutAt_put) ?_|refine gT ?_|refine gF ?_|(refine gI (fun h=>?_) (fun h=>?_)<;>(try contradiction)<;>(try refine rd ?_)<;>(try simp -dsimp (disch:=omega) only[go_sem,h,hm]))|refine zX _ (zX _ (zA (zA rfl rfl) ?_)) |fail
theorem eachPLnk (fi : Nat) (cs : List AV) (q : Lnk → Bool) (k : SK) (l : List Lnk) (most : Int) (hl : l.length < 4611686018427387904) (hf : ∀ x : Lnk, x ∈ l → Pure Tryz.prog fi (eLnk x :: cs) (.bool (q x))) :
    Pure Tryz.prog 88 [.sl k (encL eLnk l), .int .i64 most, .fn fi cs] (.bool (eachP most q l)) := fun σ => by
  rw [← eachS_pure]
  exact eachLnk fi cs (fun _ : Unit => σ) (fun _ x => (q x, ())) k l most hl (fun _ x hx => hf x hx σ) ()
theorem idxFCom {τ : Type} (fi : Nat) (cs : List AV) (S : τ → Store) (step : τ → Com → Bool × τ) (k : SK) (l : List Com) (hl : l.length < 4611686018427387904) (hf : ∀ (st : τ) (x : Com), x ∈ l → PCall Tryz.prog fi (eCom x :: cs) (S st) (fun r s => r = .bool (step st x).1 ∧ s = S (step st x).2)) (st : τ) :
    PCall Tryz.prog 189 [.sl k (encL eCom l), .fn fi cs] (S st) (fun r s => r = .int .i64 (idxS step st 0 l).1 ∧ s = S (idxS step st 0 l).2) := by
  refine PCall_w [.tmp 4] 19 Tryz.func189 (by rfl) rfl rfl rfl rfl ?_
  repeat' first |refine s1 ?_|refine gS ?_|refine wT rfl ?_|refine wF rfl ?_|refine wt rfl ?_|refine wf rfl ?_|(refine wC rfl (fun h=>?_) (fun h=>?_)<;>(try contradiction))|((first|refine rd ?_|refine ry [] c0 fun nu _ _=>?_);simp -dsimp (disch:=omega) only[go_sem])|refine e0 (by decide) ?_|(refine zA ?_ ?_;omega)|refine zA (of_eq_true PutAt_put) ?_|refine gT ?_|refine gF ?_|(refine gI (fun h=>?_) (fun h=>?_)<;>(try contradiction)<;>(try refine rd ?_)<;>(try simp -dsimp (disch:=omega) only[go_sem,h]))|refine zX _ (zX _ (zA (zA rfl rfl) ?_)) |fail
  refine W_loop_st (fun x : Nat × τ => [(0, .sl k (encL eCom l)), (1, .fn fi cs), (6, .sl k (encL eCom l)), (7, .int .i64 l.length), (8, .int .i64 x.1)]) (fun x => S x.2) (fun x => x.1 ≤ l.length ∧ idxS step st 0 l = idxS step x.2 x.1 (l.drop x.1)) (fun x => l.length - x.1) (0, st) ⟨Nat.zero_le _, rfl⟩ (Env.Sub_of_has (by simp [Env.Has, Env.get])) (Store.Sub.refl _) ?_
  rintro ⟨i, u⟩ ⟨hi, hor⟩
  simp only at hi hor
  by_cases hlt : i < l.length
  · have ho := idxS_drop step u l i hlt i
    have hfx := hf u (l.getD i default) (by rw [List.getD_eq_getElem?_getD, List.getElem?_eq_getElem hlt]; exact List.getElem_mem hlt)
    repeat' first |refine s1 ?_|refine gS ?_|refine wT rfl ?_|refine wF rfl ?_|refine wt rfl ?_|refine wf rfl ?_|(refine wC rfl (fun h=>?_) (fun h=>?_)<;>(try contradiction))|((first|refine rd ?_|refine ry [] c0 fun nu _ _=>?_);simp -dsimp (disch:=omega) only[go_sem])|refine e0 (by decide) ?_|(refine zA ?_ ?_;omega)|refine zA (of_eq_true PutAt_put) ?_|refine gT ?_|refine gF ?_|(refine gI (fun h=>?_) (fun h=>?_)<;>(try contradiction)<;>(try refine rd ?_)<;>(try simp -dsimp (disch:=omega) only[go_sem,h]))|refine zX _ (zX _ (zA (zA rfl rfl) ?_)) |refine uw (hfx) ?_ |fail
    · rw [hor, ho, if_pos h]; exact ⟨_, Store.Sub.refl _, rfl, rfl⟩
    · rw [if_neg (by rw [h]; simp)] at ho
      exact ⟨(i + 1, _), by simp only; omega, ⟨by simp only; omega, by rw [hor, ho]; rfl⟩, Env.Sub_of_has (by simp [Env.Has, Env.get]), Store.Sub.refl _⟩
  · have hi' : i = l.length := by omega
    subst hi'
    repeat' first |refine s1 ?_|refine gS ?_|refine wT rfl ?_|refine wF rfl ?_|refine wt rfl ?_|refine wf rfl ?_|(refine wC rfl (fun h=>?_) (fun h=>?_)<;>(try contradiction))|((first|refine rd ?_|refine ry [] c0 fun nu _ _=>?_);simp -dsimp (disch:=omega) only[go_sem])|refine e0 (by decide) ?_|(refine zA ?_ ?_;omega)|refine zA (of_eq_true PutAt_put) ?_|refine gT ?_|refine gF ?_|(refine gI (fun h=>?_) (fun h=>?_)<;>(try contradiction)<;>(try refine rd ?_)<;>(try simp -dsimp (disch:=omega) only[go_sem,h]))|refine zX _ (zX _ (zA (zA rfl rfl) ?_)) |fail
    rw [hor, List.drop_length]; exact ⟨_, Store.Sub.refl _, rfl, rfl⟩
theorem conFCom {τ : Type} (fi : Nat) (cs : List AV) (S : τ → Store) (step : τ → Com → Bool × τ) (k : SK) (l : List Com) (hl : l.length < 4611686018427387904) (hf : ∀ (st : τ) (x : Com), x ∈ l → PCall Tryz.prog fi (eCom x :: cs) (S st) (fun r s => r = .bool (step st x).1 ∧ s = S (step st x).2)) (st : τ) :
    PCall Tryz.prog 169 [.sl k (encL eCom l), .fn fi cs] (S st) (fun r s => r = .bool (anyS step st l).1 ∧ s = S (anyS step st l).2) := by
  have e := idxS_any step l st 0 (Int.le_refl _)
  refine PCall_w [.tmp 4] 9 Tryz.func169 (by rfl) rfl rfl rfl rfl ?_
  repeat' first |refine s1 ?_|refine gS ?_|refine wT rfl ?_|refine wF rfl ?_|refine wt rfl ?_|refine wf rfl ?_|(refine wC rfl (fun h=>?_) (fun h=>?_)<;>(try contradiction))|((first|refine rd ?_|refine ry [] c0 fun nu _ _=>?_);simp -dsimp (disch:=omega) only[go_sem])|refine e0 (by decide) ?_|(refine zA ?_ ?_;omega)|refine zA (of_eq_true PutAt_put) ?_|refine gT ?_|refine gF ?_|(refine gI (fun h=>?_) (fun h=>?_)<;>(try contradiction)<;>(try refine rd ?_)<;>(try simp -dsimp (disch:=omega) only[go_sem,h]))|refine zX _ (zX _ (zA (zA rfl rfl) ?_)) |refine uw (idxFCom fi cs S step k l hl hf st) ?_ |fail
  rw [← e]; exact ⟨_, Store.Sub.refl _, rfl, rfl⟩
theorem each1Com (fi : Nat) (cs : List AV) (x : Com) (σ τ : Store) (b : Bool) (h : PCall Tryz.prog fi (eCom x :: cs) σ (fun r s => r = .bool b ∧ s = τ)) :
    PCall Tryz.prog 170 [eCom x, .ip (.fn fi cs) 0] σ (fun r s => r = .bool (!b) ∧ s = τ) := by
  refine PCall_w [.tmp 3] 8 Tryz.func170 (by rfl) rfl rfl rfl rfl ?_
  repeat' first |refine s1 ?_|refine gS ?_|refine wT rfl ?_|refine wF rfl ?_|refine wt rfl ?_|refine wf rfl ?_|(refine wC rfl (fun h=>?_) (fun h=>?_)<;>(try contradiction))|((first|refine rd ?_|refine ry [] c0 fun nu _ _=>?_);simp -dsimp (disch:=omega) only[go_sem])|refine e0 (by decide) ?_|(refine zA ?_ ?_;omega)|refine zA (of_eq_true PutAt_put) ?_|refine gT ?_|refine gF ?_|(refine gI (fun h=>?_) (fun h=>?_)<;>(try contradiction)<;>(try refine rd ?_)<;>(try simp -dsimp (disch:=omega) only[go_sem,h]))|refine zX _ (zX _ (zA (zA rfl rfl) ?_)) |refine uw (h) ?_ |fail
theorem eachCom {τ : Type} (fi : Nat) (cs : List AV) (S : τ → Store) (step : τ → Com → Bool × τ) (k : SK) (l : List Com) (most : Int) (hl : l.length < 4611686018427387904) (hf : ∀ (st : τ) (x : Com), x ∈ l → PCall Tryz.prog fi (eCom x :: cs) (S st) (fun r s => r = .bool (step st x).1 ∧ s = S (step st x).2)) (st : τ) :
    PCall Tryz.prog 132 [.sl k (encL eCom l), .int .i64 most, .fn fi cs] (S st) (fun r s => r = .bool (eachS most step st l).1 ∧ s = S (eachS most step st l).2) := by
  have hc := conFCom 170 [.ip (.fn fi cs) 0] S (fun st x => (!(step st x).1, (step st x).2)) k l hl (fun st x hx => each1Com fi cs x _ _ _ (hf st x hx)) st
  unfold eachS
  refine PCall_w [.tmp 6] 17 Tryz.func132 (by rfl) rfl rfl rfl rfl ?_
  by_cases hm : (l.length : Int) ≤ most
  · rw [if_pos hm]
    repeat' first |refine s1 ?_|refine gS ?_|refine wT rfl ?_|refine wF rfl ?_|refine wt rfl ?_|refine wf rfl ?_|(refine wC rfl (fun h=>?_) (fun h=>?_)<;>(try contradiction))|((first|refine rd ?_|refine ry [] c0 fun nu _ _=>?_);simp -dsimp (disch:=omega) only[go_sem,hm])|refine e0 (by decide) ?_|(refine zA ?_ ?_;omega)|refine zA (of_eq_true PutAt_put) ?_|refine gT ?_|refine gF ?_|(refine gI (fun h=>?_) (fun h=>?_)<;>(try contradiction)<;>(try refine rd ?_)<;>(try simp -dsimp (disch:=omega) only[go_sem,h,hm]))|refine zX _ (zX _ (zA (zA rfl rfl) ?_)) |refine uw (hc) ?_ |fail
  · rw [if_neg hm]
    repeat' first |refine s1 ?_|refine gS ?_|refine wT rfl ?_|refine wF rfl ?_|refine wt rfl ?_|refine wf rfl ?_|(refine wC rfl (fun h=>?_) (fun h=>?_)<;>(try contradiction))|((first|refine rd ?_|refine ry [] c0 fun nu _ _=>?_);simp -dsimp (disch:=omega) only[go_sem,hm])|refine e0 (by decide) ?_|(refine zA ?_ ?_;omega)|refine zA (of_eq_true PutAt_put) ?_|refine gT ?_|refine gF ?_|(refine gI (fun h=>?_) (fun h=>?_)<;>(try contradiction)<;>(try refine rd ?_)<;>(try simp -dsimp (disch:=omega) only[go_sem,h,hm]))|refine zX _ (zX _ (zA (zA rfl rfl) ?_)) |fail
theorem eachPCom (fi : Nat) (cs : List AV) (q : Com → Bool) (k : SK) (l : List Com) (most : Int) (hl : l.length < 4611686018427387904) (hf : ∀ x : Com, x ∈ l → Pure Tryz.prog fi (eCom x :: cs) (.bool (q x))) :
    Pure Tryz.prog 132 [.sl k (encL eCom l), .int .i64 most, .fn fi cs] (.bool (eachP most q l)) := fun σ => by
  rw [← eachS_pure]
  exact eachCom fi cs (fun _ : Unit => σ) (fun _ x => (q x, ())) k l most hl (fun _ x hx => hf x hx σ) ()
theorem idxFI {τ : Type} (fi : Nat) (cs : List AV) (S : τ → Store) (step : τ → Int → Bool × τ) (k : SK) (l : List Int) (hl : l.length < 4611686018427387904) (hf : ∀ (st : τ) (x : Int), x ∈ l → PCall Tryz.prog fi (eI x :: cs) (S st) (fun r s => r = .bool (step st x).1 ∧ s = S (step st x).2)) (st : τ) :
    PCall Tryz.prog 190 [.sl k (ints l), .fn fi cs] (S st) (fun r s => r = .int .i64 (idxS step st 0 l).1 ∧ s = S (idxS step st 0 l).2) := by
  refine PCall_w [.tmp 4] 19 Tryz.func190 (by rfl) rfl rfl rfl rfl ?_
  repeat' first |refine s1 ?_|refine gS ?_|refine wT rfl ?_|refine wF rfl ?_|refine wt rfl ?_|refine wf rfl ?_|(refine wC rfl (fun h=>?_) (fun h=>?_)<;>(try contradiction))|((first|refine rd ?_|refine ry [] c0 fun nu _ _=>?_);simp -dsimp (disch:=omega) only[go_sem])|refine e0 (by decide) ?_|(refine zA ?_ ?_;omega)|refine zA (of_eq_true PutAt_put) ?_|refine gT ?_|refine gF ?_|(refine gI (fun h=>?_) (fun h=>?_)<;>(try contradiction)<;>(try refine rd ?_)<;>(try simp -dsimp (disch:=omega) only[go_sem,h]))|refine zX _ (zX _ (zA (zA rfl rfl) ?_)) |fail
  refine W_loop_st (fun x : Nat × τ => [(0, .sl k (ints l)), (1, .fn fi cs), (6, .sl k (ints l)), (7, .int .i64 l.length), (8, .int .i64 x.1)]) (fun x => S x.2) (fun x => x.1 ≤ l.length ∧ idxS step st 0 l = idxS step x.2 x.1 (l.drop x.1)) (fun x => l.length - x.1) (0, st) ⟨Nat.zero_le _, rfl⟩ (Env.Sub_of_has (by simp [Env.Has, Env.get])) (Store.Sub.refl _) ?_
  rintro ⟨i, u⟩ ⟨hi, hor⟩
  simp only at hi hor
  by_cases hlt : i < l.length
  · have ho := idxS_drop step u l i hlt i
    have hfx := hf u (l.getD i default) (by rw [List.getD_eq_getElem?_getD, List.getElem?_eq_getElem hlt]; exact List.getElem_mem hlt)
    repeat' first |refine s1 ?_|refine gS ?_|refine wT rfl ?_|refine wF rfl ?_|refine wt rfl ?_|refine wf rfl ?_|(refine wC rfl (fun h=>?_) (fun h=>?_)<;>(try contradiction))|((first|refine rd ?_|refine ry [] c0 fun nu _ _=>?_);simp -dsimp (disch:=omega) only[go_sem])|refine e0 (by decide) ?_|(refine zA ?_ ?_;omega)|refine zA (of_eq_true PutAt_put) ?_|refine gT ?_|refine gF ?_|(refine gI (fun h=>?_) (fun h=>?_)<;>(try contradiction)<;>(try refine rd ?_)<;>(try simp -dsimp (disch:=omega) only[go_sem,h]))|refine zX _ (zX _ (zA (zA rfl rfl) ?_)) |refine uw (hfx) ?_ |fail
    · rw [hor, ho, if_pos h]; exact ⟨_, Store.Sub.refl _, rfl, rfl⟩
    · rw [if_neg (by rw [h]; simp)] at ho
      exact ⟨(i + 1, _), by simp only; omega, ⟨by simp only; omega, by rw [hor, ho]; rfl⟩, Env.Sub_of_has (by simp [Env.Has, Env.get]), Store.Sub.refl _⟩
  · have hi' : i = l.length := by omega
    subst hi'
    repeat' first |refine s1 ?_|refine gS ?_|refine wT rfl ?_|refine wF rfl ?_|refine wt rfl ?_|refine wf rfl ?_|(refine wC rfl (fun h=>?_) (fun h=>?_)<;>(try contradiction))|((first|refine rd ?_|refine ry [] c0 fun nu _ _=>?_);simp -dsimp (disch:=omega) only[go_sem])|refine e0 (by decide) ?_|(refine zA ?_ ?_;omega)|refine zA (of_eq_true PutAt_put) ?_|refine gT ?_|refine gF ?_|(refine gI (fun h=>?_) (fun h=>?_)<;>(try contradiction)<;>(try refine rd ?_)<;>(try simp -dsimp (disch:=omega) only[go_sem,h]))|refine zX _ (zX _ (zA (zA rfl rfl) ?_)) |fail
    rw [hor, List.drop_length]; exact ⟨_, Store.Sub.refl _, rfl, rfl⟩
theorem conFI {τ : Type} (fi : Nat) (cs : List AV) (S : τ → Store) (step : τ → Int → Bool × τ) (k : SK) (l : List Int) (hl : l.length < 4611686018427387904) (hf : ∀ (st : τ) (x : Int), x ∈ l → PCall Tryz.prog fi (eI x :: cs) (S st) (fun r s => r = .bool (step st x).1 ∧ s = S (step st x).2)) (st : τ) :
    PCall Tryz.prog 171 [.sl k (ints l), .fn fi cs] (S st) (fun r s => r = .bool (anyS step st l).1 ∧ s = S (anyS step st l).2) := by
  have e := idxS_any step l st 0 (Int.le_refl _)
  refine PCall_w [.tmp 4] 9 Tryz.func171 (by rfl) rfl rfl rfl rfl ?_
  repeat' first |refine s1 ?_|refine gS ?_|refine wT rfl ?_|refine wF rfl ?_|refine wt rfl ?_|refine wf rfl ?_|(refine wC rfl (fun h=>?_) (fun h=>?_)<;>(try contradiction))|((first|refine rd ?_|refine ry [] c0 fun nu _ _=>?_);simp -dsimp (disch:=omega) only[go_sem])|refine e0 (by decide) ?_|(refine zA ?_ ?_;omega)|refine zA (of_eq_true PutAt_put) ?_|refine gT ?_|refine gF ?_|(refine gI (fun h=>?_) (fun h=>?_)<;>(try contradiction)<;>(try refine rd ?_)<;>(try simp -dsimp (disch:=omega) only[go_sem,h]))|refine zX _ (zX _ (zA (zA rfl rfl) ?_)) |refine uw (idxFI fi cs S step k l hl hf st) ?_ |fail
  rw [← e]; exact ⟨_, Store.Sub.refl _, rfl, rfl⟩
theorem each1I (fi : Nat) (cs : List AV) (x : Int) (σ τ : Store) (b : Bool) (h : PCall Tryz.prog fi (eI x :: cs) σ (fun r s => r = .bool b ∧ s = τ)) :
    PCall Tryz.prog 172 [eI x, .ip (.fn fi cs) 0] σ (fun r s => r = .bool (!b) ∧ s = τ) := by
  refine PCall_w [.tmp 3] 8 Tryz.func172 (by rfl) rfl rfl rfl rfl ?_
  repeat' first |refine s1 ?_|refine gS ?_|refine wT rfl ?_|refine wF rfl ?_|refine wt rfl ?_|refine wf rfl ?_|(refine wC rfl (fun h=>?_) (fun h=>?_)<;>(try contradiction))|((first|refine rd ?_|refine ry [] c0 fun nu _ _=>?_);simp -dsimp (disch:=omega) only[go_sem])|refine e0 (by decide) ?_|(refine zA ?_ ?_;omega)|refine zA (of_eq_true PutAt_put) ?_|refine gT ?_|refine gF ?_|(refine gI (fun h=>?_) (fun h=>?_)<;>(try contradiction)<;>(try refine rd ?_)<;>(try simp -dsimp (disch:=omega) only[go_sem,h]))|refine zX _ (zX _ (zA (zA rfl rfl) ?_)) |refine uw (h) ?_ |fail
theorem eachI {τ : Type} (fi : Nat) (cs : List AV) (S : τ → Store) (step : τ → Int → Bool × τ) (k : SK) (l : List Int) (most : Int) (hl : l.length < 4611686018427387904) (hf : ∀ (st : τ) (x : Int), x ∈ l → PCall Tryz.prog fi (eI x :: cs) (S st) (fun r s => r = .bool (step st x).1 ∧ s = S (step st x).2)) (st : τ) :
    PCall Tryz.prog 133 [.sl k (ints l), .int .i64 most, .fn fi cs] (S st) (fun r s => r = .bool (eachS most step st l).1 ∧ s = S (eachS most step st l).2) := by
  have hc := conFI 172 [.ip (.fn fi cs) 0] S (fun st x => (!(step st x).1, (step st x).2)) k l hl (fun st x hx => each1I fi cs x _ _ _ (hf st x hx)) st
  unfold eachS
  refine PCall_w [.tmp 6] 17 Tryz.func133 (by rfl) rfl rfl rfl rfl ?_
  by_cases hm : (l.length : Int) ≤ most
  · rw [if_pos hm]
    repeat' first |refine s1 ?_|refine gS ?_|refine wT rfl ?_|refine wF rfl ?_|refine wt rfl ?_|refine wf rfl ?_|(refine wC rfl (fun h=>?_) (fun h=>?_)<;>(try contradiction))|((first|refine rd ?_|refine ry [] c0 fun nu _ _=>?_);simp -dsimp (disch:=omega) only[go_sem,hm])|refine e0 (by decide) ?_|(refine zA ?_ ?_;omega)|refine zA (of_eq_true PutAt_put) ?_|refine gT ?_|refine gF ?_|(refine gI (fun h=>?_) (fun h=>?_)<;>(try contradiction)<;>(try refine rd ?_)<;>(try simp -dsimp (disch:=omega) only[go_sem,h,hm]))|refine zX _ (zX _ (zA (zA rfl rfl) ?_)) |refine uw (hc) ?_ |fail
  · rw [if_neg hm]
    repeat' first |refine s1 ?_|refine gS ?_|refine wT rfl ?_|refine wF rfl ?_|refine wt rfl ?_|refine wf rfl ?_|(refine wC rfl (fun h=>?_) (fun h=>?_)<;>(try contradiction))|((first|refine rd ?_|refine ry [] c0 fun nu _ _=>?_);simp -dsimp (disch:=omega) only[go_sem,hm])|refine e0 (by decide) ?_|(refine zA ?_ ?_;omega)|refine zA (of_eq_true PutAt_put) ?_|refine gT ?_|refine gF ?_|(refine gI (fun h=>?_) (fun h=>?_)<;>(try contradiction)<;>(try refine rd ?_)<;>(try simp -dsimp (disch:=omega) only[go_sem,h,hm]))|refine zX _ (zX _ (zA (zA rfl rfl) ?_)) |fail
theorem eachPI (fi : Nat) (cs : List AV) (q : Int → Bool) (k : SK) (l : List Int) (most : Int) (hl : l.length < 4611686018427387904) (hf : ∀ x : Int, x ∈ l → Pure Tryz.prog fi (eI x :: cs) (.bool (q x))) :
    Pure Tryz.prog 133 [.sl k (ints l), .int .i64 most, .fn fi cs] (.bool (eachP most q l)) := fun σ => by
  rw [← eachS_pure]
  exact eachI fi cs (fun _ : Unit => σ) (fun _ x => (q x, ())) k l most hl (fun _ x hx => hf x hx σ) ()
theorem idxFB {τ : Type} (fi : Nat) (cs : List AV) (S : τ → Store) (step : τ → UInt8 → Bool × τ) (k : SK) (l : List UInt8) (hl : l.length < 4611686018427387904) (hf : ∀ (st : τ) (x : UInt8), x ∈ l → PCall Tryz.prog fi (eB x :: cs) (S st) (fun r s => r = .bool (step st x).1 ∧ s = S (step st x).2)) (st : τ) :
    PCall Tryz.prog 188 [.sl k (encL eB l), .fn fi cs] (S st) (fun r s => r = .int .i64 (idxS step st 0 l).1 ∧ s = S (idxS step st 0 l).2) := by
  refine PCall_w [.tmp 4] 19 Tryz.func188 (by rfl) rfl rfl rfl rfl ?_
  repeat' first |refine s1 ?_|refine gS ?_|refine wT rfl ?_|refine wF rfl ?_|refine wt rfl ?_|refine wf rfl ?_|(refine wC rfl (fun h=>?_) (fun h=>?_)<;>(try contradiction))|((first|refine rd ?_|refine ry [] c0 fun nu _ _=>?_);simp -dsimp (disch:=omega) only[go_sem])|refine e0 (by decide) ?_|(refine zA ?_ ?_;omega)|refine zA (of_eq_true PutAt_put) ?_|refine gT ?_|refine gF ?_|(refine gI (fun h=>?_) (fun h=>?_)<;>(try contradiction)<;>(try refine rd ?_)<;>(try simp -dsimp (disch:=omega) only[go_sem,h]))|refine zX _ (zX _ (zA (zA rfl rfl) ?_)) |fail
  refine W_loop_st (fun x : Nat × τ => [(0, .sl k (encL eB l)), (1, .fn fi cs), (6, .sl k (encL eB l)), (7, .int .i64 l.length), (8, .int .i64 x.1)]) (fun x => S x.2) (fun x => x.1 ≤ l.length ∧ idxS step st 0 l = idxS step x.2 x.1 (l.drop x.1)) (fun x => l.length - x.1) (0, st) ⟨Nat.zero_le _, rfl⟩ (Env.Sub_of_has (by simp [Env.Has, Env.get])) (Store.Sub.refl _) ?_
  rintro ⟨i, u⟩ ⟨hi, hor⟩
  simp only at hi hor
  by_cases hlt : i < l.length
  · have ho := idxS_drop step u l i hlt i
    have hfx := hf u (l.getD i default) (by rw [List.getD_eq_getElem?_getD, List.getElem?_eq_getElem hlt]; exact List.getElem_mem hlt)
    repeat' first |refine s1 ?_|refine gS ?_|refine wT rfl ?_|refine wF rfl ?_|refine wt rfl ?_|refine wf rfl ?_|(refine wC rfl (fun h=>?_) (fun h=>?_)<;>(try contradiction))|((first|refine rd ?_|refine ry [] c0 fun nu _ _=>?_);simp -dsimp (disch:=omega) only[go_sem])|refine e0 (by decide) ?_|(refine zA ?_ ?_;omega)|refine zA (of_eq_true PutAt_put) ?_|refine gT ?_|refine gF ?_|(refine gI (fun h=>?_) (fun h=>?_)<;>(try contradiction)<;>(try refine rd ?_)<;>(try simp -dsimp (disch:=omega) only[go_sem,h]))|refine zX _ (zX _ (zA (zA rfl rfl) ?_)) |refine uw (hfx) ?_ |fail
    · rw [hor, ho, if_pos h]; exact ⟨_, Store.Sub.refl _, rfl, rfl⟩
    · rw [if_neg (by rw [h]; simp)] at ho
      exact ⟨(i + 1, _), by simp only; omega, ⟨by simp only; omega, by rw [hor, ho]; rfl⟩, Env.Sub_of_has (by simp [Env.Has, Env.get]), Store.Sub.refl _⟩
  · have hi' : i = l.length := by omega
    subst hi'
    repeat' first |refine s1 ?_|refine gS ?_|refine wT rfl ?_|refine wF rfl ?_|refine wt rfl ?_|refine wf rfl ?_|(refine wC rfl (fun h=>?_) (fun h=>?_)<;>(try contradiction))|((first|refine rd ?_|refine ry [] c0 fun nu _ _=>?_);simp -dsimp (disch:=omega) only[go_sem])|refine e0 (by decide) ?_|(refine zA ?_ ?_;omega)|refine zA (of_eq_true PutAt_put) ?_|refine gT ?_|refine gF ?_|(refine gI (fun h=>?_) (fun h=>?_)<;>(try contradiction)<;>(try refine rd ?_)<;>(try simp -dsimp (disch:=omega) only[go_sem,h]))|refine zX _ (zX _ (zA (zA rfl rfl) ?_)) |fail
    rw [hor, List.drop_length]; exact ⟨_, Store.Sub.refl _, rfl, rfl⟩
theorem conFB {τ : Type} (fi : Nat) (cs : List AV) (S : τ → Store) (step : τ → UInt8 → Bool × τ) (k : SK) (l : List UInt8) (hl : l.length < 4611686018427387904) (hf : ∀ (st : τ) (x : UInt8), x ∈ l → PCall Tryz.prog fi (eB x :: cs) (S st) (fun r s => r = .bool (step st x).1 ∧ s = S (step st x).2)) (st : τ) :
    PCall Tryz.prog 167 [.sl k (encL eB l), .fn fi cs] (S st) (fun r s => r = .bool (anyS step st l).1 ∧ s = S (anyS step st l).2) := by
  have e := idxS_any step l st 0 (Int.le_refl _)
  refine PCall_w [.tmp 4] 9 Tryz.func167 (by rfl) rfl rfl rfl rfl ?_
  repeat' first |refine s1 ?_|refine gS ?_|refine wT rfl ?_|refine wF rfl ?_|refine wt rfl ?_|refine wf rfl ?_|(refine wC rfl (fun h=>?_) (fun h=>?_)<;>(try contradiction))|((first|refine rd ?_|refine ry [] c0 fun nu _ _=>?_);simp -dsimp (disch:=omega) only[go_sem])|refine e0 (by decide) ?_|(refine zA ?_ ?_;omega)|refine zA (of_eq_true PutAt_put) ?_|refine gT ?_|refine gF ?_|(refine gI (fun h=>?_) (fun h=>?_)<;>(try contradiction)<;>(try refine rd ?_)<;>(try simp -dsimp (disch:=omega) only[go_sem,h]))|refine zX _ (zX _ (zA (zA rfl rfl) ?_)) |refine uw (idxFB fi cs S step k l hl hf st) ?_ |fail
  rw [← e]; exact ⟨_, Store.Sub.refl _, rfl, rfl⟩
end Go.Proofs.YtaealcimocpnnaaGreat

namespace Go.Proofs.YtaealcimocpnnaaGreat
open Go.Kern
set_option maxRecDepth 100000
set_option maxHeartbeats 4000000
attribute [local irreducible] PCall W
def withinZ (n a b : Int) : Bool := decide (a ≤ n) && decide (n ≤ b)
theorem within_spec (n a b : Int) : Pure Tryz.prog 77 [.int .i64 n, .int .i64 a, .int .i64 b] (.bool (withinZ n a b)) := by
  intro σ
  refine PCall_q [.tmp 6] 15 Tryz.func77 (by rfl) rfl rfl rfl rfl ?_
  repeat' first |refine s1 ?_|refine gS ?_|refine wT rfl ?_|refine wF rfl ?_|refine wt rfl ?_|refine wf rfl ?_|(refine wC rfl (fun h=>?_) (fun h=>?_)<;>(try contradiction))|((first|refine rd ?_|refine ry [] c0 fun nu _ _=>?_);simp -dsimp (disch:=omega) only[go_sem])|refine e0 (by decide) ?_|(refine zA ?_ ?_;omega)|refine zA (of_eq_true PutAt_put) ?_|refine gT ?_|refine gF ?_|(refine gI (fun h=>?_) (fun h=>?_)<;>(try contradiction)<;>(try refine rd ?_)<;>(try simp -dsimp (disch:=omega) only[go_sem,h]))|refine zX _ (zX _ (zA (zA rfl rfl) ?_)) |fail
  all_goals (simp_all [withinZ] <;> omega)
def letterZ (c : Int) : Bool := decide (97 ≤ c) && decide (c ≤ 122)
theorem letter_spec (c : Int) : Pure Tryz.prog 176 [.int .u8 c] (.bool (letterZ c)) := by
  intro σ
  refine PCall_q [.tmp 2] 9 Tryz.func176 (by rfl) rfl rfl rfl rfl ?_
  repeat' first |refine s1 ?_|refine gS ?_|refine wT rfl ?_|refine wF rfl ?_|refine wt rfl ?_|refine wf rfl ?_|(refine wC rfl (fun h=>?_) (fun h=>?_)<;>(try contradiction))|((first|refine rd ?_|refine ry [] c0 fun nu _ _=>?_);simp -dsimp (disch:=omega) only[go_sem])|refine e0 (by decide) ?_|(refine zA ?_ ?_;omega)|refine zA (of_eq_true PutAt_put) ?_|refine gT ?_|refine gF ?_|(refine gI (fun h=>?_) (fun h=>?_)<;>(try contradiction)<;>(try refine rd ?_)<;>(try simp -dsimp (disch:=omega) only[go_sem,h]))|refine zX _ (zX _ (zA (zA rfl rfl) ?_)) |fail
  all_goals (simp_all [letterZ] <;> omega)
def okZ (c : Int) : Bool := letterZ c || (decide (48 ≤ c) && decide (c ≤ 57)) || decide (c = 45) || decide (c = 95)
def okB (c : UInt8) : Bool := okZ c.toNat
def formedB (s : ByteArray) : Bool := letterZ ((B s).getD 0 default).toNat && !(B s).isEmpty && (B s).all okB
theorem formed_spec (s : ByteArray) (hs : s.size ≤ 9223372036854775807) : Pure Tryz.prog 144 [.str s] (.bool (formedB s)) := by
  intro σ
  have hl := length_B s
  refine PCall_q [.tmp 2] 40 Tryz.func144 (by rfl) rfl rfl rfl rfl ?_
  by_cases h0 : s = ⟨#[]⟩
  · subst h0
    repeat' first |refine s1 ?_|refine gS ?_|refine wT rfl ?_|refine wF rfl ?_|refine wt rfl ?_|refine wf rfl ?_|(refine wC rfl (fun h=>?_) (fun h=>?_)<;>(try contradiction))|((first|refine rd ?_|refine ry [] c0 fun nu _ _=>?_);simp -dsimp (disch:=omega) only[go_sem])|refine e0 (by decide) ?_|(refine zA ?_ ?_;omega)|refine zA (of_eq_true PutAt_put) ?_|refine gT ?_|refine gF ?_|(refine gI (fun h=>?_) (fun h=>?_)<;>(try contradiction)<;>(try refine rd ?_)<;>(try simp -dsimp (disch:=omega) only[go_sem,h]))|refine zX _ (zX _ (zA (zA rfl rfl) ?_)) |fail
    rfl
  have hpos : 0 < (B s).length := by
    rcases Nat.eq_zero_or_pos (B s).length with h | h
    · exact absurd (B_inj.1 (List.eq_nil_of_length_eq_zero h : B s = B ⟨#[]⟩)) h0
    · exact h
  have hne : (B s).isEmpty = false := by
    cases h : B s with
    | nil => rw [h] at hpos; simp at hpos
    | cons a l => rfl
  rcases Bool.eq_false_or_eq_true (letterZ ((B s).getD 0 default).toNat) with hL | hL
  · skip
    repeat' first |refine s1 ?_|refine gS ?_|refine wT rfl ?_|refine wF rfl ?_|refine wt rfl ?_|refine wf rfl ?_|(refine wC rfl (fun h=>?_) (fun h=>?_)<;>(try contradiction))|((first|refine rd ?_|refine ry [] c0 fun nu _ _=>?_);simp -dsimp (disch:=omega) only[go_sem,h0, hL])|refine e0 (by decide) ?_|(refine zA ?_ ?_;omega)|refine zA (of_eq_true PutAt_put) ?_|refine gT ?_|refine gF ?_|(refine gI (fun h=>?_) (fun h=>?_)<;>(try contradiction)<;>(try refine rd ?_)<;>(try simp -dsimp (disch:=omega) only[go_sem,h,h0, hL]))|refine zX _ (zX _ (zA (zA rfl rfl) ?_)) |refine us (letter_spec _) ?_ |fail
    refine W_loop_st (fun i : Nat => [(14, .sl .imm (encL eB (B s))), (15, .int .i64 s.size), (16, .int .i64 i)]) (fun _ => σ) (fun i => i ≤ (B s).length ∧ (B s).all okB = ((B s).drop i).all okB) (fun i => (B s).length - i) 0 ⟨Nat.zero_le _, rfl⟩ (Env.Sub_of_has (by simp [Env.Has, Env.get, hl])) (Store.Sub.refl _) ?_
    rintro i ⟨hi, hor⟩
    by_cases hlt : i < (B s).length
    · have ho := all_drop okB hlt
      obtain ⟨x, hx⟩ : ∃ x, (B s).getD i default = x := ⟨_, rfl⟩
      rw [hx] at ho
      repeat' first |refine s1 ?_|refine gS ?_|refine wT rfl ?_|refine wF rfl ?_|refine wt rfl ?_|refine wf rfl ?_|(refine wC rfl (fun h=>?_) (fun h=>?_)<;>(try contradiction))|((first|refine rd ?_|refine ry [] c0 fun nu _ _=>?_);simp -dsimp (disch:=omega) only[go_sem,hx])|refine e0 (by decide) ?_|(refine zA ?_ ?_;omega)|refine zA (of_eq_true PutAt_put) ?_|refine gT ?_|refine gF ?_|(refine gI (fun h=>?_) (fun h=>?_)<;>(try contradiction)<;>(try refine rd ?_)<;>(try simp -dsimp (disch:=omega) only[go_sem,h,hx]))|refine zX _ (zX _ (zA (zA rfl rfl) ?_)) |refine us (letter_spec _) ?_ |fail
      all_goals first
        | (refine ⟨i + 1, by omega, ⟨by omega, ?_⟩, Env.Sub_of_has (by simp [Env.Has, Env.get]), Store.Sub.refl _⟩
           rw [hor, ho, show okB x = true from by simp [okB, okZ, *]; try omega]
           rfl)
        | (rw [show formedB s = false from by
            unfold formedB
            rw [hor, ho, show okB x = false from by simp [okB, okZ, *]; omega]
            simp])
    · have hi' : i = (B s).length := by omega
      subst hi'
      repeat' first |refine s1 ?_|refine gS ?_|refine wT rfl ?_|refine wF rfl ?_|refine wt rfl ?_|refine wf rfl ?_|(refine wC rfl (fun h=>?_) (fun h=>?_)<;>(try contradiction))|((first|refine rd ?_|refine ry [] c0 fun nu _ _=>?_);simp -dsimp (disch:=omega) only[go_sem])|refine e0 (by decide) ?_|(refine zA ?_ ?_;omega)|refine zA (of_eq_true PutAt_put) ?_|refine gT ?_|refine gF ?_|(refine gI (fun h=>?_) (fun h=>?_)<;>(try contradiction)<;>(try refine rd ?_)<;>(try simp -dsimp (disch:=omega) only[go_sem,h]))|refine zX _ (zX _ (zA (zA rfl rfl) ?_)) |fail
      rw [formedB, hL, hne, hor, List.drop_length]; rfl
  · skip
    repeat' first |refine s1 ?_|refine gS ?_|refine wT rfl ?_|refine wF rfl ?_|refine wt rfl ?_|refine wf rfl ?_|(refine wC rfl (fun h=>?_) (fun h=>?_)<;>(try contradiction))|((first|refine rd ?_|refine ry [] c0 fun nu _ _=>?_);simp -dsimp (disch:=omega) only[go_sem,h0, hL])|refine e0 (by decide) ?_|(refine zA ?_ ?_;omega)|refine zA (of_eq_true PutAt_put) ?_|refine gT ?_|refine gF ?_|(refine gI (fun h=>?_) (fun h=>?_)<;>(try contradiction)<;>(try refine rd ?_)<;>(try simp -dsimp (disch:=omega) only[go_sem,h,h0, hL]))|refine zX _ (zX _ (zA (zA rfl rfl) ?_)) |refine us (letter_spec _) ?_ |fail
    rw [formedB, hL]; rfl
def nameB (s : ByteArray) : Bool := formedB s && decide (s.size ≤ 12)
theorem name_spec (s : ByteArray) (hs : s.size ≤ 9223372036854775807) : Pure Tryz.prog 94 [.str s] (.bool (nameB s)) := by
  intro σ
  refine PCall_q [.tmp 2] 10 Tryz.func94 (by rfl) rfl rfl rfl rfl ?_
  repeat' first |refine s1 ?_|refine gS ?_|refine wT rfl ?_|refine wF rfl ?_|refine wt rfl ?_|refine wf rfl ?_|(refine wC rfl (fun h=>?_) (fun h=>?_)<;>(try contradiction))|((first|refine rd ?_|refine ry [] c0 fun nu _ _=>?_);simp -dsimp (disch:=omega) only[go_sem])|refine e0 (by decide) ?_|(refine zA ?_ ?_;omega)|refine zA (of_eq_true PutAt_put) ?_|refine gT ?_|refine gF ?_|(refine gI (fun h=>?_) (fun h=>?_)<;>(try contradiction)<;>(try refine rd ?_)<;>(try simp -dsimp (disch:=omega) only[go_sem,h]))|refine zX _ (zX _ (zA (zA rfl rfl) ?_)) |refine us (formed_spec s hs) ?_ |fail
  all_goals (simp_all [nameB]; try omega)
def usedB (s : ByteArray) : Bool := decide (s.size = 0) || nameB s
theorem empty_iff (s : ByteArray) : s = ⟨#[]⟩ ↔ s.size = 0 := by
  constructor
  · rintro rfl; rfl
  · intro h
    exact B_inj.1 (List.eq_nil_of_length_eq_zero ((length_B s).trans h) : B s = B ⟨#[]⟩)
theorem used_spec (s : ByteArray) (hs : s.size ≤ 9223372036854775807) : Pure Tryz.prog 87 [.str s] (.bool (usedB s)) := by
  intro σ
  refine PCall_q [.tmp 2] 9 Tryz.func87 (by rfl) rfl rfl rfl rfl ?_
  repeat' first |refine s1 ?_|refine gS ?_|refine wT rfl ?_|refine wF rfl ?_|refine wt rfl ?_|refine wf rfl ?_|(refine wC rfl (fun h=>?_) (fun h=>?_)<;>(try contradiction))|((first|refine rd ?_|refine ry [] c0 fun nu _ _=>?_);simp -dsimp (disch:=omega) only[go_sem])|refine e0 (by decide) ?_|(refine zA ?_ ?_;omega)|refine zA (of_eq_true PutAt_put) ?_|refine gT ?_|refine gF ?_|(refine gI (fun h=>?_) (fun h=>?_)<;>(try contradiction)<;>(try refine rd ?_)<;>(try simp -dsimp (disch:=omega) only[go_sem,h]))|refine zX _ (zX _ (zA (zA rfl rfl) ?_)) |refine us (name_spec s hs) ?_ |fail
  all_goals simp_all [usedB, empty_iff]
def comMay (c : Com) : Bool := withinZ c.asn 1 65535 && withinZ c.n 0 65535
theorem comMay_spec (c : Com) : Pure Tryz.prog 131 [eCom c] (.bool (comMay c)) := by
  intro σ
  refine PCall_q [.tmp 2] 21 Tryz.func131 (by rfl) rfl rfl rfl rfl ?_
  repeat' first |refine s1 ?_|refine gS ?_|refine wT rfl ?_|refine wF rfl ?_|refine wt rfl ?_|refine wf rfl ?_|(refine wC rfl (fun h=>?_) (fun h=>?_)<;>(try contradiction))|((first|refine rd ?_|refine ry [] c0 fun nu _ _=>?_);simp -dsimp (disch:=omega) only[go_sem])|refine e0 (by decide) ?_|(refine zA ?_ ?_;omega)|refine zA (of_eq_true PutAt_put) ?_|refine gT ?_|refine gF ?_|(refine gI (fun h=>?_) (fun h=>?_)<;>(try contradiction)<;>(try refine rd ?_)<;>(try simp -dsimp (disch:=omega) only[go_sem,h]))|refine zX _ (zX _ (zA (zA rfl rfl) ?_)) |fail
  all_goals (simp only [comMay, withinZ]; congr 1; rw [Bool.eq_iff_iff]; simp; omega)
def quoteB (c : UInt8) : Bool := decide (c.toNat < 32) || decide (126 < c.toNat) || decide (c.toNat = 34)
theorem quotable1_spec (c : UInt8) : Pure Tryz.prog 168 [eB c] (.bool (quoteB c)) := by
  intro σ
  refine PCall_q [.tmp 2] 13 Tryz.func168 (by rfl) rfl rfl rfl rfl ?_
  repeat' first |refine s1 ?_|refine gS ?_|refine wT rfl ?_|refine wF rfl ?_|refine wt rfl ?_|refine wf rfl ?_|(refine wC rfl (fun h=>?_) (fun h=>?_)<;>(try contradiction))|((first|refine rd ?_|refine ry [] c0 fun nu _ _=>?_);simp -dsimp (disch:=omega) only[go_sem])|refine e0 (by decide) ?_|(refine zA ?_ ?_;omega)|refine zA (of_eq_true PutAt_put) ?_|refine gT ?_|refine gF ?_|(refine gI (fun h=>?_) (fun h=>?_)<;>(try contradiction)<;>(try refine rd ?_)<;>(try simp -dsimp (disch:=omega) only[go_sem,h]))|refine zX _ (zX _ (zA (zA rfl rfl) ?_)) |fail
  all_goals (simp only [quoteB]; congr 1; rw [Bool.eq_iff_iff]; simp; omega)
def quotableB (s : ByteArray) : Bool := !(B s).any quoteB
theorem quotable_spec (s : ByteArray) (hs : s.size < 4611686018427387904) : Pure Tryz.prog 130 [.str s] (.bool (quotableB s)) := by
  intro σ
  have hc := conFB 168 [] (fun _ : Unit => σ) (fun _ x => (quoteB x, ())) .imm (B s) (by rw [length_B]; exact hs) (fun _ x _ => quotable1_spec x σ) ()
  rw [anyS_pure] at hc
  refine PCall_q [.tmp 2] 7 Tryz.func130 (by rfl) rfl rfl rfl rfl ?_
  repeat' first |refine s1 ?_|refine gS ?_|refine wT rfl ?_|refine wF rfl ?_|refine wt rfl ?_|refine wf rfl ?_|(refine wC rfl (fun h=>?_) (fun h=>?_)<;>(try contradiction))|((first|refine rd ?_|refine ry [] c0 fun nu _ _=>?_);simp -dsimp (disch:=omega) only[go_sem])|refine e0 (by decide) ?_|(refine zA ?_ ?_;omega)|refine zA (of_eq_true PutAt_put) ?_|refine gT ?_|refine gF ?_|(refine gI (fun h=>?_) (fun h=>?_)<;>(try contradiction)<;>(try refine rd ?_)<;>(try simp -dsimp (disch:=omega) only[go_sem,h]))|refine zX _ (zX _ (zA (zA rfl rfl) ?_)) |refine uw (hc) ?_ |fail
  rfl
def maskZ (b : Int) : Int := if b = 0 then 0 else IntKind.u32.wrap (4294967295 * 2 ^ (min (32 - b).toNat 32))
theorem mask_spec (b : Int) (h0 : 0 ≤ b) (h1 : b ≤ 32) : Pure Tryz.prog 138 [.int .i64 b] (.int .u32 (maskZ b)) := by
  intro σ
  refine PCall_q [.tmp 2] 8 Tryz.func138 (by rfl) rfl rfl rfl rfl ?_
  repeat' first |refine s1 ?_|refine gS ?_|refine wT rfl ?_|refine wF rfl ?_|refine wt rfl ?_|refine wf rfl ?_|(refine wC rfl (fun h=>?_) (fun h=>?_)<;>(try contradiction))|((first|refine rd ?_|refine ry [] c0 fun nu _ _=>?_);simp -dsimp (disch:=omega) only[go_sem])|refine e0 (by decide) ?_|(refine zA ?_ ?_;omega)|refine zA (of_eq_true PutAt_put) ?_|refine gT ?_|refine gF ?_|(refine gI (fun h=>?_) (fun h=>?_)<;>(try contradiction)<;>(try refine rd ?_)<;>(try simp -dsimp (disch:=omega) only[go_sem,h]))|refine zX _ (zX _ (zA (zA rfl rfl) ?_)) |fail
  all_goals simp_all [maskZ]
def pfxMay (p : Pfx) : Bool := decide (0 ≤ p.b) && decide (p.b ≤ 32) && decide (bits .andNot .u32 p.a (maskZ p.b) = 0)
theorem pfxMay_spec (p : Pfx) : Pure Tryz.prog 83 [ePfx p] (.bool (pfxMay p)) := by
  intro σ
  refine PCall_q [.tmp 2] 20 Tryz.func83 (by rfl) rfl rfl rfl rfl ?_
  by_cases h0 : 0 ≤ p.b
  · by_cases h1 : p.b ≤ 32
    · have hm := mask_spec p.b h0 h1
      repeat' first |refine s1 ?_|refine gS ?_|refine wT rfl ?_|refine wF rfl ?_|refine wt rfl ?_|refine wf rfl ?_|(refine wC rfl (fun h=>?_) (fun h=>?_)<;>(try contradiction))|((first|refine rd ?_|refine ry [] c0 fun nu _ _=>?_);simp -dsimp (disch:=omega) only[go_sem])|refine e0 (by decide) ?_|(refine zA ?_ ?_;omega)|refine zA (of_eq_true PutAt_put) ?_|refine gT ?_|refine gF ?_|(refine gI (fun h=>?_) (fun h=>?_)<;>(try contradiction)<;>(try refine rd ?_)<;>(try simp -dsimp (disch:=omega) only[go_sem,h]))|refine zX _ (zX _ (zA (zA rfl rfl) ?_)) |refine us (hm) ?_ |fail
      simp [pfxMay, h0, h1]
    · skip
      repeat' first |refine s1 ?_|refine gS ?_|refine wT rfl ?_|refine wF rfl ?_|refine wt rfl ?_|refine wf rfl ?_|(refine wC rfl (fun h=>?_) (fun h=>?_)<;>(try contradiction))|((first|refine rd ?_|refine ry [] c0 fun nu _ _=>?_);simp -dsimp (disch:=omega) only[go_sem])|refine e0 (by decide) ?_|(refine zA ?_ ?_;omega)|refine zA (of_eq_true PutAt_put) ?_|refine gT ?_|refine gF ?_|(refine gI (fun h=>?_) (fun h=>?_)<;>(try contradiction)<;>(try refine rd ?_)<;>(try simp -dsimp (disch:=omega) only[go_sem,h]))|refine zX _ (zX _ (zA (zA rfl rfl) ?_)) |fail
      simp [pfxMay, h0, h1]
  · skip
    repeat' first |refine s1 ?_|refine gS ?_|refine wT rfl ?_|refine wF rfl ?_|refine wt rfl ?_|refine wf rfl ?_|(refine wC rfl (fun h=>?_) (fun h=>?_)<;>(try contradiction))|((first|refine rd ?_|refine ry [] c0 fun nu _ _=>?_);simp -dsimp (disch:=omega) only[go_sem])|refine e0 (by decide) ?_|(refine zA ?_ ?_;omega)|refine zA (of_eq_true PutAt_put) ?_|refine gT ?_|refine gF ?_|(refine gI (fun h=>?_) (fun h=>?_)<;>(try contradiction)<;>(try refine rd ?_)<;>(try simp -dsimp (disch:=omega) only[go_sem,h]))|refine zX _ (zX _ (zA (zA rfl rfl) ?_)) |fail
    simp [pfxMay, h0]
def rngMay (r : Rng) : Bool := pfxMay r.p && decide (r.p.b ≤ r.ge) && decide (r.ge ≤ r.le) && decide (r.le ≤ 32)
theorem rngMay_spec (r : Rng) : Pure Tryz.prog 72 [eRng r] (.bool (rngMay r)) := by
  intro σ
  have h := pfxMay_spec r.p
  refine PCall_q [.tmp 2] 26 Tryz.func72 (by rfl) rfl rfl rfl rfl ?_
  repeat' first |refine s1 ?_|refine gS ?_|refine wT rfl ?_|refine wF rfl ?_|refine wt rfl ?_|refine wf rfl ?_|(refine wC rfl (fun h=>?_) (fun h=>?_)<;>(try contradiction))|((first|refine rd ?_|refine ry [] c0 fun nu _ _=>?_);simp -dsimp (disch:=omega) only[go_sem])|refine e0 (by decide) ?_|(refine zA ?_ ?_;omega)|refine zA (of_eq_true PutAt_put) ?_|refine gT ?_|refine gF ?_|(refine gI (fun h=>?_) (fun h=>?_)<;>(try contradiction)<;>(try refine rd ?_)<;>(try simp -dsimp (disch:=omega) only[go_sem,h]))|refine zX _ (zX _ (zA (zA rfl rfl) ?_)) |refine us (h) ?_ |fail
  all_goals (simp_all [rngMay]; try omega)
def rngsMay (l : List Rng) : Int := if 16 < l.length then 2 else if l.all rngMay = true then 0 else 1
theorem rngsMay_spec (k : SK) (l : List Rng) (hl : l.length < 4611686018427387904) : Pure Tryz.prog 29 [.sl k (encL eRng l)] (.int .i64 (rngsMay l)) := by
  intro σ
  refine PCall_q [.tmp 2] 18 Tryz.func29 (by rfl) rfl rfl rfl rfl ?_
  by_cases h16 : 16 < l.length
  · skip
    repeat' first |refine s1 ?_|refine gS ?_|refine wT rfl ?_|refine wF rfl ?_|refine wt rfl ?_|refine wf rfl ?_|(refine wC rfl (fun h=>?_) (fun h=>?_)<;>(try contradiction))|((first|refine rd ?_|refine ry [] c0 fun nu _ _=>?_);simp -dsimp (disch:=omega) only[go_sem])|refine e0 (by decide) ?_|(refine zA ?_ ?_;omega)|refine zA (of_eq_true PutAt_put) ?_|refine gT ?_|refine gF ?_|(refine gI (fun h=>?_) (fun h=>?_)<;>(try contradiction)<;>(try refine rd ?_)<;>(try simp -dsimp (disch:=omega) only[go_sem,h]))|refine zX _ (zX _ (zA (zA rfl rfl) ?_)) |fail
    simp [rngsMay, h16]
  repeat' first |refine s1 ?_|refine gS ?_|refine wT rfl ?_|refine wF rfl ?_|refine wt rfl ?_|refine wf rfl ?_|(refine wC rfl (fun h=>?_) (fun h=>?_)<;>(try contradiction))|((first|refine rd ?_|refine ry [] c0 fun nu _ _=>?_);simp -dsimp (disch:=omega) only[go_sem])|refine e0 (by decide) ?_|(refine zA ?_ ?_;omega)|refine zA (of_eq_true PutAt_put) ?_|refine gT ?_|refine gF ?_|(refine gI (fun h=>?_) (fun h=>?_)<;>(try contradiction)<;>(try refine rd ?_)<;>(try simp -dsimp (disch:=omega) only[go_sem,h]))|refine zX _ (zX _ (zA (zA rfl rfl) ?_)) |fail
  refine W_loop_st (fun i : Nat => [(8, .sl k (encL eRng l)), (9, .int .i64 l.length), (10, .int .i64 i)]) (fun _ => σ) (fun i => i ≤ l.length ∧ l.all rngMay = (l.drop i).all rngMay) (fun i => l.length - i) 0 ⟨Nat.zero_le _, rfl⟩ (Env.Sub_of_has (by simp [Env.Has, Env.get])) (Store.Sub.refl _) ?_
  rintro i ⟨hi, hor⟩
  by_cases hlt : i < l.length
  · have ho := all_drop rngMay hlt
    have hc := rngMay_spec (l.getD i default)
    repeat' first |refine s1 ?_|refine gS ?_|refine wT rfl ?_|refine wF rfl ?_|refine wt rfl ?_|refine wf rfl ?_|(refine wC rfl (fun h=>?_) (fun h=>?_)<;>(try contradiction))|((first|refine rd ?_|refine ry [] c0 fun nu _ _=>?_);simp -dsimp (disch:=omega) only[go_sem])|refine e0 (by decide) ?_|(refine zA ?_ ?_;omega)|refine zA (of_eq_true PutAt_put) ?_|refine gT ?_|refine gF ?_|(refine gI (fun h=>?_) (fun h=>?_)<;>(try contradiction)<;>(try refine rd ?_)<;>(try simp -dsimp (disch:=omega) only[go_sem,h]))|refine zX _ (zX _ (zA (zA rfl rfl) ?_)) |refine us (hc) ?_ |fail
    intro o1 ho1
    repeat' first |refine s1 ?_|refine gS ?_|refine wT rfl ?_|refine wF rfl ?_|refine wt rfl ?_|refine wf rfl ?_|(refine wC rfl (fun h=>?_) (fun h=>?_)<;>(try contradiction))|((first|refine rd ?_|refine ry [] c0 fun nu _ _=>?_);simp -dsimp (disch:=omega) only[go_sem])|refine e0 (by decide) ?_|(refine zA ?_ ?_;omega)|refine zA (of_eq_true PutAt_put) ?_|refine gT ?_|refine gF ?_|(refine gI (fun h=>?_) (fun h=>?_)<;>(try contradiction)<;>(try refine rd ?_)<;>(try simp -dsimp (disch:=omega) only[go_sem,h]))|refine zX _ (zX _ (zA (zA rfl rfl) ?_)) |refine us (hc) ?_ |fail
    · exact ⟨by rw [rngsMay, if_neg h16, hor, ho, h]; rfl, Sub_put (Store.Sub.refl _) ho1 _⟩
    · exact ⟨i + 1, by omega, ⟨by omega, by rw [hor, ho, h]; rfl⟩, Env.Sub_of_has (by simp [Env.Has, Env.get]), Sub_put (Store.Sub.refl _) ho1 _⟩
  · have hi' : i = l.length := by omega
    subst hi'
    repeat' first |refine s1 ?_|refine gS ?_|refine wT rfl ?_|refine wF rfl ?_|refine wt rfl ?_|refine wf rfl ?_|(refine wC rfl (fun h=>?_) (fun h=>?_)<;>(try contradiction))|((first|refine rd ?_|refine ry [] c0 fun nu _ _=>?_);simp -dsimp (disch:=omega) only[go_sem])|refine e0 (by decide) ?_|(refine zA ?_ ?_;omega)|refine zA (of_eq_true PutAt_put) ?_|refine gT ?_|refine gF ?_|(refine gI (fun h=>?_) (fun h=>?_)<;>(try contradiction)<;>(try refine rd ?_)<;>(try simp -dsimp (disch:=omega) only[go_sem,h]))|refine zX _ (zX _ (zA (zA rfl rfl) ?_)) |fail
    rw [rngsMay, if_neg h16, hor, List.drop_length]; rfl
theorem setMay1_spec (n : Int) : Pure Tryz.prog 134 [.int .i64 n] (.bool (withinZ n 1 65535)) := by
  intro σ
  refine PCall_q [.tmp 2] 5 Tryz.func134 (by rfl) rfl rfl rfl rfl ?_
  repeat' first |refine s1 ?_|refine gS ?_|refine wT rfl ?_|refine wF rfl ?_|refine wt rfl ?_|refine wf rfl ?_|(refine wC rfl (fun h=>?_) (fun h=>?_)<;>(try contradiction))|((first|refine rd ?_|refine ry [] c0 fun nu _ _=>?_);simp -dsimp (disch:=omega) only[go_sem])|refine e0 (by decide) ?_|(refine zA ?_ ?_;omega)|refine zA (of_eq_true PutAt_put) ?_|refine gT ?_|refine gF ?_|(refine gI (fun h=>?_) (fun h=>?_)<;>(try contradiction)<;>(try refine rd ?_)<;>(try simp -dsimp (disch:=omega) only[go_sem,h]))|refine zX _ (zX _ (zA (zA rfl rfl) ?_)) |refine us (within_spec _ _ _) ?_ |fail
def chgMay (x : Chg) : Bool := withinZ x.pref (-1) 1048576 && (withinZ x.med (-1) 1048576 && (withinZ x.origin (-1) 2 && (eachP 8 comMay x.add && (eachP 8 comMay x.del && eachP 16 (fun n => withinZ n 1 65535) x.pre))))
structure Chg.Fits (x : Chg) : Prop where
  add : x.add.length < 4611686018427387904
  del : x.del.length < 4611686018427387904
  pre : x.pre.length < 4611686018427387904
theorem chgMay_spec (x : Chg) (hx : x.Fits) : Pure Tryz.prog 79 [eChg x] (.bool (chgMay x)) := by
  intro σ
  have h1 := eachPCom 131 [] comMay x.kA x.add 8 hx.add (fun c _ => comMay_spec c)
  have h2 := eachPCom 131 [] comMay x.kD x.del 8 hx.del (fun c _ => comMay_spec c)
  have h3 := eachPI 134 [] (fun n => withinZ n 1 65535) x.kP x.pre 16 hx.pre (fun c _ => setMay1_spec c)
  refine PCall_q [.tmp 2] 31 Tryz.func79 (by rfl) rfl rfl rfl rfl ?_
  repeat' first |refine s1 ?_|refine gS ?_|refine wT rfl ?_|refine wF rfl ?_|refine wt rfl ?_|refine wf rfl ?_|(refine wC rfl (fun h=>?_) (fun h=>?_)<;>(try contradiction))|((first|refine rd ?_|refine ry [] c0 fun nu _ _=>?_);simp -dsimp (disch:=omega) only[go_sem])|refine e0 (by decide) ?_|(refine zA ?_ ?_;omega)|refine zA (of_eq_true PutAt_put) ?_|refine gT ?_|refine gF ?_|(refine gI (fun h=>?_) (fun h=>?_)<;>(try contradiction)<;>(try refine rd ?_)<;>(try simp -dsimp (disch:=omega) only[go_sem,h]))|refine zX _ (zX _ (zA (zA rfl rfl) ?_)) |refine us (within_spec _ _ _) ?_ |refine us (h1) ?_ |refine us (h2) ?_ |refine us (h3) ?_ |fail
  all_goals (simp only [chgMay, *]; simp)
end Go.Proofs.YtaealcimocpnnaaGreat

namespace Go.Proofs.YtaealcimocpnnaaGreat
open Go.Kern
set_option maxRecDepth 100000
set_option maxHeartbeats 4000000
attribute [local irreducible] PCall W
def seenE (ns : List ByteArray) : List (AV × AV) := ns.map fun s => (AV.str s, AV.bool true)
theorem seen_find (ns : List ByteArray) (s : ByteArray) : (seenE ns).find? (fun e => keyB (.str s) e.1) = if ns.any (fun t => decide (t = s)) = true then some (AV.str s, AV.bool true) else none := by
  induction ns with
  | nil => rfl
  | cons t ns ih =>
    simp only [seenE, List.map_cons, List.find?_cons, keyB, List.any_cons] at ih ⊢
    by_cases h : t = s
    · subst h; simp
    · have h2 : ¬ s = t := fun e => h e.symm
      simp only [h, h2, decide_false, Bool.false_or]
      exact ih
theorem seen_set : ∀ (ns : List ByteArray) (s : ByteArray), ns.any (fun t => decide (t = s)) = false → asetA (.str s) (.bool true) (seenE ns) = seenE (ns ++ [s])
  | [], s, _ => rfl
  | t :: ns, s, h => by
    simp only [List.any_cons, Bool.or_eq_false_iff, decide_eq_false_iff_not] at h
    have ih := seen_set ns s h.2
    have h1 : keyB (.str s) (AV.str t) = false := decide_eq_false (fun e => h.1 e.symm)
    simp only [seenE, List.map_cons, List.cons_append, asetA, h1] at ih ⊢
    simp [ih]
theorem seen_keys (ns : List ByteArray) : keysOk .str (seenE ns) = true := by
  simp [keysOk, seenE, keyKind]
theorem Sub_put2 {s : Store} {o o1 : Nat} {m m' x : Ob} (hs : s o1 = none) : (s.put o m').Sub (((s.put o m).put o1 x).put o m') := by
  intro p y hp
  simp only [Store.put] at hp ⊢
  split at hp
  · rename_i e; rw [if_pos e]; exact hp
  · rename_i e
    rw [if_neg e]
    split
    · rename_i e2; rw [e2, hs] at hp; cases hp
    · first | exact hp | (rw [if_neg e]; exact hp)
def unlikeB : List ByteArray → List ByteArray → Bool
  | _, [] => true
  | seen, s :: l => !(seen.any fun t => decide (t = s)) && nameB s && unlikeB (seen ++ [s]) l
theorem unlikeB_drop (l : List ByteArray) (i : Nat) (s : ByteArray) (h : l[i]? = some s) : unlikeB (l.take i) (l.drop i) = (!((l.take i).any fun t => decide (t = s)) && nameB s && unlikeB (l.take (i + 1)) (l.drop (i + 1))) := by
  obtain ⟨hl, rfl⟩ := List.getElem?_eq_some_iff.1 h
  rw [List.drop_eq_getElem_cons hl, unlikeB, List.take_succ_eq_append_getElem hl]
attribute [local go_sem] seen_find seen_keys
theorem getLst (x : LstD) : Pure Tryz.prog 35 [eLst x] (.str x.name) := by
  intro σ
  refine PCall_q [.tmp 2] 5 Tryz.func35 (by rfl) rfl rfl rfl rfl ?_
  repeat' first |refine s1 ?_|refine gS ?_|refine wT rfl ?_|refine wF rfl ?_|refine wt rfl ?_|refine wf rfl ?_|(refine wC rfl (fun h=>?_) (fun h=>?_)<;>(try contradiction))|((first|refine rd ?_|refine ry [] c0 fun nu _ _=>?_);simp -dsimp (disch:=omega) only[go_sem])|refine e0 (by decide) ?_|(refine zA ?_ ?_;omega)|refine zA (of_eq_true PutAt_put) ?_|refine gT ?_|refine gF ?_|(refine gI (fun h=>?_) (fun h=>?_)<;>(try contradiction)<;>(try refine rd ?_)<;>(try simp -dsimp (disch:=omega) only[go_sem,h]))|refine zX _ (zX _ (zA (zA rfl rfl) ?_)) |fail
theorem unlLst (k : SK) (l : List LstD) (hl : l.length < 4611686018427387904) (hn : ∀ x, x ∈ l → x.name.size ≤ 9223372036854775807) :
    Pure Tryz.prog 34 [.sl k (encL eLst l), .fn 35 []] (.bool (unlikeB [] (l.map (·.name)))) := by
  intro σ
  refine PCall_q [.tmp 4] 30 Tryz.func34 (by rfl) rfl rfl rfl rfl ?_
  repeat' first |refine s1 ?_|refine gS ?_|refine wT rfl ?_|refine wF rfl ?_|refine wt rfl ?_|refine wf rfl ?_|(refine wC rfl (fun h=>?_) (fun h=>?_)<;>(try contradiction))|((first|refine rd ?_|refine ry [] c0 fun nu _ _=>?_);simp -dsimp (disch:=omega) only[go_sem])|refine e0 (by decide) ?_|(refine zA ?_ ?_;omega)|refine zA (of_eq_true PutAt_put) ?_|refine gT ?_|refine gF ?_|(refine gI (fun h=>?_) (fun h=>?_)<;>(try contradiction)<;>(try refine rd ?_)<;>(try simp -dsimp (disch:=omega) only[go_sem,h]))|refine zX _ (zX _ (zA (zA rfl rfl) ?_)) |fail
  intro o ho
  repeat' first |refine s1 ?_|refine gS ?_|refine wT rfl ?_|refine wF rfl ?_|refine wt rfl ?_|refine wf rfl ?_|(refine wC rfl (fun h=>?_) (fun h=>?_)<;>(try contradiction))|((first|refine rd ?_|refine ry [] c0 fun nu _ _=>?_);simp -dsimp (disch:=omega) only[go_sem])|refine e0 (by decide) ?_|(refine zA ?_ ?_;omega)|refine zA (of_eq_true PutAt_put) ?_|refine gT ?_|refine gF ?_|(refine gI (fun h=>?_) (fun h=>?_)<;>(try contradiction)<;>(try refine rd ?_)<;>(try simp -dsimp (disch:=omega) only[go_sem,h]))|refine zX _ (zX _ (zA (zA rfl rfl) ?_)) |fail
  refine W_loop_st (fun i : Nat => [(1, .fn 35 []), (5, .map o), (10, .sl k (encL eLst l)), (11, .int .i64 l.length), (12, .int .i64 i)]) (fun i => σ.put o (.map (seenE ((l.map (·.name)).take i)))) (fun i => i ≤ l.length ∧ unlikeB [] (l.map (·.name)) = unlikeB ((l.map (·.name)).take i) ((l.map (·.name)).drop i)) (fun i => l.length - i) 0 ⟨Nat.zero_le _, rfl⟩ (Env.Sub_of_has (by simp [Env.Has, Env.get])) (Store.Sub.refl _) ?_
  rintro i ⟨hi, hor⟩
  by_cases hlt : i < l.length
  · have hg : l.getD i default = l[i] := by simp [List.getD_eq_getElem?_getD, hlt]
    have hm : l[i] ∈ l := List.getElem_mem hlt
    have hns := name_spec l[i].name (hn _ hm)
    have hgt := getLst l[i]
    have ho2 := unlikeB_drop (l.map (·.name)) i l[i].name (by simp [hlt])
    obtain ⟨ns, hns2⟩ : ∃ ns, (l.map (·.name)).take i = ns := ⟨_, rfl⟩
    rw [hns2] at ho2 hor
    repeat' first |refine s1 ?_|refine gS ?_|refine wT rfl ?_|refine wF rfl ?_|refine wt rfl ?_|refine wf rfl ?_|(refine wC rfl (fun h=>?_) (fun h=>?_)<;>(try contradiction))|((first|refine rd ?_|refine ry [] c0 fun nu _ _=>?_);simp -dsimp (disch:=omega) only[go_sem,hg, hns2])|refine e0 (by decide) ?_|(refine zA ?_ ?_;omega)|refine zA (of_eq_true PutAt_put) ?_|refine gT ?_|refine gF ?_|(refine gI (fun h=>?_) (fun h=>?_)<;>(try contradiction)<;>(try refine rd ?_)<;>(try simp -dsimp (disch:=omega) only[go_sem,h,hg, hns2]))|refine zX _ (zX _ (zA (zA rfl rfl) ?_)) |fail
    intro o1 ho1
    have hpn : ∀ (s : Store) (x : Ob), (s.put o1 x) o = s o := fun s x => put_ne (fresh_ne ho1)
    have ho1' := fresh_old ho1
    rcases Bool.eq_false_or_eq_true (ns.any fun t => decide (t = l[i].name)) with ha | ha
    · rw [ha] at ho2
      repeat' first |refine s1 ?_|refine gS ?_|refine wT rfl ?_|refine wF rfl ?_|refine wt rfl ?_|refine wf rfl ?_|(refine wC rfl (fun h=>?_) (fun h=>?_)<;>(try contradiction))|((first|refine rd ?_|refine ry [] c0 fun nu _ _=>?_);simp -dsimp (disch:=omega) only[go_sem,hpn, ha])|refine e0 (by decide) ?_|(refine zA ?_ ?_;omega)|refine zA (of_eq_true PutAt_put) ?_|refine gT ?_|refine gF ?_|(refine gI (fun h=>?_) (fun h=>?_)<;>(try contradiction)<;>(try refine rd ?_)<;>(try simp -dsimp (disch:=omega) only[go_sem,h,hpn, ha]))|refine zX _ (zX _ (zA (zA rfl rfl) ?_)) |refine us (hgt) ?_ |refine us (hns) ?_ |fail
      exact ⟨by rw [hor, ho2]; rfl, Sub_put (Sub_put (Store.Sub.refl _) ho _) ho1' _⟩
    · have hset := seen_set ns l[i].name ha
      rw [ha] at ho2
      repeat' first |refine s1 ?_|refine gS ?_|refine wT rfl ?_|refine wF rfl ?_|refine wt rfl ?_|refine wf rfl ?_|(refine wC rfl (fun h=>?_) (fun h=>?_)<;>(try contradiction))|((first|refine rd ?_|refine ry [] c0 fun nu _ _=>?_);simp -dsimp (disch:=omega) only[go_sem,hpn, ha, hset])|refine e0 (by decide) ?_|(refine zA ?_ ?_;omega)|refine zA (of_eq_true PutAt_put) ?_|refine gT ?_|refine gF ?_|(refine gI (fun h=>?_) (fun h=>?_)<;>(try contradiction)<;>(try refine rd ?_)<;>(try simp -dsimp (disch:=omega) only[go_sem,h,hpn, ha, hset]))|refine zX _ (zX _ (zA (zA rfl rfl) ?_)) |refine us (hgt) ?_ |refine us (hns) ?_ |fail
      · exact ⟨by rw [hor, ho2, h]; rfl, Sub_put (Sub_put (Store.Sub.refl _) ho _) ho1' _⟩
      · refine ⟨i + 1, by omega, ⟨by omega, by rw [hor, ho2, h]; rfl⟩, Env.Sub_of_has (by simp [Env.Has, Env.get]), ?_⟩
        rw [List.take_succ_eq_append_getElem (by simpa using hlt), hns2]
        simp only [List.getElem_map]
        exact Sub_put2 ho1'
  · have hi' : i = l.length := by omega
    subst hi'
    repeat' first |refine s1 ?_|refine gS ?_|refine wT rfl ?_|refine wF rfl ?_|refine wt rfl ?_|refine wf rfl ?_|(refine wC rfl (fun h=>?_) (fun h=>?_)<;>(try contradiction))|((first|refine rd ?_|refine ry [] c0 fun nu _ _=>?_);simp -dsimp (disch:=omega) only[go_sem])|refine e0 (by decide) ?_|(refine zA ?_ ?_;omega)|refine zA (of_eq_true PutAt_put) ?_|refine gT ?_|refine gF ?_|(refine gI (fun h=>?_) (fun h=>?_)<;>(try contradiction)<;>(try refine rd ?_)<;>(try simp -dsimp (disch:=omega) only[go_sem,h]))|refine zX _ (zX _ (zA (zA rfl rfl) ?_)) |fail
    exact ⟨by rw [hor, List.drop_eq_nil_of_le (by simp)]; rfl, Sub_put (Store.Sub.refl _) ho _⟩
theorem getMap (x : MapD) : Pure Tryz.prog 37 [eMap x] (.str x.name) := by
  intro σ
  refine PCall_q [.tmp 2] 5 Tryz.func37 (by rfl) rfl rfl rfl rfl ?_
  repeat' first |refine s1 ?_|refine gS ?_|refine wT rfl ?_|refine wF rfl ?_|refine wt rfl ?_|refine wf rfl ?_|(refine wC rfl (fun h=>?_) (fun h=>?_)<;>(try contradiction))|((first|refine rd ?_|refine ry [] c0 fun nu _ _=>?_);simp -dsimp (disch:=omega) only[go_sem])|refine e0 (by decide) ?_|(refine zA ?_ ?_;omega)|refine zA (of_eq_true PutAt_put) ?_|refine gT ?_|refine gF ?_|(refine gI (fun h=>?_) (fun h=>?_)<;>(try contradiction)<;>(try refine rd ?_)<;>(try simp -dsimp (disch:=omega) only[go_sem,h]))|refine zX _ (zX _ (zA (zA rfl rfl) ?_)) |fail
theorem unlMap (k : SK) (l : List MapD) (hl : l.length < 4611686018427387904) (hn : ∀ x, x ∈ l → x.name.size ≤ 9223372036854775807) :
    Pure Tryz.prog 36 [.sl k (encL eMap l), .fn 37 []] (.bool (unlikeB [] (l.map (·.name)))) := by
  intro σ
  refine PCall_q [.tmp 4] 30 Tryz.func36 (by rfl) rfl rfl rfl rfl ?_
  repeat' first |refine s1 ?_|refine gS ?_|refine wT rfl ?_|refine wF rfl ?_|refine wt rfl ?_|refine wf rfl ?_|(refine wC rfl (fun h=>?_) (fun h=>?_)<;>(try contradiction))|((first|refine rd ?_|refine ry [] c0 fun nu _ _=>?_);simp -dsimp (disch:=omega) only[go_sem])|refine e0 (by decide) ?_|(refine zA ?_ ?_;omega)|refine zA (of_eq_true PutAt_put) ?_|refine gT ?_|refine gF ?_|(refine gI (fun h=>?_) (fun h=>?_)<;>(try contradiction)<;>(try refine rd ?_)<;>(try simp -dsimp (disch:=omega) only[go_sem,h]))|refine zX _ (zX _ (zA (zA rfl rfl) ?_)) |fail
  intro o ho
  repeat' first |refine s1 ?_|refine gS ?_|refine wT rfl ?_|refine wF rfl ?_|refine wt rfl ?_|refine wf rfl ?_|(refine wC rfl (fun h=>?_) (fun h=>?_)<;>(try contradiction))|((first|refine rd ?_|refine ry [] c0 fun nu _ _=>?_);simp -dsimp (disch:=omega) only[go_sem])|refine e0 (by decide) ?_|(refine zA ?_ ?_;omega)|refine zA (of_eq_true PutAt_put) ?_|refine gT ?_|refine gF ?_|(refine gI (fun h=>?_) (fun h=>?_)<;>(try contradiction)<;>(try refine rd ?_)<;>(try simp -dsimp (disch:=omega) only[go_sem,h]))|refine zX _ (zX _ (zA (zA rfl rfl) ?_)) |fail
  refine W_loop_st (fun i : Nat => [(1, .fn 37 []), (5, .map o), (10, .sl k (encL eMap l)), (11, .int .i64 l.length), (12, .int .i64 i)]) (fun i => σ.put o (.map (seenE ((l.map (·.name)).take i)))) (fun i => i ≤ l.length ∧ unlikeB [] (l.map (·.name)) = unlikeB ((l.map (·.name)).take i) ((l.map (·.name)).drop i)) (fun i => l.length - i) 0 ⟨Nat.zero_le _, rfl⟩ (Env.Sub_of_has (by simp [Env.Has, Env.get])) (Store.Sub.refl _) ?_
  rintro i ⟨hi, hor⟩
  by_cases hlt : i < l.length
  · have hg : l.getD i default = l[i] := by simp [List.getD_eq_getElem?_getD, hlt]
    have hm : l[i] ∈ l := List.getElem_mem hlt
    have hns := name_spec l[i].name (hn _ hm)
    have hgt := getMap l[i]
    have ho2 := unlikeB_drop (l.map (·.name)) i l[i].name (by simp [hlt])
    obtain ⟨ns, hns2⟩ : ∃ ns, (l.map (·.name)).take i = ns := ⟨_, rfl⟩
    rw [hns2] at ho2 hor
    repeat' first |refine s1 ?_|refine gS ?_|refine wT rfl ?_|refine wF rfl ?_|refine wt rfl ?_|refine wf rfl ?_|(refine wC rfl (fun h=>?_) (fun h=>?_)<;>(try contradiction))|((first|refine rd ?_|refine ry [] c0 fun nu _ _=>?_);simp -dsimp (disch:=omega) only[go_sem,hg, hns2])|refine e0 (by decide) ?_|(refine zA ?_ ?_;omega)|refine zA (of_eq_true PutAt_put) ?_|refine gT ?_|refine gF ?_|(refine gI (fun h=>?_) (fun h=>?_)<;>(try contradiction)<;>(try refine rd ?_)<;>(try simp -dsimp (disch:=omega) only[go_sem,h,hg, hns2]))|refine zX _ (zX _ (zA (zA rfl rfl) ?_)) |fail
    intro o1 ho1
    have hpn : ∀ (s : Store) (x : Ob), (s.put o1 x) o = s o := fun s x => put_ne (fresh_ne ho1)
    have ho1' := fresh_old ho1
    rcases Bool.eq_false_or_eq_true (ns.any fun t => decide (t = l[i].name)) with ha | ha
    · rw [ha] at ho2
      repeat' first |refine s1 ?_|refine gS ?_|refine wT rfl ?_|refine wF rfl ?_|refine wt rfl ?_|refine wf rfl ?_|(refine wC rfl (fun h=>?_) (fun h=>?_)<;>(try contradiction))|((first|refine rd ?_|refine ry [] c0 fun nu _ _=>?_);simp -dsimp (disch:=omega) only[go_sem,hpn, ha])|refine e0 (by decide) ?_|(refine zA ?_ ?_;omega)|refine zA (of_eq_true PutAt_put) ?_|refine gT ?_|refine gF ?_|(refine gI (fun h=>?_) (fun h=>?_)<;>(try contradiction)<;>(try refine rd ?_)<;>(try simp -dsimp (disch:=omega) only[go_sem,h,hpn, ha]))|refine zX _ (zX _ (zA (zA rfl rfl) ?_)) |refine us (hgt) ?_ |refine us (hns) ?_ |fail
      exact ⟨by rw [hor, ho2]; rfl, Sub_put (Sub_put (Store.Sub.refl _) ho _) ho1' _⟩
    · have hset := seen_set ns l[i].name ha
      rw [ha] at ho2
      repeat' first |refine s1 ?_|refine gS ?_|refine wT rfl ?_|refine wF rfl ?_|refine wt rfl ?_|refine wf rfl ?_|(refine wC rfl (fun h=>?_) (fun h=>?_)<;>(try contradiction))|((first|refine rd ?_|refine ry [] c0 fun nu _ _=>?_);simp -dsimp (disch:=omega) only[go_sem,hpn, ha, hset])|refine e0 (by decide) ?_|(refine zA ?_ ?_;omega)|refine zA (of_eq_true PutAt_put) ?_|refine gT ?_|refine gF ?_|(refine gI (fun h=>?_) (fun h=>?_)<;>(try contradiction)<;>(try refine rd ?_)<;>(try simp -dsimp (disch:=omega) only[go_sem,h,hpn, ha, hset]))|refine zX _ (zX _ (zA (zA rfl rfl) ?_)) |refine us (hgt) ?_ |refine us (hns) ?_ |fail
      · exact ⟨by rw [hor, ho2, h]; rfl, Sub_put (Sub_put (Store.Sub.refl _) ho _) ho1' _⟩
      · refine ⟨i + 1, by omega, ⟨by omega, by rw [hor, ho2, h]; rfl⟩, Env.Sub_of_has (by simp [Env.Has, Env.get]), ?_⟩
        rw [List.take_succ_eq_append_getElem (by simpa using hlt), hns2]
        simp only [List.getElem_map]
        exact Sub_put2 ho1'
  · have hi' : i = l.length := by omega
    subst hi'
    repeat' first |refine s1 ?_|refine gS ?_|refine wT rfl ?_|refine wF rfl ?_|refine wt rfl ?_|refine wf rfl ?_|(refine wC rfl (fun h=>?_) (fun h=>?_)<;>(try contradiction))|((first|refine rd ?_|refine ry [] c0 fun nu _ _=>?_);simp -dsimp (disch:=omega) only[go_sem])|refine e0 (by decide) ?_|(refine zA ?_ ?_;omega)|refine zA (of_eq_true PutAt_put) ?_|refine gT ?_|refine gF ?_|(refine gI (fun h=>?_) (fun h=>?_)<;>(try contradiction)<;>(try refine rd ?_)<;>(try simp -dsimp (disch:=omega) only[go_sem,h]))|refine zX _ (zX _ (zA (zA rfl rfl) ?_)) |fail
    exact ⟨by rw [hor, List.drop_eq_nil_of_le (by simp)]; rfl, Sub_put (Store.Sub.refl _) ho _⟩
theorem getRtr (x : Rtr) : Pure Tryz.prog 39 [eRtr x] (.str x.name) := by
  intro σ
  refine PCall_q [.tmp 2] 5 Tryz.func39 (by rfl) rfl rfl rfl rfl ?_
  repeat' first |refine s1 ?_|refine gS ?_|refine wT rfl ?_|refine wF rfl ?_|refine wt rfl ?_|refine wf rfl ?_|(refine wC rfl (fun h=>?_) (fun h=>?_)<;>(try contradiction))|((first|refine rd ?_|refine ry [] c0 fun nu _ _=>?_);simp -dsimp (disch:=omega) only[go_sem])|refine e0 (by decide) ?_|(refine zA ?_ ?_;omega)|refine zA (of_eq_true PutAt_put) ?_|refine gT ?_|refine gF ?_|(refine gI (fun h=>?_) (fun h=>?_)<;>(try contradiction)<;>(try refine rd ?_)<;>(try simp -dsimp (disch:=omega) only[go_sem,h]))|refine zX _ (zX _ (zA (zA rfl rfl) ?_)) |fail
theorem unlRtr (k : SK) (l : List Rtr) (hl : l.length < 4611686018427387904) (hn : ∀ x, x ∈ l → x.name.size ≤ 9223372036854775807) :
    Pure Tryz.prog 38 [.sl k (encL eRtr l), .fn 39 []] (.bool (unlikeB [] (l.map (·.name)))) := by
  intro σ
  refine PCall_q [.tmp 4] 30 Tryz.func38 (by rfl) rfl rfl rfl rfl ?_
  repeat' first |refine s1 ?_|refine gS ?_|refine wT rfl ?_|refine wF rfl ?_|refine wt rfl ?_|refine wf rfl ?_|(refine wC rfl (fun h=>?_) (fun h=>?_)<;>(try contradiction))|((first|refine rd ?_|refine ry [] c0 fun nu _ _=>?_);simp -dsimp (disch:=omega) only[go_sem])|refine e0 (by decide) ?_|(refine zA ?_ ?_;omega)|refine zA (of_eq_true PutAt_put) ?_|refine gT ?_|refine gF ?_|(refine gI (fun h=>?_) (fun h=>?_)<;>(try contradiction)<;>(try refine rd ?_)<;>(try simp -dsimp (disch:=omega) only[go_sem,h]))|refine zX _ (zX _ (zA (zA rfl rfl) ?_)) |fail
  intro o ho
  repeat' first |refine s1 ?_|refine gS ?_|refine wT rfl ?_|refine wF rfl ?_|refine wt rfl ?_|refine wf rfl ?_|(refine wC rfl (fun h=>?_) (fun h=>?_)<;>(try contradiction))|((first|refine rd ?_|refine ry [] c0 fun nu _ _=>?_);simp -dsimp (disch:=omega) only[go_sem])|refine e0 (by decide) ?_|(refine zA ?_ ?_;omega)|refine zA (of_eq_true PutAt_put) ?_|refine gT ?_|refine gF ?_|(refine gI (fun h=>?_) (fun h=>?_)<;>(try contradiction)<;>(try refine rd ?_)<;>(try simp -dsimp (disch:=omega) only[go_sem,h]))|refine zX _ (zX _ (zA (zA rfl rfl) ?_)) |fail
  refine W_loop_st (fun i : Nat => [(1, .fn 39 []), (5, .map o), (10, .sl k (encL eRtr l)), (11, .int .i64 l.length), (12, .int .i64 i)]) (fun i => σ.put o (.map (seenE ((l.map (·.name)).take i)))) (fun i => i ≤ l.length ∧ unlikeB [] (l.map (·.name)) = unlikeB ((l.map (·.name)).take i) ((l.map (·.name)).drop i)) (fun i => l.length - i) 0 ⟨Nat.zero_le _, rfl⟩ (Env.Sub_of_has (by simp [Env.Has, Env.get])) (Store.Sub.refl _) ?_
  rintro i ⟨hi, hor⟩
  by_cases hlt : i < l.length
  · have hg : l.getD i default = l[i] := by simp [List.getD_eq_getElem?_getD, hlt]
    have hm : l[i] ∈ l := List.getElem_mem hlt
    have hns := name_spec l[i].name (hn _ hm)
    have hgt := getRtr l[i]
    have ho2 := unlikeB_drop (l.map (·.name)) i l[i].name (by simp [hlt])
    obtain ⟨ns, hns2⟩ : ∃ ns, (l.map (·.name)).take i = ns := ⟨_, rfl⟩
    rw [hns2] at ho2 hor
    repeat' first |refine s1 ?_|refine gS ?_|refine wT rfl ?_|refine wF rfl ?_|refine wt rfl ?_|refine wf rfl ?_|(refine wC rfl (fun h=>?_) (fun h=>?_)<;>(try contradiction))|((first|refine rd ?_|refine ry [] c0 fun nu _ _=>?_);simp -dsimp (disch:=omega) only[go_sem,hg, hns2])|refine e0 (by decide) ?_|(refine zA ?_ ?_;omega)|refine zA (of_eq_true PutAt_put) ?_|refine gT ?_|refine gF ?_|(refine gI (fun h=>?_) (fun h=>?_)<;>(try contradiction)<;>(try refine rd ?_)<;>(try simp -dsimp (disch:=omega) only[go_sem,h,hg, hns2]))|refine zX _ (zX _ (zA (zA rfl rfl) ?_)) |fail
    intro o1 ho1
    have hpn : ∀ (s : Store) (x : Ob), (s.put o1 x) o = s o := fun s x => put_ne (fresh_ne ho1)
    have ho1' := fresh_old ho1
    rcases Bool.eq_false_or_eq_true (ns.any fun t => decide (t = l[i].name)) with ha | ha
    · rw [ha] at ho2
      repeat' first |refine s1 ?_|refine gS ?_|refine wT rfl ?_|refine wF rfl ?_|refine wt rfl ?_|refine wf rfl ?_|(refine wC rfl (fun h=>?_) (fun h=>?_)<;>(try contradiction))|((first|refine rd ?_|refine ry [] c0 fun nu _ _=>?_);simp -dsimp (disch:=omega) only[go_sem,hpn, ha])|refine e0 (by decide) ?_|(refine zA ?_ ?_;omega)|refine zA (of_eq_true PutAt_put) ?_|refine gT ?_|refine gF ?_|(refine gI (fun h=>?_) (fun h=>?_)<;>(try contradiction)<;>(try refine rd ?_)<;>(try simp -dsimp (disch:=omega) only[go_sem,h,hpn, ha]))|refine zX _ (zX _ (zA (zA rfl rfl) ?_)) |refine us (hgt) ?_ |refine us (hns) ?_ |fail
      exact ⟨by rw [hor, ho2]; rfl, Sub_put (Sub_put (Store.Sub.refl _) ho _) ho1' _⟩
    · have hset := seen_set ns l[i].name ha
      rw [ha] at ho2
      repeat' first |refine s1 ?_|refine gS ?_|refine wT rfl ?_|refine wF rfl ?_|refine wt rfl ?_|refine wf rfl ?_|(refine wC rfl (fun h=>?_) (fun h=>?_)<;>(try contradiction))|((first|refine rd ?_|refine ry [] c0 fun nu _ _=>?_);simp -dsimp (disch:=omega) only[go_sem,hpn, ha, hset])|refine e0 (by decide) ?_|(refine zA ?_ ?_;omega)|refine zA (of_eq_true PutAt_put) ?_|refine gT ?_|refine gF ?_|(refine gI (fun h=>?_) (fun h=>?_)<;>(try contradiction)<;>(try refine rd ?_)<;>(try simp -dsimp (disch:=omega) only[go_sem,h,hpn, ha, hset]))|refine zX _ (zX _ (zA (zA rfl rfl) ?_)) |refine us (hgt) ?_ |refine us (hns) ?_ |fail
      · exact ⟨by rw [hor, ho2, h]; rfl, Sub_put (Sub_put (Store.Sub.refl _) ho _) ho1' _⟩
      · refine ⟨i + 1, by omega, ⟨by omega, by rw [hor, ho2, h]; rfl⟩, Env.Sub_of_has (by simp [Env.Has, Env.get]), ?_⟩
        rw [List.take_succ_eq_append_getElem (by simpa using hlt), hns2]
        simp only [List.getElem_map]
        exact Sub_put2 ho1'
  · have hi' : i = l.length := by omega
    subst hi'
    repeat' first |refine s1 ?_|refine gS ?_|refine wT rfl ?_|refine wF rfl ?_|refine wt rfl ?_|refine wf rfl ?_|(refine wC rfl (fun h=>?_) (fun h=>?_)<;>(try contradiction))|((first|refine rd ?_|refine ry [] c0 fun nu _ _=>?_);simp -dsimp (disch:=omega) only[go_sem])|refine e0 (by decide) ?_|(refine zA ?_ ?_;omega)|refine zA (of_eq_true PutAt_put) ?_|refine gT ?_|refine gF ?_|(refine gI (fun h=>?_) (fun h=>?_)<;>(try contradiction)<;>(try refine rd ?_)<;>(try simp -dsimp (disch:=omega) only[go_sem,h]))|refine zX _ (zX _ (zA (zA rfl rfl) ?_)) |fail
    exact ⟨by rw [hor, List.drop_eq_nil_of_le (by simp)]; rfl, Sub_put (Store.Sub.refl _) ho _⟩
theorem getNbr (x : Nbr) : Pure Tryz.prog 91 [eNbr x] (.str x.name) := by
  intro σ
  refine PCall_q [.tmp 2] 5 Tryz.func91 (by rfl) rfl rfl rfl rfl ?_
  repeat' first |refine s1 ?_|refine gS ?_|refine wT rfl ?_|refine wF rfl ?_|refine wt rfl ?_|refine wf rfl ?_|(refine wC rfl (fun h=>?_) (fun h=>?_)<;>(try contradiction))|((first|refine rd ?_|refine ry [] c0 fun nu _ _=>?_);simp -dsimp (disch:=omega) only[go_sem])|refine e0 (by decide) ?_|(refine zA ?_ ?_;omega)|refine zA (of_eq_true PutAt_put) ?_|refine gT ?_|refine gF ?_|(refine gI (fun h=>?_) (fun h=>?_)<;>(try contradiction)<;>(try refine rd ?_)<;>(try simp -dsimp (disch:=omega) only[go_sem,h]))|refine zX _ (zX _ (zA (zA rfl rfl) ?_)) |fail
theorem unlNbr (k : SK) (l : List Nbr) (hl : l.length < 4611686018427387904) (hn : ∀ x, x ∈ l → x.name.size ≤ 9223372036854775807) :
    Pure Tryz.prog 90 [.sl k (encL eNbr l), .fn 91 []] (.bool (unlikeB [] (l.map (·.name)))) := by
  intro σ
  refine PCall_q [.tmp 4] 30 Tryz.func90 (by rfl) rfl rfl rfl rfl ?_
  repeat' first |refine s1 ?_|refine gS ?_|refine wT rfl ?_|refine wF rfl ?_|refine wt rfl ?_|refine wf rfl ?_|(refine wC rfl (fun h=>?_) (fun h=>?_)<;>(try contradiction))|((first|refine rd ?_|refine ry [] c0 fun nu _ _=>?_);simp -dsimp (disch:=omega) only[go_sem])|refine e0 (by decide) ?_|(refine zA ?_ ?_;omega)|refine zA (of_eq_true PutAt_put) ?_|refine gT ?_|refine gF ?_|(refine gI (fun h=>?_) (fun h=>?_)<;>(try contradiction)<;>(try refine rd ?_)<;>(try simp -dsimp (disch:=omega) only[go_sem,h]))|refine zX _ (zX _ (zA (zA rfl rfl) ?_)) |fail
  intro o ho
  repeat' first |refine s1 ?_|refine gS ?_|refine wT rfl ?_|refine wF rfl ?_|refine wt rfl ?_|refine wf rfl ?_|(refine wC rfl (fun h=>?_) (fun h=>?_)<;>(try contradiction))|((first|refine rd ?_|refine ry [] c0 fun nu _ _=>?_);simp -dsimp (disch:=omega) only[go_sem])|refine e0 (by decide) ?_|(refine zA ?_ ?_;omega)|refine zA (of_eq_true PutAt_put) ?_|refine gT ?_|refine gF ?_|(refine gI (fun h=>?_) (fun h=>?_)<;>(try contradiction)<;>(try refine rd ?_)<;>(try simp -dsimp (disch:=omega) only[go_sem,h]))|refine zX _ (zX _ (zA (zA rfl rfl) ?_)) |fail
  refine W_loop_st (fun i : Nat => [(1, .fn 91 []), (5, .map o), (10, .sl k (encL eNbr l)), (11, .int .i64 l.length), (12, .int .i64 i)]) (fun i => σ.put o (.map (seenE ((l.map (·.name)).take i)))) (fun i => i ≤ l.length ∧ unlikeB [] (l.map (·.name)) = unlikeB ((l.map (·.name)).take i) ((l.map (·.name)).drop i)) (fun i => l.length - i) 0 ⟨Nat.zero_le _, rfl⟩ (Env.Sub_of_has (by simp [Env.Has, Env.get])) (Store.Sub.refl _) ?_
  rintro i ⟨hi, hor⟩
  by_cases hlt : i < l.length
  · have hg : l.getD i default = l[i] := by simp [List.getD_eq_getElem?_getD, hlt]
    have hm : l[i] ∈ l := List.getElem_mem hlt
    have hns := name_spec l[i].name (hn _ hm)
    have hgt := getNbr l[i]
    have ho2 := unlikeB_drop (l.map (·.name)) i l[i].name (by simp [hlt])
    obtain ⟨ns, hns2⟩ : ∃ ns, (l.map (·.name)).take i = ns := ⟨_, rfl⟩
    rw [hns2] at ho2 hor
    repeat' first |refine s1 ?_|refine gS ?_|refine wT rfl ?_|refine wF rfl ?_|refine wt rfl ?_|refine wf rfl ?_|(refine wC rfl (fun h=>?_) (fun h=>?_)<;>(try contradiction))|((first|refine rd ?_|refine ry [] c0 fun nu _ _=>?_);simp -dsimp (disch:=omega) only[go_sem,hg, hns2])|refine e0 (by decide) ?_|(refine zA ?_ ?_;omega)|refine zA (of_eq_true PutAt_put) ?_|refine gT ?_|refine gF ?_|(refine gI (fun h=>?_) (fun h=>?_)<;>(try contradiction)<;>(try refine rd ?_)<;>(try simp -dsimp (disch:=omega) only[go_sem,h,hg, hns2]))|refine zX _ (zX _ (zA (zA rfl rfl) ?_)) |fail
    intro o1 ho1
    have hpn : ∀ (s : Store) (x : Ob), (s.put o1 x) o = s o := fun s x => put_ne (fresh_ne ho1)
    have ho1' := fresh_old ho1
    rcases Bool.eq_false_or_eq_true (ns.any fun t => decide (t = l[i].name)) with ha | ha
    · rw [ha] at ho2
      repeat' first |refine s1 ?_|refine gS ?_|refine wT rfl ?_|refine wF rfl ?_|refine wt rfl ?_|refine wf rfl ?_|(refine wC rfl (fun h=>?_) (fun h=>?_)<;>(try contradiction))|((first|refine rd ?_|refine ry [] c0 fun nu _ _=>?_);simp -dsimp (disch:=omega) only[go_sem,hpn, ha])|refine e0 (by decide) ?_|(refine zA ?_ ?_;omega)|refine zA (of_eq_true PutAt_put) ?_|refine gT ?_|refine gF ?_|(refine gI (fun h=>?_) (fun h=>?_)<;>(try contradiction)<;>(try refine rd ?_)<;>(try simp -dsimp (disch:=omega) only[go_sem,h,hpn, ha]))|refine zX _ (zX _ (zA (zA rfl rfl) ?_)) |refine us (hgt) ?_ |refine us (hns) ?_ |fail
      exact ⟨by rw [hor, ho2]; rfl, Sub_put (Sub_put (Store.Sub.refl _) ho _) ho1' _⟩
    · have hset := seen_set ns l[i].name ha
      rw [ha] at ho2
      repeat' first |refine s1 ?_|refine gS ?_|refine wT rfl ?_|refine wF rfl ?_|refine wt rfl ?_|refine wf rfl ?_|(refine wC rfl (fun h=>?_) (fun h=>?_)<;>(try contradiction))|((first|refine rd ?_|refine ry [] c0 fun nu _ _=>?_);simp -dsimp (disch:=omega) only[go_sem,hpn, ha, hset])|refine e0 (by decide) ?_|(refine zA ?_ ?_;omega)|refine zA (of_eq_true PutAt_put) ?_|refine gT ?_|refine gF ?_|(refine gI (fun h=>?_) (fun h=>?_)<;>(try contradiction)<;>(try refine rd ?_)<;>(try simp -dsimp (disch:=omega) only[go_sem,h,hpn, ha, hset]))|refine zX _ (zX _ (zA (zA rfl rfl) ?_)) |refine us (hgt) ?_ |refine us (hns) ?_ |fail
      · exact ⟨by rw [hor, ho2, h]; rfl, Sub_put (Sub_put (Store.Sub.refl _) ho _) ho1' _⟩
      · refine ⟨i + 1, by omega, ⟨by omega, by rw [hor, ho2, h]; rfl⟩, Env.Sub_of_has (by simp [Env.Has, Env.get]), ?_⟩
        rw [List.take_succ_eq_append_getElem (by simpa using hlt), hns2]
        simp only [List.getElem_map]
        exact Sub_put2 ho1'
  · have hi' : i = l.length := by omega
    subst hi'
    repeat' first |refine s1 ?_|refine gS ?_|refine wT rfl ?_|refine wF rfl ?_|refine wt rfl ?_|refine wf rfl ?_|(refine wC rfl (fun h=>?_) (fun h=>?_)<;>(try contradiction))|((first|refine rd ?_|refine ry [] c0 fun nu _ _=>?_);simp -dsimp (disch:=omega) only[go_sem])|refine e0 (by decide) ?_|(refine zA ?_ ?_;omega)|refine zA (of_eq_true PutAt_put) ?_|refine gT ?_|refine gF ?_|(refine gI (fun h=>?_) (fun h=>?_)<;>(try contradiction)<;>(try refine rd ?_)<;>(try simp -dsimp (disch:=omega) only[go_sem,h]))|refine zX _ (zX _ (zA (zA rfl rfl) ?_)) |fail
    exact ⟨by rw [hor, List.drop_eq_nil_of_le (by simp)]; rfl, Sub_put (Store.Sub.refl _) ho _⟩
theorem getLnk (x : Lnk) : Pure Tryz.prog 93 [eLnk x] (.str x.name) := by
  intro σ
  refine PCall_q [.tmp 2] 5 Tryz.func93 (by rfl) rfl rfl rfl rfl ?_
  repeat' first |refine s1 ?_|refine gS ?_|refine wT rfl ?_|refine wF rfl ?_|refine wt rfl ?_|refine wf rfl ?_|(refine wC rfl (fun h=>?_) (fun h=>?_)<;>(try contradiction))|((first|refine rd ?_|refine ry [] c0 fun nu _ _=>?_);simp -dsimp (disch:=omega) only[go_sem])|refine e0 (by decide) ?_|(refine zA ?_ ?_;omega)|refine zA (of_eq_true PutAt_put) ?_|refine gT ?_|refine gF ?_|(refine gI (fun h=>?_) (fun h=>?_)<;>(try contradiction)<;>(try refine rd ?_)<;>(try simp -dsimp (disch:=omega) only[go_sem,h]))|refine zX _ (zX _ (zA (zA rfl rfl) ?_)) |fail
theorem unlLnk (k : SK) (l : List Lnk) (hl : l.length < 4611686018427387904) (hn : ∀ x, x ∈ l → x.name.size ≤ 9223372036854775807) :
    Pure Tryz.prog 92 [.sl k (encL eLnk l), .fn 93 []] (.bool (unlikeB [] (l.map (·.name)))) := by
  intro σ
  refine PCall_q [.tmp 4] 30 Tryz.func92 (by rfl) rfl rfl rfl rfl ?_
  repeat' first |refine s1 ?_|refine gS ?_|refine wT rfl ?_|refine wF rfl ?_|refine wt rfl ?_|refine wf rfl ?_|(refine wC rfl (fun h=>?_) (fun h=>?_)<;>(try contradiction))|((first|refine rd ?_|refine ry [] c0 fun nu _ _=>?_);simp -dsimp (disch:=omega) only[go_sem])|refine e0 (by decide) ?_|(refine zA ?_ ?_;omega)|refine zA (of_eq_true PutAt_put) ?_|refine gT ?_|refine gF ?_|(refine gI (fun h=>?_) (fun h=>?_)<;>(try contradiction)<;>(try refine rd ?_)<;>(try simp -dsimp (disch:=omega) only[go_sem,h]))|refine zX _ (zX _ (zA (zA rfl rfl) ?_)) |fail
  intro o ho
  repeat' first |refine s1 ?_|refine gS ?_|refine wT rfl ?_|refine wF rfl ?_|refine wt rfl ?_|refine wf rfl ?_|(refine wC rfl (fun h=>?_) (fun h=>?_)<;>(try contradiction))|((first|refine rd ?_|refine ry [] c0 fun nu _ _=>?_);simp -dsimp (disch:=omega) only[go_sem])|refine e0 (by decide) ?_|(refine zA ?_ ?_;omega)|refine zA (of_eq_true PutAt_put) ?_|refine gT ?_|refine gF ?_|(refine gI (fun h=>?_) (fun h=>?_)<;>(try contradiction)<;>(try refine rd ?_)<;>(try simp -dsimp (disch:=omega) only[go_sem,h]))|refine zX _ (zX _ (zA (zA rfl rfl) ?_)) |fail
  refine W_loop_st (fun i : Nat => [(1, .fn 93 []), (5, .map o), (10, .sl k (encL eLnk l)), (11, .int .i64 l.length), (12, .int .i64 i)]) (fun i => σ.put o (.map (seenE ((l.map (·.name)).take i)))) (fun i => i ≤ l.length ∧ unlikeB [] (l.map (·.name)) = unlikeB ((l.map (·.name)).take i) ((l.map (·.name)).drop i)) (fun i => l.length - i) 0 ⟨Nat.zero_le _, rfl⟩ (Env.Sub_of_has (by simp [Env.Has, Env.get])) (Store.Sub.refl _) ?_
  rintro i ⟨hi, hor⟩
  by_cases hlt : i < l.length
  · have hg : l.getD i default = l[i] := by simp [List.getD_eq_getElem?_getD, hlt]
    have hm : l[i] ∈ l := List.getElem_mem hlt
    have hns := name_spec l[i].name (hn _ hm)
    have hgt := getLnk l[i]
    have ho2 := unlikeB_drop (l.map (·.name)) i l[i].name (by simp [hlt])
    obtain ⟨ns, hns2⟩ : ∃ ns, (l.map (·.name)).take i = ns := ⟨_, rfl⟩
    rw [hns2] at ho2 hor
    repeat' first |refine s1 ?_|refine gS ?_|refine wT rfl ?_|refine wF rfl ?_|refine wt rfl ?_|refine wf rfl ?_|(refine wC rfl (fun h=>?_) (fun h=>?_)<;>(try contradiction))|((first|refine rd ?_|refine ry [] c0 fun nu _ _=>?_);simp -dsimp (disch:=omega) only[go_sem,hg, hns2])|refine e0 (by decide) ?_|(refine zA ?_ ?_;omega)|refine zA (of_eq_true PutAt_put) ?_|refine gT ?_|refine gF ?_|(refine gI (fun h=>?_) (fun h=>?_)<;>(try contradiction)<;>(try refine rd ?_)<;>(try simp -dsimp (disch:=omega) only[go_sem,h,hg, hns2]))|refine zX _ (zX _ (zA (zA rfl rfl) ?_)) |fail
    intro o1 ho1
    have hpn : ∀ (s : Store) (x : Ob), (s.put o1 x) o = s o := fun s x => put_ne (fresh_ne ho1)
    have ho1' := fresh_old ho1
    rcases Bool.eq_false_or_eq_true (ns.any fun t => decide (t = l[i].name)) with ha | ha
    · rw [ha] at ho2
      repeat' first |refine s1 ?_|refine gS ?_|refine wT rfl ?_|refine wF rfl ?_|refine wt rfl ?_|refine wf rfl ?_|(refine wC rfl (fun h=>?_) (fun h=>?_)<;>(try contradiction))|((first|refine rd ?_|refine ry [] c0 fun nu _ _=>?_);simp -dsimp (disch:=omega) only[go_sem,hpn, ha])|refine e0 (by decide) ?_|(refine zA ?_ ?_;omega)|refine zA (of_eq_true PutAt_put) ?_|refine gT ?_|refine gF ?_|(refine gI (fun h=>?_) (fun h=>?_)<;>(try contradiction)<;>(try refine rd ?_)<;>(try simp -dsimp (disch:=omega) only[go_sem,h,hpn, ha]))|refine zX _ (zX _ (zA (zA rfl rfl) ?_)) |refine us (hgt) ?_ |refine us (hns) ?_ |fail
      exact ⟨by rw [hor, ho2]; rfl, Sub_put (Sub_put (Store.Sub.refl _) ho _) ho1' _⟩
    · have hset := seen_set ns l[i].name ha
      rw [ha] at ho2
      repeat' first |refine s1 ?_|refine gS ?_|refine wT rfl ?_|refine wF rfl ?_|refine wt rfl ?_|refine wf rfl ?_|(refine wC rfl (fun h=>?_) (fun h=>?_)<;>(try contradiction))|((first|refine rd ?_|refine ry [] c0 fun nu _ _=>?_);simp -dsimp (disch:=omega) only[go_sem,hpn, ha, hset])|refine e0 (by decide) ?_|(refine zA ?_ ?_;omega)|refine zA (of_eq_true PutAt_put) ?_|refine gT ?_|refine gF ?_|(refine gI (fun h=>?_) (fun h=>?_)<;>(try contradiction)<;>(try refine rd ?_)<;>(try simp -dsimp (disch:=omega) only[go_sem,h,hpn, ha, hset]))|refine zX _ (zX _ (zA (zA rfl rfl) ?_)) |refine us (hgt) ?_ |refine us (hns) ?_ |fail
      · exact ⟨by rw [hor, ho2, h]; rfl, Sub_put (Sub_put (Store.Sub.refl _) ho _) ho1' _⟩
      · refine ⟨i + 1, by omega, ⟨by omega, by rw [hor, ho2, h]; rfl⟩, Env.Sub_of_has (by simp [Env.Has, Env.get]), ?_⟩
        rw [List.take_succ_eq_append_getElem (by simpa using hlt), hns2]
        simp only [List.getElem_map]
        exact Sub_put2 ho1'
  · have hi' : i = l.length := by omega
    subst hi'
    repeat' first |refine s1 ?_|refine gS ?_|refine wT rfl ?_|refine wF rfl ?_|refine wt rfl ?_|refine wf rfl ?_|(refine wC rfl (fun h=>?_) (fun h=>?_)<;>(try contradiction))|((first|refine rd ?_|refine ry [] c0 fun nu _ _=>?_);simp -dsimp (disch:=omega) only[go_sem])|refine e0 (by decide) ?_|(refine zA ?_ ?_;omega)|refine zA (of_eq_true PutAt_put) ?_|refine gT ?_|refine gF ?_|(refine gI (fun h=>?_) (fun h=>?_)<;>(try contradiction)<;>(try refine rd ?_)<;>(try simp -dsimp (disch:=omega) only[go_sem,h]))|refine zX _ (zX _ (zA (zA rfl rfl) ?_)) |fail
    exact ⟨by rw [hor, List.drop_eq_nil_of_le (by simp)]; rfl, Sub_put (Store.Sub.refl _) ho _⟩
end Go.Proofs.YtaealcimocpnnaaGreat

namespace Go.Proofs.YtaealcimocpnnaaGreat
open Go.Kern
structure PS where
  at_ : Nat
  e : Int
section
variable (l : List UInt8)
def skipB (i : Nat) : Nat := i + ((l.drop i).takeWhile (fun c => decide (c.toNat = 32))).length
theorem skipB_le (i : Nat) : i ≤ skipB l i := Nat.le_add_right _ _
theorem skipB_len {i : Nat} (h : i ≤ l.length) : skipB l i ≤ l.length := by
  have := (List.takeWhile_sublist (p := fun c : UInt8 => decide (c.toNat = 32)) (l := l.drop i)).length_le
  rw [List.length_drop] at this
  unfold skipB; omega
theorem skipB_step {i : Nat} (h : i < l.length) (hc : (l.getD i default).toNat = 32) : skipB l i = skipB l (i + 1) := by
  have hg : l.getD i default = l[i] := by simp [List.getD_eq_getElem?_getD, h]
  rw [hg] at hc
  unfold skipB
  rw [List.drop_eq_getElem_cons h, List.takeWhile_cons, if_pos (by simp [hc])]
  simp only [List.length_cons]; omega
theorem skipB_stop {i : Nat} (h : i < l.length) (hc : ¬ (l.getD i default).toNat = 32) : skipB l i = i := by
  have hg : l.getD i default = l[i] := by simp [List.getD_eq_getElem?_getD, h]
  rw [hg] at hc
  unfold skipB
  rw [List.drop_eq_getElem_cons h, List.takeWhile_cons, if_neg (by simp [hc])]
  rfl
theorem skipB_end {i : Nat} (h : l.length ≤ i) : skipB l i = i := by
  unfold skipB
  rw [List.drop_eq_nil_of_le h]; rfl
def chr (i : Nat) : Int := if i < l.length then ((l.getD i default).toNat : Int) else 0
def takeB (c : Int) (p : PS) : Bool × PS :=
  if p.e = 0 then (if chr l (skipB l p.at_) = c ∧ skipB l p.at_ < l.length then (true, ⟨skipB l p.at_ + 1, 0⟩) else (false, ⟨skipB l p.at_, 0⟩)) else (false, p)
def failB (e : Int) (p : PS) : PS := if p.e = 0 then ⟨p.at_, e⟩ else p
def digitZ (c : Int) : Bool := decide (48 ≤ c) && decide (c ≤ 57)
def numR : List UInt8 → Nat → Int → Nat × Int
  | [], i, n => (i, n)
  | c :: r, i, n => if digitZ c.toNat = true then numR r (i + 1) (if 1000000 < n * 10 + (c.toNat - 48) then 1000000 else n * 10 + (c.toNat - 48)) else (i, n)
def numberB (p : PS) : Int × PS :=
  if digitZ (chr l (skipB l p.at_)) = true then
    (let r := numR (l.drop (skipB l p.at_)) (skipB l p.at_) 0
     (r.2, if chr l (skipB l p.at_) = 48 ∧ skipB l p.at_ + 1 < r.1 then failB 4 ⟨r.1, p.e⟩ else if r.2 < 1 ∨ 65535 < r.2 then failB 7 ⟨r.1, p.e⟩ else ⟨r.1, p.e⟩))
  else (0, failB 4 ⟨skipB l p.at_, p.e⟩)
def partB (p : PS) : PS :=
  let a := numberB l p
  let t := takeB l 45 a.2
  if t.1 = true then
    (let b := numberB l t.2
     if b.2.e = 0 ∧ b.1 < a.1 then failB 7 b.2 else b.2)
  else t.2
def setB : Nat → PS → PS
  | 0, p => p
  | n + 1, p => if p.e = 0 then (if (takeB l 93 p).1 = true then (takeB l 93 p).2 else setB n (partB l (takeB l 93 p).2)) else p
def atomB (ch : PS → PS) (p : PS) : PS :=
  let t1 := takeB l 46 p
  if t1.1 = true then t1.2 else
  let t2 := takeB l 91 t1.2
  if t2.1 = true then setB l (l.length + 2) (partB l t2.2) else
  let t3 := takeB l 40 t2.2
  if t3.1 = true then
    (let q := ch t3.2
     if q.e = 0 then (if (takeB l 41 q).1 = true then (takeB l 41 q).2 else failB 4 (takeB l 41 q).2) else q)
  else (numberB l t3.2).2
def itemB (ch : PS → PS) (p : PS) : PS :=
  let q := atomB l ch p
  let t1 := takeB l 42 q
  if t1.1 = true then t1.2 else
  let t2 := takeB l 43 t1.2
  if t2.1 = true then t2.2 else (takeB l 63 t2.2).2
def beginsZ (c : Int) : Bool := digitZ c || decide (c = 46) || decide (c = 91) || decide (c = 40)
def rowB (ch : PS → PS) : Nat → PS → PS
  | 0, p => p
  | n + 1, p => if p.e = 0 then (if beginsZ (chr l (skipB l p.at_)) = true then rowB ch n (itemB l ch ⟨skipB l p.at_, 0⟩) else ⟨skipB l p.at_, 0⟩) else p
def altB (ch : PS → PS) : Nat → PS → PS
  | 0, p => p
  | n + 1, p => if (takeB l 124 (rowB l ch (l.length + 2) p)).1 = true then altB ch n (takeB l 124 (rowB l ch (l.length + 2) p)).2 else (takeB l 124 (rowB l ch (l.length + 2) p)).2
def choiceB : Nat → PS → PS
  | 0, p => failB 2 p
  | n + 1, p => altB l (choiceB n) (l.length + 2) p
def parseE : Int :=
  if 64 < l.length then 2 else
    let q := (takeB l 36 (choiceB l 8 (takeB l 94 ⟨0, 0⟩).2)).2
    if q.e = 0 then (if skipB l q.at_ < l.length then 4 else 0) else q.e
structure Mono (f : PS → PS) : Prop where
  le : ∀ p, p.at_ ≤ l.length → p.at_ ≤ (f p).at_
  len : ∀ p, p.at_ ≤ l.length → (f p).at_ ≤ l.length
  err : ∀ p, p.at_ ≤ l.length → p.e ≠ 0 → (f p).e ≠ 0
theorem fail_mono {e : Int} (he : e ≠ 0) : Mono l (failB e) := by
  refine ⟨fun p h => ?_, fun p h => ?_, fun p h k => ?_⟩ <;> (unfold failB; split <;> first | exact Nat.le_refl _ | assumption | skip)
theorem take_mono (c : Int) : Mono l (fun p => (takeB l c p).2) := by
  refine ⟨fun p h => ?_, fun p h => ?_, fun p h k => ?_⟩
  · have := skipB_le l p.at_
    simp only [takeB]; split
    · split
      · simp only; omega
      · exact this
    · exact Nat.le_refl _
  · have := skipB_len l h
    simp only [takeB]; split
    · split
      · rename_i q; simp only; omega
      · exact this
    · exact h
  · simp only [takeB, if_neg k]; exact k
theorem take_err {c : Int} {p : PS} (h : (takeB l c p).1 = true) : p.e = 0 ∧ (takeB l c p).2.e = 0 ∧ p.at_ < (takeB l c p).2.at_ := by
  have := skipB_le l p.at_
  unfold takeB at h ⊢
  by_cases h1 : p.e = 0
  · rw [if_pos h1] at h ⊢
    by_cases h2 : chr l (skipB l p.at_) = c ∧ skipB l p.at_ < l.length
    · rw [if_pos h2]; exact ⟨h1, rfl, by simp only; omega⟩
    · rw [if_neg h2] at h; cases h
  · rw [if_neg h1] at h; cases h
theorem numR_le : ∀ (r : List UInt8) (i : Nat) (n : Int), i ≤ (numR r i n).1 ∧ (numR r i n).1 ≤ i + r.length
  | [], i, n => ⟨Nat.le_refl _, Nat.le_refl _⟩
  | c :: r, i, n => by
    simp only [numR]
    split
    · have := numR_le r (i + 1) (if 1000000 < n * 10 + (c.toNat - 48) then 1000000 else n * 10 + (c.toNat - 48))
      simp only [List.length_cons]; omega
    · simp only [List.length_cons]; omega
theorem numR_gt {r : List UInt8} {i : Nat} {n : Int} {c : UInt8} (h : digitZ c.toNat = true) : i + 1 ≤ (numR (c :: r) i n).1 := by
  rw [numR, if_pos h]
  exact (numR_le r (i + 1) _).1
theorem chr_digit {i : Nat} (h : digitZ (chr l i) = true) : i < l.length ∧ chr l i = ((l.getD i default).toNat : Int) := by
  unfold chr at h ⊢
  by_cases hi : i < l.length
  · exact ⟨hi, if_pos hi⟩
  · rw [if_neg hi] at h; simp [digitZ] at h
theorem fail_at (e : Int) (p : PS) : (failB e p).at_ = p.at_ := by unfold failB; split <;> rfl
theorem fail_e {e : Int} (he : e ≠ 0) (p : PS) : (failB e p).e ≠ 0 := by
  unfold failB; split
  · exact he
  · assumption
theorem number_at (p : PS) (h : digitZ (chr l (skipB l p.at_)) = true) : (numberB l p).2.at_ = (numR (l.drop (skipB l p.at_)) (skipB l p.at_) 0).1 := by
  unfold numberB
  rw [if_pos h]
  simp only
  split
  · exact fail_at _ _
  · split
    · exact fail_at _ _
    · rfl
theorem number_mono : Mono l (fun p => (numberB l p).2) := by
  refine ⟨fun p h => ?_, fun p h => ?_, fun p h k => ?_⟩
  · have h1 := skipB_le l p.at_
    by_cases hd : digitZ (chr l (skipB l p.at_)) = true
    · have h2 := numR_le (l.drop (skipB l p.at_)) (skipB l p.at_) 0
      simp only [number_at l p hd]; omega
    · simp only [numberB, if_neg hd, fail_at]; exact h1
  · have h1 := skipB_len l h
    by_cases hd : digitZ (chr l (skipB l p.at_)) = true
    · have h2 := numR_le (l.drop (skipB l p.at_)) (skipB l p.at_) 0
      rw [List.length_drop] at h2
      simp only [number_at l p hd]; omega
    · simp only [numberB, if_neg hd, fail_at]; exact h1
  · by_cases hd : digitZ (chr l (skipB l p.at_)) = true
    · simp only [numberB, if_pos hd]
      split
      · exact fail_e (by decide) _
      · split
        · exact fail_e (by decide) _
        · exact k
    · simp only [numberB, if_neg hd]; exact fail_e (by decide) _
theorem number_go (p : PS) (h : (numberB l p).2.e = 0) : p.at_ < (numberB l p).2.at_ := by
  have h1 := skipB_le l p.at_
  by_cases hd : digitZ (chr l (skipB l p.at_)) = true
  · obtain ⟨hlt, hc⟩ := chr_digit l hd
    rw [number_at l p hd, List.drop_eq_getElem_cons hlt]
    have hg : l.getD (skipB l p.at_) default = l[skipB l p.at_] := by simp [List.getD_eq_getElem?_getD, hlt]
    rw [hc, hg] at hd
    have := numR_gt (r := l.drop (skipB l p.at_ + 1)) (i := skipB l p.at_) (n := 0) hd
    omega
  · simp only [numberB, if_neg hd] at h
    exact absurd h (fail_e (by decide) _)
theorem Mono.comp {f g : PS → PS} (hf : Mono l f) (hg : Mono l g) : Mono l (fun p => g (f p)) :=
  ⟨fun p h => Nat.le_trans (hf.le p h) (hg.le _ (hf.len p h)), fun p h => hg.len _ (hf.len p h), fun p h k => hg.err _ (hf.len p h) (hf.err p h k)⟩
theorem Mono.ite {f g : PS → PS} (c : PS → Prop) [∀ p, Decidable (c p)] (hf : Mono l f) (hg : Mono l g) : Mono l (fun p => if c p then f p else g p) := by
  refine ⟨fun p h => ?_, fun p h => ?_, fun p h k => ?_⟩ <;> (try simp only) <;> split
  · exact hf.le p h
  · exact hg.le p h
  · exact hf.len p h
  · exact hg.len p h
  · exact hf.err p h k
  · exact hg.err p h k
theorem Mono.id : Mono l (fun p => p) := ⟨fun _ _ => Nat.le_refl _, fun _ h => h, fun _ _ k => k⟩
theorem part_mono : Mono l (partB l) := by
  have h1 := (number_mono l).comp l (take_mono l 45)
  have h2 := h1.comp l (number_mono l)
  have h3 := h2.comp l (fail_mono l (e := 7) (by decide))
  exact Mono.ite l (fun p => (takeB l 45 (numberB l p).2).1 = true) (Mono.ite l (fun p => (numberB l (takeB l 45 (numberB l p).2).2).2.e = 0 ∧ (numberB l (takeB l 45 (numberB l p).2).2).1 < (numberB l p).1) h3 h2) h1
theorem part_go (p : PS) (hp : p.at_ ≤ l.length) (h : (partB l p).e = 0) : p.at_ < (partB l p).at_ := by
  have hm := number_mono l
  have h1 := hm.len p hp
  have ht := take_mono l 45
  have key : (numberB l p).2.e = 0 → p.at_ < (partB l p).at_ := fun h0 => by
    have g1 := number_go l p h0
    have g2 := ht.le _ h1
    have g3 := ht.len _ h1
    have g4 := hm.le _ g3
    simp only [partB]
    split
    · split
      · rw [fail_at]; omega
      · (try simp only at g2 g4); omega
    · (try simp only at g2); omega
  refine key ?_
  cases Int.decEq (numberB l p).2.e 0 with
  | isTrue h0 => exact h0
  | isFalse h0 =>
    have := ((ht.comp l hm).comp l (fail_mono l (e := 7) (by decide)))
    have t0 : (takeB l 45 (numberB l p).2).1 = false := by unfold takeB; rw [if_neg h0]
    simp only [partB, t0, Bool.false_eq_true, if_false] at h
    exact absurd h (ht.err _ h1 h0)
theorem set_mono : ∀ n, Mono l (setB l n)
  | 0 => Mono.id l
  | n + 1 => Mono.ite l (fun p => p.e = 0) (Mono.ite l (fun p => (takeB l 93 p).1 = true) (take_mono l 93) (((take_mono l 93).comp l (part_mono l)).comp l (set_mono n))) (Mono.id l)
variable {ch : PS → PS} (hch : Mono l ch)
include hch
theorem atom_mono : Mono l (atomB l ch) := by
  have t1 := take_mono l 46
  have t2 := t1.comp l (take_mono l 91)
  have t3 := t2.comp l (take_mono l 40)
  have q := t3.comp l hch
  have q1 := q.comp l (take_mono l 41)
  have q2 := q1.comp l (fail_mono l (e := 4) (by decide))
  exact Mono.ite l (fun p => (takeB l 46 p).1 = true) t1 (Mono.ite l (fun p => (takeB l 91 (takeB l 46 p).2).1 = true) ((t2.comp l (part_mono l)).comp l (set_mono l (l.length + 2)))
    (Mono.ite l (fun p => (takeB l 40 (takeB l 91 (takeB l 46 p).2).2).1 = true) (Mono.ite l (fun p => (ch (takeB l 40 (takeB l 91 (takeB l 46 p).2).2).2).e = 0) (Mono.ite l (fun p => (takeB l 41 (ch (takeB l 40 (takeB l 91 (takeB l 46 p).2).2).2)).1 = true) q1 q2) q) (t3.comp l (number_mono l))))
theorem item_mono : Mono l (itemB l ch) := by
  have a := atom_mono l hch
  have t1 := a.comp l (take_mono l 42)
  have t2 := t1.comp l (take_mono l 43)
  have t3 := t2.comp l (take_mono l 63)
  exact Mono.ite l (fun p => (takeB l 42 (atomB l ch p)).1 = true) t1 (Mono.ite l (fun p => (takeB l 43 (takeB l 42 (atomB l ch p)).2).1 = true) t2 t3)
theorem atom_go (p : PS) (hp : p.at_ ≤ l.length) (h : (atomB l ch p).e = 0) (h0 : p.e = 0) : p.at_ < (atomB l ch p).at_ := by
  have m1 := take_mono l 46
  have m2 := m1.comp l (take_mono l 91)
  have m3 := m2.comp l (take_mono l 40)
  have a1 := m1.le p hp
  have a2 := m2.le p hp
  have a3 := m3.le p hp
  have b1 := m1.len p hp
  have b2 := m2.len p hp
  have b3 := m3.len p hp
  try simp only at a1 a2 a3 b1 b2 b3
  simp only [atomB] at h ⊢
  split at h
  · rename_i t
    rw [if_pos t]; exact (take_err l t).2.2
  · rename_i n1
    rw [if_neg n1]
    split at h
    · rename_i t
      rw [if_pos t]
      have g1 := (take_err l t).2.2
      have g2 := ((part_mono l).comp l (set_mono l (l.length + 2))).le _ b2
      (try simp only at g2); omega
    · rename_i n2
      rw [if_neg n2]
      split at h
      · rename_i t
        rw [if_pos t]
        have g1 := (take_err l t).2.2
        have g2 := hch.le _ b3
        have g3 := hch.len _ b3
        have g4 := (take_mono l 41).le _ g3
        split
        · split
          · (try simp only at g4); omega
          · rw [fail_at]; omega
        · omega
      · rename_i n3
        rw [if_neg n3]
        have g1 := number_go l _ h
        omega
theorem item_go (p : PS) (hp : p.at_ ≤ l.length) (h : (itemB l ch p).e = 0) (h0 : p.e = 0) : p.at_ < (itemB l ch p).at_ := by
  have m := atom_mono l hch
  have b := m.len p hp
  have r1 := take_mono l 42
  have r2 := r1.comp l (take_mono l 43)
  have r3 := r2.comp l (take_mono l 63)
  have key : (atomB l ch p).e = 0 → p.at_ < (itemB l ch p).at_ := fun h1 => by
    have g := atom_go l hch p hp h1 h0
    have g1 := r1.le _ b
    have g2 := r2.le _ b
    have g3 := r3.le _ b
    try simp only at g1 g2 g3
    simp only [itemB]
    split
    · omega
    · split <;> omega
  refine key ?_
  cases Int.decEq (atomB l ch p).e 0 with
  | isTrue h1 => exact h1
  | isFalse h1 =>
    exfalso
    have e1 := r1.err _ b h1
    have e2 := r2.err _ b h1
    have e3 := r3.err _ b h1
    try simp only at e1 e2 e3
    simp only [itemB] at h
    split at h
    · exact e1 h
    · split at h
      · exact e2 h
      · exact e3 h
theorem row_mono : ∀ n, Mono l (rowB l ch n)
  | 0 => Mono.id l
  | n + 1 => by
    have ih := row_mono n
    have im := item_mono l hch
    refine ⟨fun p h => ?_, fun p h => ?_, fun p h k => ?_⟩
    · have s1 := skipB_le l p.at_
      have s2 := skipB_len l h
      simp only [rowB]; split
      · split
        · have g1 := im.le ⟨skipB l p.at_, 0⟩ s2
          have g2 := ih.le _ (im.len ⟨skipB l p.at_, 0⟩ s2)
          (try simp only at g1); omega
        · exact s1
      · exact Nat.le_refl _
    · have s2 := skipB_len l h
      simp only [rowB]; split
      · split
        · exact ih.len _ (im.len ⟨skipB l p.at_, 0⟩ s2)
        · exact s2
      · exact h
    · simp only [rowB, if_neg k]; exact k
theorem alt_mono : ∀ n, Mono l (altB l ch n)
  | 0 => Mono.id l
  | n + 1 => by
    have r := (row_mono l hch (l.length + 2)).comp l (take_mono l 124)
    exact Mono.ite l (fun p => (takeB l 124 (rowB l ch (l.length + 2) p)).1 = true) (r.comp l (alt_mono n)) r
omit hch in
theorem choice_mono : ∀ n, Mono l (choiceB l n)
  | 0 => fail_mono l (by decide)
  | n + 1 => alt_mono l (choice_mono n) _
end
end Go.Proofs.YtaealcimocpnnaaGreat

namespace Go.Proofs.YtaealcimocpnnaaGreat
open Go.Kern
set_option maxRecDepth 100000
set_option maxHeartbeats 4000000
attribute [local irreducible] PCall W
def pO (s : ByteArray) (p : PS) : Ob := .arr 213 [.agg [.str s, .int .i64 p.at_, .int .i64 p.e]]
attribute [local go_sem] pO splice
theorem fail_spec (s : ByteArray) (p : PS) (e : Int) (o : Nat) (σ : Store) :
    PCall Tryz.prog 166 [.ptr o 0 0, .int .i64 e] (σ.put o (pO s p)) (fun r t => r = .tup [] ∧ t = σ.put o (pO s (failB e p))) := by
  refine PCall_w [] 13 Tryz.func166 (by rfl) rfl rfl rfl rfl ?_
  by_cases h : p.e = 0
  · simp only [failB, if_pos h]
    repeat' first |refine s1 ?_|refine gS ?_|refine wT rfl ?_|refine wF rfl ?_|refine wt rfl ?_|refine wf rfl ?_|(refine wC rfl (fun h=>?_) (fun h=>?_)<;>(try contradiction))|((first|refine rd ?_|refine ry [] c0 fun nu _ _=>?_);simp -dsimp (disch:=omega) only[go_sem,h])|refine e0 (by decide) ?_|(refine zA ?_ ?_;omega)|refine zA (of_eq_true PutAt_put) ?_|refine gT ?_|refine gF ?_|(refine gI (fun h=>?_) (fun h=>?_)<;>(try contradiction)<;>(try refine rd ?_)<;>(try simp -dsimp (disch:=omega) only[go_sem,h,h]))|refine zX _ (zX _ (zA (zA rfl rfl) ?_)) |fail
  · simp only [failB, if_neg h]
    repeat' first |refine s1 ?_|refine gS ?_|refine wT rfl ?_|refine wF rfl ?_|refine wt rfl ?_|refine wf rfl ?_|(refine wC rfl (fun h=>?_) (fun h=>?_)<;>(try contradiction))|((first|refine rd ?_|refine ry [] c0 fun nu _ _=>?_);simp -dsimp (disch:=omega) only[go_sem,h])|refine e0 (by decide) ?_|(refine zA ?_ ?_;omega)|refine zA (of_eq_true PutAt_put) ?_|refine gT ?_|refine gF ?_|(refine gI (fun h=>?_) (fun h=>?_)<;>(try contradiction)<;>(try refine rd ?_)<;>(try simp -dsimp (disch:=omega) only[go_sem,h,h]))|refine zX _ (zX _ (zA (zA rfl rfl) ?_)) |fail
section
variable (s : ByteArray) (hs : s.size ≤ 1000)
include hs
theorem peek_spec (p : PS) (hp : p.at_ ≤ (B s).length) (o : Nat) (σ : Store) :
    PCall Tryz.prog 165 [.ptr o 0 0] (σ.put o (pO s p)) (fun r t => r = .int .u8 (chr (B s) (skipB (B s) p.at_)) ∧ t = σ.put o (pO s ⟨skipB (B s) p.at_, p.e⟩)) := by
  have hl := length_B s
  refine PCall_w [.tmp 2] 51 Tryz.func165 (by rfl) rfl rfl rfl rfl ?_
  repeat' first |refine s1 ?_|refine gS ?_|refine wT rfl ?_|refine wF rfl ?_|refine wt rfl ?_|refine wf rfl ?_|(refine wC rfl (fun h=>?_) (fun h=>?_)<;>(try contradiction))|((first|refine rd ?_|refine ry [] c0 fun nu _ _=>?_);simp -dsimp (disch:=omega) only[go_sem])|refine e0 (by decide) ?_|(refine zA ?_ ?_;omega)|refine zA (of_eq_true PutAt_put) ?_|refine gT ?_|refine gF ?_|(refine gI (fun h=>?_) (fun h=>?_)<;>(try contradiction)<;>(try refine rd ?_)<;>(try simp -dsimp (disch:=omega) only[go_sem,h]))|refine zX _ (zX _ (zA (zA rfl rfl) ?_)) |fail
  refine W_loop_st (fun i : Nat => [(0, .ptr o 0 0)]) (fun i => σ.put o (pO s ⟨i, p.e⟩)) (fun i => i ≤ (B s).length ∧ skipB (B s) p.at_ = skipB (B s) i) (fun i => (B s).length - i) p.at_ ⟨hp, rfl⟩ (Env.Sub_of_has (by simp [Env.Has, Env.get])) (Store.Sub.refl _) ?_
  rintro i ⟨hi, hor⟩
  by_cases hlt : i < (B s).length
  · by_cases hc : (((B s).getD i default).toNat : Int) = 32
    · have hst := skipB_step (B s) hlt (by omega)
      repeat' first |refine s1 ?_|refine gS ?_|refine wT rfl ?_|refine wF rfl ?_|refine wt rfl ?_|refine wf rfl ?_|(refine wC rfl (fun h=>?_) (fun h=>?_)<;>(try contradiction))|((first|refine rd ?_|refine ry (id:=1) [] (cq [3,7,14,18]) fun nu _ _=>?_|refine ry (id:=3) [] (cq [3,7]) fun nu _ _=>?_|refine ry (id:=5) [] (cq [3,7]) fun nu _ _=>?_|refine ry [] c0 fun nu _ _=>?_);simp -dsimp (disch:=omega) only[go_sem,hc])|refine e0 (by decide) ?_|(refine zA ?_ ?_;omega)|refine zA (of_eq_true PutAt_put) ?_|refine gT ?_|refine gF ?_|(refine gI (fun h=>?_) (fun h=>?_)<;>(try contradiction)<;>(try refine rd ?_)<;>(try simp -dsimp (disch:=omega) only[go_sem,h,hc]))|refine zX _ (zX _ (zA (zA rfl rfl) ?_)) |fail
      exact ⟨i + 1, by omega, ⟨by omega, by rw [hor, hst]⟩, Env.Sub_of_has (by simp [Env.Has, Env.get]), by simp [pO]; exact Store.Sub.refl _⟩
    · have hst := skipB_stop (B s) hlt (by omega)
      rw [hor, hst]
      repeat' first |refine s1 ?_|refine gS ?_|refine wT rfl ?_|refine wF rfl ?_|refine wt rfl ?_|refine wf rfl ?_|(refine wC rfl (fun h=>?_) (fun h=>?_)<;>(try contradiction))|((first|refine rd ?_|refine ry (id:=1) [] (cq [3,7,14,18]) fun nu _ _=>?_|refine ry (id:=3) [] (cq [3,7]) fun nu _ _=>?_|refine ry (id:=5) [] (cq [3,7]) fun nu _ _=>?_|refine ry [] c0 fun nu _ _=>?_);simp -dsimp (disch:=omega) only[go_sem,hc, chr, hlt])|refine e0 (by decide) ?_|(refine zA ?_ ?_;omega)|refine zA (of_eq_true PutAt_put) ?_|refine gT ?_|refine gF ?_|(refine gI (fun h=>?_) (fun h=>?_)<;>(try contradiction)<;>(try refine rd ?_)<;>(try simp -dsimp (disch:=omega) only[go_sem,h,hc, chr, hlt]))|refine zX _ (zX _ (zA (zA rfl rfl) ?_)) |fail
  · have hie : i = (B s).length := by omega
    have hst := skipB_end (B s) (i := i) (by omega)
    rw [hor, hst]
    repeat' first |refine s1 ?_|refine gS ?_|refine wT rfl ?_|refine wF rfl ?_|refine wt rfl ?_|refine wf rfl ?_|(refine wC rfl (fun h=>?_) (fun h=>?_)<;>(try contradiction))|((first|refine rd ?_|refine ry (id:=1) [] (cq [3,7,14,18]) fun nu _ _=>?_|refine ry (id:=3) [] (cq [3,7]) fun nu _ _=>?_|refine ry (id:=5) [] (cq [3,7]) fun nu _ _=>?_|refine ry [] c0 fun nu _ _=>?_);simp -dsimp (disch:=omega) only[go_sem,chr, hlt])|refine e0 (by decide) ?_|(refine zA ?_ ?_;omega)|refine zA (of_eq_true PutAt_put) ?_|refine gT ?_|refine gF ?_|(refine gI (fun h=>?_) (fun h=>?_)<;>(try contradiction)<;>(try refine rd ?_)<;>(try simp -dsimp (disch:=omega) only[go_sem,h,chr, hlt]))|refine zX _ (zX _ (zA (zA rfl rfl) ?_)) |fail
theorem take_spec (p : PS) (hp : p.at_ ≤ (B s).length) (c : Int) (o : Nat) (σ : Store) :
    PCall Tryz.prog 163 [.ptr o 0 0, .int .u8 c] (σ.put o (pO s p)) (fun r t => r = .bool (takeB (B s) c p).1 ∧ t = σ.put o (pO s (takeB (B s) c p).2)) := by
  have hl := length_B s
  obtain ⟨i, e⟩ := p
  simp only at hp
  have h2 := skipB_len (B s) hp
  have hpk := peek_spec s hs ⟨i, e⟩ hp o σ
  refine PCall_w [.tmp 4] 35 Tryz.func163 (by rfl) rfl rfl rfl rfl ?_
  by_cases h : e = 0
  · subst h
    obtain ⟨a, ha⟩ : ∃ a, skipB (B s) i = a := ⟨_, rfl⟩
    simp only [takeB, if_true]
    simp only at hpk
    rw [ha] at hpk h2 ⊢
    by_cases hc : chr (B s) a = c
    · by_cases hlt : a < (B s).length
      · rw [if_pos ⟨hc, hlt⟩]
        repeat' first |refine s1 ?_|refine gS ?_|refine wT rfl ?_|refine wF rfl ?_|refine wt rfl ?_|refine wf rfl ?_|(refine wC rfl (fun h=>?_) (fun h=>?_)<;>(try contradiction))|((first|refine rd ?_|refine ry (id:=1) [] (cw [3,15,19] [7] [] [] []) fun nu _ _=>?_|refine ry [] c0 fun nu _ _=>?_);simp -dsimp (disch:=omega) only[go_sem,hc])|refine e0 (by decide) ?_|(refine zA ?_ ?_;omega)|refine zA (of_eq_true PutAt_put) ?_|refine gT ?_|refine gF ?_|(refine gI (fun h=>?_) (fun h=>?_)<;>(try contradiction)<;>(try refine rd ?_)<;>(try simp -dsimp (disch:=omega) only[go_sem,h,hc]))|refine zX _ (zX _ (zA (zA rfl rfl) ?_)) |refine uw (hpk) ?_ |fail
        exact sub_eq (by simp)
      · rw [if_neg (fun k => hlt k.2)]
        repeat' first |refine s1 ?_|refine gS ?_|refine wT rfl ?_|refine wF rfl ?_|refine wt rfl ?_|refine wf rfl ?_|(refine wC rfl (fun h=>?_) (fun h=>?_)<;>(try contradiction))|((first|refine rd ?_|refine ry (id:=1) [] (cw [3,15,19] [7] [] [] []) fun nu _ _=>?_|refine ry [] c0 fun nu _ _=>?_);simp -dsimp (disch:=omega) only[go_sem,hc])|refine e0 (by decide) ?_|(refine zA ?_ ?_;omega)|refine zA (of_eq_true PutAt_put) ?_|refine gT ?_|refine gF ?_|(refine gI (fun h=>?_) (fun h=>?_)<;>(try contradiction)<;>(try refine rd ?_)<;>(try simp -dsimp (disch:=omega) only[go_sem,h,hc]))|refine zX _ (zX _ (zA (zA rfl rfl) ?_)) |refine uw (hpk) ?_ |fail
    · rw [if_neg (fun k => hc k.1)]
      repeat' first |refine s1 ?_|refine gS ?_|refine wT rfl ?_|refine wF rfl ?_|refine wt rfl ?_|refine wf rfl ?_|(refine wC rfl (fun h=>?_) (fun h=>?_)<;>(try contradiction))|((first|refine rd ?_|refine ry (id:=1) [] (cw [3,15,19] [7] [] [] []) fun nu _ _=>?_|refine ry [] c0 fun nu _ _=>?_);simp -dsimp (disch:=omega) only[go_sem,hc])|refine e0 (by decide) ?_|(refine zA ?_ ?_;omega)|refine zA (of_eq_true PutAt_put) ?_|refine gT ?_|refine gF ?_|(refine gI (fun h=>?_) (fun h=>?_)<;>(try contradiction)<;>(try refine rd ?_)<;>(try simp -dsimp (disch:=omega) only[go_sem,h,hc]))|refine zX _ (zX _ (zA (zA rfl rfl) ?_)) |refine uw (hpk) ?_ |fail
  · simp only [takeB, if_neg h]
    repeat' first |refine s1 ?_|refine gS ?_|refine wT rfl ?_|refine wF rfl ?_|refine wt rfl ?_|refine wf rfl ?_|(refine wC rfl (fun h=>?_) (fun h=>?_)<;>(try contradiction))|((first|refine rd ?_|refine ry (id:=1) [] (cw [3,15,19] [7] [] [] []) fun nu _ _=>?_|refine ry [] c0 fun nu _ _=>?_);simp -dsimp (disch:=omega) only[go_sem,h])|refine e0 (by decide) ?_|(refine zA ?_ ?_;omega)|refine zA (of_eq_true PutAt_put) ?_|refine gT ?_|refine gF ?_|(refine gI (fun h=>?_) (fun h=>?_)<;>(try contradiction)<;>(try refine rd ?_)<;>(try simp -dsimp (disch:=omega) only[go_sem,h,h]))|refine zX _ (zX _ (zA (zA rfl rfl) ?_)) |fail
end
theorem digit_spec (c : Int) : Pure Tryz.prog 205 [.int .u8 c] (.bool (digitZ c)) := by
  intro σ
  refine PCall_q [.tmp 2] 9 Tryz.func205 (by rfl) rfl rfl rfl rfl ?_
  repeat' first |refine s1 ?_|refine gS ?_|refine wT rfl ?_|refine wF rfl ?_|refine wt rfl ?_|refine wf rfl ?_|(refine wC rfl (fun h=>?_) (fun h=>?_)<;>(try contradiction))|((first|refine rd ?_|refine ry [] c0 fun nu _ _=>?_);simp -dsimp (disch:=omega) only[go_sem])|refine e0 (by decide) ?_|(refine zA ?_ ?_;omega)|refine zA (of_eq_true PutAt_put) ?_|refine gT ?_|refine gF ?_|(refine gI (fun h=>?_) (fun h=>?_)<;>(try contradiction)<;>(try refine rd ?_)<;>(try simp -dsimp (disch:=omega) only[go_sem,h]))|refine zX _ (zX _ (zA (zA rfl rfl) ?_)) |fail
  all_goals (simp only [digitZ]; congr 1; rw [Bool.eq_iff_iff]; simp; omega)
theorem wr8 {x : Int} (h1 : 0 ≤ x) (h2 : x ≤ 255) : IntKind.u8.wrap x = x := IntWalk.u8_in _ ⟨h1, h2⟩
attribute [go_sem] wr8
theorem put_self {σ : Store} {o : Nat} {x : Ob} (h : σ o = some x) : σ.put o x = σ := by
  funext p
  simp only [Store.put]
  split
  · rename_i e; rw [e, h]
  · rfl
section
variable (s : ByteArray) (hs : s.size ≤ 1000)
include hs
theorem number_spec (p : PS) (hp : p.at_ ≤ (B s).length) (o : Nat) (σ : Store) :
    PCall Tryz.prog 214 [.ptr o 0 0] (σ.put o (pO s p)) (fun r t => r = .int .i64 (numberB (B s) p).1 ∧ t = σ.put o (pO s (numberB (B s) p).2)) := by
  have hl := length_B s
  obtain ⟨i0, e⟩ := p
  simp only at hp
  have h2 := skipB_len (B s) hp
  have hpk := peek_spec s hs ⟨i0, e⟩ hp o σ
  obtain ⟨a, ha⟩ : ∃ a, skipB (B s) i0 = a := ⟨_, rfl⟩
  simp only at hpk
  rw [ha] at hpk h2
  have hdg := digit_spec (chr (B s) a)
  have hfl : ∀ (e' : Int) (q : PS), PCall Tryz.prog 166 [.ptr o 0 0, .int .i64 e'] (σ.put o (pO s q)) (fun r t => r = .tup [] ∧ t = σ.put o (pO s (failB e' q))) := fun e' q => fail_spec s q e' o σ
  simp only [numberB, ha]
  refine PCall_w [.tmp 2] 88 Tryz.func214 (by rfl) rfl rfl rfl rfl ?_
  rcases Bool.eq_false_or_eq_true (digitZ (chr (B s) a)) with hd | hd
  · rw [if_pos hd]
    obtain ⟨halt, hac⟩ := chr_digit (B s) hd
    obtain ⟨b, n, hbn⟩ : ∃ b n, numR ((B s).drop a) a 0 = (b, n) := ⟨_, _, rfl⟩
    simp only [hbn]
    repeat' first |refine s1 ?_|refine gS ?_|refine wT rfl ?_|refine wF rfl ?_|refine wt rfl ?_|refine wf rfl ?_|(refine wC rfl (fun h=>?_) (fun h=>?_)<;>(try contradiction))|((first|refine rd ?_|refine ry [] c0 fun nu _ _=>?_);simp -dsimp (disch:=omega) only[go_sem,hd])|refine e0 (by decide) ?_|(refine zA ?_ ?_;omega)|refine zA (of_eq_true PutAt_put) ?_|refine gT ?_|refine gF ?_|(refine gI (fun h=>?_) (fun h=>?_)<;>(try contradiction)<;>(try refine rd ?_)<;>(try simp -dsimp (disch:=omega) only[go_sem,h,hd]))|refine zX _ (zX _ (zA (zA rfl rfl) ?_)) |refine uw (hpk) ?_ |refine us (hdg) ?_ |fail
    refine W_loop_st (fun x : Nat × Int => [(0, .ptr o 0 0), (3, .int .i64 a), (4, .int .i64 x.2)]) (fun x => σ.put o (pO s ⟨x.1, e⟩)) (fun x => a ≤ x.1 ∧ x.1 ≤ (B s).length ∧ 0 ≤ x.2 ∧ x.2 ≤ 1000000 ∧ numR ((B s).drop x.1) x.1 x.2 = (b, n)) (fun x => (B s).length - x.1) (a, 0) ⟨Nat.le_refl _, h2, by simp, by simp, hbn⟩ (Env.Sub_of_has (by simp [Env.Has, Env.get, Env.putO])) (Store.Sub.refl _) ?_
    rintro ⟨i, m⟩ ⟨hai, hil, hm0, hm1, hr⟩
    simp only at hai hil hm0 hm1 hr
    by_cases hlt : i < (B s).length
    · have hg : (B s).getD i default = (B s)[i] := by simp [List.getD_eq_getElem?_getD, hlt]
      rw [List.drop_eq_getElem_cons hlt] at hr
      obtain ⟨c, hc⟩ : ∃ c, (B s)[i] = c := ⟨_, rfl⟩
      rw [hc] at hg hr
      have hc255 := c.toNat_lt
      rcases Bool.eq_false_or_eq_true (digitZ c.toNat) with hd2 | hd2
      · have hcb : 48 ≤ (c.toNat : Int) ∧ (c.toNat : Int) ≤ 57 := by simpa [digitZ] using hd2
        rw [numR, if_pos hd2] at hr
        by_cases hbig : 1000000 < m * 10 + ((c.toNat : Int) - 48)
        · rw [if_pos hbig] at hr
          repeat' first |refine s1 ?_|refine gS ?_|refine wT rfl ?_|refine wF rfl ?_|refine wt rfl ?_|refine wf rfl ?_|(refine wC rfl (fun h=>?_) (fun h=>?_)<;>(try contradiction))|((first|refine rd ?_|refine ry (id:=5) [] (cq [3,7,14,18]) fun nu _ _=>?_|refine ry (id:=6) [] (cq [5,9]) fun nu _ _=>?_|refine ry [] c0 fun nu _ _=>?_);simp -dsimp (disch:=omega) only[go_sem,hg, hd2, hbig])|refine e0 (by decide) ?_|(refine zA ?_ ?_;omega)|refine zA (of_eq_true PutAt_put) ?_|refine gT ?_|refine gF ?_|(refine gI (fun h=>?_) (fun h=>?_)<;>(try contradiction)<;>(try refine rd ?_)<;>(try simp -dsimp (disch:=omega) only[go_sem,h,hg, hd2, hbig]))|refine zX _ (zX _ (zA (zA rfl rfl) ?_)) |refine us (digit_spec _) ?_ |fail
          exact ⟨(i + 1, 1000000), by simp only; omega, ⟨by simp only; omega, by simp only; omega, by simp, by simp, hr⟩, Env.Sub_of_has (by simp [Env.Has, Env.get]), by simp [pO]; exact Store.Sub.refl _⟩
        · rw [if_neg hbig] at hr
          repeat' first |refine s1 ?_|refine gS ?_|refine wT rfl ?_|refine wF rfl ?_|refine wt rfl ?_|refine wf rfl ?_|(refine wC rfl (fun h=>?_) (fun h=>?_)<;>(try contradiction))|((first|refine rd ?_|refine ry (id:=5) [] (cq [3,7,14,18]) fun nu _ _=>?_|refine ry (id:=6) [] (cq [5,9]) fun nu _ _=>?_|refine ry [] c0 fun nu _ _=>?_);simp -dsimp (disch:=omega) only[go_sem,hg, hd2, hbig])|refine e0 (by decide) ?_|(refine zA ?_ ?_;omega)|refine zA (of_eq_true PutAt_put) ?_|refine gT ?_|refine gF ?_|(refine gI (fun h=>?_) (fun h=>?_)<;>(try contradiction)<;>(try refine rd ?_)<;>(try simp -dsimp (disch:=omega) only[go_sem,h,hg, hd2, hbig]))|refine zX _ (zX _ (zA (zA rfl rfl) ?_)) |refine us (digit_spec _) ?_ |fail
          exact ⟨(i + 1, m * 10 + ((c.toNat : Int) - 48)), by simp only; omega, ⟨by simp only; omega, by simp only; omega, by simp only; omega, by simp only; omega, hr⟩, Env.Sub_of_has (by simp [Env.Has, Env.get]), by simp [pO]; exact Store.Sub.refl _⟩
      · rw [numR, if_neg (by rw [hd2]; simp)] at hr
        injection hr with q1 q2
        subst q1; subst q2
        rw [hac]
        by_cases hz : ((((B s).getD a default).toNat : Int) = 48) ∧ a + 1 < i
        · rw [if_pos hz]
          have hz1 := hz.1; have hz2 := hz.2
          repeat' first |refine s1 ?_|refine gS ?_|refine wT rfl ?_|refine wF rfl ?_|refine wt rfl ?_|refine wf rfl ?_|(refine wC rfl (fun h=>?_) (fun h=>?_)<;>(try contradiction))|((first|refine rd ?_|refine ry (id:=5) [] (cq [3,7,14,18]) fun nu _ _=>?_|refine ry (id:=6) [] (cq [5,9]) fun nu _ _=>?_|refine ry [] c0 fun nu _ _=>?_);simp -dsimp (disch:=omega) only[go_sem,hac, hg, hd2, hz1, hz2])|refine e0 (by decide) ?_|(refine zA ?_ ?_;omega)|refine zA (of_eq_true PutAt_put) ?_|refine gT ?_|refine gF ?_|(refine gI (fun h=>?_) (fun h=>?_)<;>(try contradiction)<;>(try refine rd ?_)<;>(try simp -dsimp (disch:=omega) only[go_sem,h,hac, hg, hd2, hz1, hz2]))|refine zX _ (zX _ (zA (zA rfl rfl) ?_)) |refine us (digit_spec _) ?_ |refine uw (hfl 4 ⟨i, e⟩) ?_ |fail
        · rw [if_neg hz]
          by_cases hn : m < 1 ∨ 65535 < m
          · rw [if_pos hn]
            by_cases hz1 : ((((B s).getD a default).toNat : Int) = 48) <;> by_cases hn1 : m < 1
            · (try have hz2 : ¬ (a + 1 < i) := fun k => hz ⟨hz1, k⟩)
              repeat' first |refine s1 ?_|refine gS ?_|refine wT rfl ?_|refine wF rfl ?_|refine wt rfl ?_|refine wf rfl ?_|(refine wC rfl (fun h=>?_) (fun h=>?_)<;>(try contradiction))|((first|refine rd ?_|refine ry (id:=5) [] (cq [3,7,14,18]) fun nu _ _=>?_|refine ry (id:=6) [] (cq [5,9]) fun nu _ _=>?_|refine ry [] c0 fun nu _ _=>?_);simp -dsimp (disch:=omega) only[go_sem,hac, hg, hd2, hz1, hn1])|refine e0 (by decide) ?_|(refine zA ?_ ?_;omega)|refine zA (of_eq_true PutAt_put) ?_|refine gT ?_|refine gF ?_|(refine gI (fun h=>?_) (fun h=>?_)<;>(try contradiction)<;>(try refine rd ?_)<;>(try simp -dsimp (disch:=omega) only[go_sem,h,hac, hg, hd2, hz1, hn1]))|refine zX _ (zX _ (zA (zA rfl rfl) ?_)) |refine us (digit_spec _) ?_ |refine uw (hfl 7 ⟨i, e⟩) ?_ |fail
            · (try have hz2 : ¬ (a + 1 < i) := fun k => hz ⟨hz1, k⟩)
              repeat' first |refine s1 ?_|refine gS ?_|refine wT rfl ?_|refine wF rfl ?_|refine wt rfl ?_|refine wf rfl ?_|(refine wC rfl (fun h=>?_) (fun h=>?_)<;>(try contradiction))|((first|refine rd ?_|refine ry (id:=5) [] (cq [3,7,14,18]) fun nu _ _=>?_|refine ry (id:=6) [] (cq [5,9]) fun nu _ _=>?_|refine ry [] c0 fun nu _ _=>?_);simp -dsimp (disch:=omega) only[go_sem,hac, hg, hd2, hz1, hn1])|refine e0 (by decide) ?_|(refine zA ?_ ?_;omega)|refine zA (of_eq_true PutAt_put) ?_|refine gT ?_|refine gF ?_|(refine gI (fun h=>?_) (fun h=>?_)<;>(try contradiction)<;>(try refine rd ?_)<;>(try simp -dsimp (disch:=omega) only[go_sem,h,hac, hg, hd2, hz1, hn1]))|refine zX _ (zX _ (zA (zA rfl rfl) ?_)) |refine us (digit_spec _) ?_ |refine uw (hfl 7 ⟨i, e⟩) ?_ |fail
            · (try have hz2 : ¬ (a + 1 < i) := fun k => hz ⟨hz1, k⟩)
              repeat' first |refine s1 ?_|refine gS ?_|refine wT rfl ?_|refine wF rfl ?_|refine wt rfl ?_|refine wf rfl ?_|(refine wC rfl (fun h=>?_) (fun h=>?_)<;>(try contradiction))|((first|refine rd ?_|refine ry (id:=5) [] (cq [3,7,14,18]) fun nu _ _=>?_|refine ry (id:=6) [] (cq [5,9]) fun nu _ _=>?_|refine ry [] c0 fun nu _ _=>?_);simp -dsimp (disch:=omega) only[go_sem,hac, hg, hd2, hz1, hn1])|refine e0 (by decide) ?_|(refine zA ?_ ?_;omega)|refine zA (of_eq_true PutAt_put) ?_|refine gT ?_|refine gF ?_|(refine gI (fun h=>?_) (fun h=>?_)<;>(try contradiction)<;>(try refine rd ?_)<;>(try simp -dsimp (disch:=omega) only[go_sem,h,hac, hg, hd2, hz1, hn1]))|refine zX _ (zX _ (zA (zA rfl rfl) ?_)) |refine us (digit_spec _) ?_ |refine uw (hfl 7 ⟨i, e⟩) ?_ |fail
            · (try have hz2 : ¬ (a + 1 < i) := fun k => hz ⟨hz1, k⟩)
              repeat' first |refine s1 ?_|refine gS ?_|refine wT rfl ?_|refine wF rfl ?_|refine wt rfl ?_|refine wf rfl ?_|(refine wC rfl (fun h=>?_) (fun h=>?_)<;>(try contradiction))|((first|refine rd ?_|refine ry (id:=5) [] (cq [3,7,14,18]) fun nu _ _=>?_|refine ry (id:=6) [] (cq [5,9]) fun nu _ _=>?_|refine ry [] c0 fun nu _ _=>?_);simp -dsimp (disch:=omega) only[go_sem,hac, hg, hd2, hz1, hn1])|refine e0 (by decide) ?_|(refine zA ?_ ?_;omega)|refine zA (of_eq_true PutAt_put) ?_|refine gT ?_|refine gF ?_|(refine gI (fun h=>?_) (fun h=>?_)<;>(try contradiction)<;>(try refine rd ?_)<;>(try simp -dsimp (disch:=omega) only[go_sem,h,hac, hg, hd2, hz1, hn1]))|refine zX _ (zX _ (zA (zA rfl rfl) ?_)) |refine us (digit_spec _) ?_ |refine uw (hfl 7 ⟨i, e⟩) ?_ |fail
          · rw [if_neg hn]
            by_cases hz1 : ((((B s).getD a default).toNat : Int) = 48)
            · (try have hz2 : ¬ (a + 1 < i) := fun k => hz ⟨hz1, k⟩)
              repeat' first |refine s1 ?_|refine gS ?_|refine wT rfl ?_|refine wF rfl ?_|refine wt rfl ?_|refine wf rfl ?_|(refine wC rfl (fun h=>?_) (fun h=>?_)<;>(try contradiction))|((first|refine rd ?_|refine ry (id:=5) [] (cq [3,7,14,18]) fun nu _ _=>?_|refine ry (id:=6) [] (cq [5,9]) fun nu _ _=>?_|refine ry [] c0 fun nu _ _=>?_);simp -dsimp (disch:=omega) only[go_sem,hac, hg, hd2, hz1])|refine e0 (by decide) ?_|(refine zA ?_ ?_;omega)|refine zA (of_eq_true PutAt_put) ?_|refine gT ?_|refine gF ?_|(refine gI (fun h=>?_) (fun h=>?_)<;>(try contradiction)<;>(try refine rd ?_)<;>(try simp -dsimp (disch:=omega) only[go_sem,h,hac, hg, hd2, hz1]))|refine zX _ (zX _ (zA (zA rfl rfl) ?_)) |refine us (digit_spec _) ?_ |refine uw (hfl 7 ⟨i, e⟩) ?_ |fail
            · (try have hz2 : ¬ (a + 1 < i) := fun k => hz ⟨hz1, k⟩)
              repeat' first |refine s1 ?_|refine gS ?_|refine wT rfl ?_|refine wF rfl ?_|refine wt rfl ?_|refine wf rfl ?_|(refine wC rfl (fun h=>?_) (fun h=>?_)<;>(try contradiction))|((first|refine rd ?_|refine ry (id:=5) [] (cq [3,7,14,18]) fun nu _ _=>?_|refine ry (id:=6) [] (cq [5,9]) fun nu _ _=>?_|refine ry [] c0 fun nu _ _=>?_);simp -dsimp (disch:=omega) only[go_sem,hac, hg, hd2, hz1])|refine e0 (by decide) ?_|(refine zA ?_ ?_;omega)|refine zA (of_eq_true PutAt_put) ?_|refine gT ?_|refine gF ?_|(refine gI (fun h=>?_) (fun h=>?_)<;>(try contradiction)<;>(try refine rd ?_)<;>(try simp -dsimp (disch:=omega) only[go_sem,h,hac, hg, hd2, hz1]))|refine zX _ (zX _ (zA (zA rfl rfl) ?_)) |refine us (digit_spec _) ?_ |refine uw (hfl 7 ⟨i, e⟩) ?_ |fail
    · have hie : i = (B s).length := by omega
      rw [List.drop_eq_nil_of_le (by omega), numR] at hr
      injection hr with q1 q2
      subst q1; subst q2
      rw [hac]
      by_cases hz : ((((B s).getD a default).toNat : Int) = 48) ∧ a + 1 < i
      · rw [if_pos hz]
        have hz1 := hz.1; have hz2 := hz.2
        repeat' first |refine s1 ?_|refine gS ?_|refine wT rfl ?_|refine wF rfl ?_|refine wt rfl ?_|refine wf rfl ?_|(refine wC rfl (fun h=>?_) (fun h=>?_)<;>(try contradiction))|((first|refine rd ?_|refine ry (id:=5) [] (cq [3,7,14,18]) fun nu _ _=>?_|refine ry (id:=6) [] (cq [5,9]) fun nu _ _=>?_|refine ry [] c0 fun nu _ _=>?_);simp -dsimp (disch:=omega) only[go_sem,hac, hz1, hz2])|refine e0 (by decide) ?_|(refine zA ?_ ?_;omega)|refine zA (of_eq_true PutAt_put) ?_|refine gT ?_|refine gF ?_|(refine gI (fun h=>?_) (fun h=>?_)<;>(try contradiction)<;>(try refine rd ?_)<;>(try simp -dsimp (disch:=omega) only[go_sem,h,hac, hz1, hz2]))|refine zX _ (zX _ (zA (zA rfl rfl) ?_)) |refine us (digit_spec _) ?_ |refine uw (hfl 4 ⟨i, e⟩) ?_ |fail
      · rw [if_neg hz]
        by_cases hn : m < 1 ∨ 65535 < m
        · rw [if_pos hn]
          by_cases hz1 : ((((B s).getD a default).toNat : Int) = 48) <;> by_cases hn1 : m < 1
          · (try have hz2 : ¬ (a + 1 < i) := fun k => hz ⟨hz1, k⟩)
            repeat' first |refine s1 ?_|refine gS ?_|refine wT rfl ?_|refine wF rfl ?_|refine wt rfl ?_|refine wf rfl ?_|(refine wC rfl (fun h=>?_) (fun h=>?_)<;>(try contradiction))|((first|refine rd ?_|refine ry (id:=5) [] (cq [3,7,14,18]) fun nu _ _=>?_|refine ry (id:=6) [] (cq [5,9]) fun nu _ _=>?_|refine ry [] c0 fun nu _ _=>?_);simp -dsimp (disch:=omega) only[go_sem,hac, hz1, hn1])|refine e0 (by decide) ?_|(refine zA ?_ ?_;omega)|refine zA (of_eq_true PutAt_put) ?_|refine gT ?_|refine gF ?_|(refine gI (fun h=>?_) (fun h=>?_)<;>(try contradiction)<;>(try refine rd ?_)<;>(try simp -dsimp (disch:=omega) only[go_sem,h,hac, hz1, hn1]))|refine zX _ (zX _ (zA (zA rfl rfl) ?_)) |refine us (digit_spec _) ?_ |refine uw (hfl 7 ⟨i, e⟩) ?_ |fail
          · (try have hz2 : ¬ (a + 1 < i) := fun k => hz ⟨hz1, k⟩)
            repeat' first |refine s1 ?_|refine gS ?_|refine wT rfl ?_|refine wF rfl ?_|refine wt rfl ?_|refine wf rfl ?_|(refine wC rfl (fun h=>?_) (fun h=>?_)<;>(try contradiction))|((first|refine rd ?_|refine ry (id:=5) [] (cq [3,7,14,18]) fun nu _ _=>?_|refine ry (id:=6) [] (cq [5,9]) fun nu _ _=>?_|refine ry [] c0 fun nu _ _=>?_);simp -dsimp (disch:=omega) only[go_sem,hac, hz1, hn1])|refine e0 (by decide) ?_|(refine zA ?_ ?_;omega)|refine zA (of_eq_true PutAt_put) ?_|refine gT ?_|refine gF ?_|(refine gI (fun h=>?_) (fun h=>?_)<;>(try contradiction)<;>(try refine rd ?_)<;>(try simp -dsimp (disch:=omega) only[go_sem,h,hac, hz1, hn1]))|refine zX _ (zX _ (zA (zA rfl rfl) ?_)) |refine us (digit_spec _) ?_ |refine uw (hfl 7 ⟨i, e⟩) ?_ |fail
          · (try have hz2 : ¬ (a + 1 < i) := fun k => hz ⟨hz1, k⟩)
            repeat' first |refine s1 ?_|refine gS ?_|refine wT rfl ?_|refine wF rfl ?_|refine wt rfl ?_|refine wf rfl ?_|(refine wC rfl (fun h=>?_) (fun h=>?_)<;>(try contradiction))|((first|refine rd ?_|refine ry (id:=5) [] (cq [3,7,14,18]) fun nu _ _=>?_|refine ry (id:=6) [] (cq [5,9]) fun nu _ _=>?_|refine ry [] c0 fun nu _ _=>?_);simp -dsimp (disch:=omega) only[go_sem,hac, hz1, hn1])|refine e0 (by decide) ?_|(refine zA ?_ ?_;omega)|refine zA (of_eq_true PutAt_put) ?_|refine gT ?_|refine gF ?_|(refine gI (fun h=>?_) (fun h=>?_)<;>(try contradiction)<;>(try refine rd ?_)<;>(try simp -dsimp (disch:=omega) only[go_sem,h,hac, hz1, hn1]))|refine zX _ (zX _ (zA (zA rfl rfl) ?_)) |refine us (digit_spec _) ?_ |refine uw (hfl 7 ⟨i, e⟩) ?_ |fail
          · (try have hz2 : ¬ (a + 1 < i) := fun k => hz ⟨hz1, k⟩)
            repeat' first |refine s1 ?_|refine gS ?_|refine wT rfl ?_|refine wF rfl ?_|refine wt rfl ?_|refine wf rfl ?_|(refine wC rfl (fun h=>?_) (fun h=>?_)<;>(try contradiction))|((first|refine rd ?_|refine ry (id:=5) [] (cq [3,7,14,18]) fun nu _ _=>?_|refine ry (id:=6) [] (cq [5,9]) fun nu _ _=>?_|refine ry [] c0 fun nu _ _=>?_);simp -dsimp (disch:=omega) only[go_sem,hac, hz1, hn1])|refine e0 (by decide) ?_|(refine zA ?_ ?_;omega)|refine zA (of_eq_true PutAt_put) ?_|refine gT ?_|refine gF ?_|(refine gI (fun h=>?_) (fun h=>?_)<;>(try contradiction)<;>(try refine rd ?_)<;>(try simp -dsimp (disch:=omega) only[go_sem,h,hac, hz1, hn1]))|refine zX _ (zX _ (zA (zA rfl rfl) ?_)) |refine us (digit_spec _) ?_ |refine uw (hfl 7 ⟨i, e⟩) ?_ |fail
        · rw [if_neg hn]
          by_cases hz1 : ((((B s).getD a default).toNat : Int) = 48)
          · (try have hz2 : ¬ (a + 1 < i) := fun k => hz ⟨hz1, k⟩)
            repeat' first |refine s1 ?_|refine gS ?_|refine wT rfl ?_|refine wF rfl ?_|refine wt rfl ?_|refine wf rfl ?_|(refine wC rfl (fun h=>?_) (fun h=>?_)<;>(try contradiction))|((first|refine rd ?_|refine ry (id:=5) [] (cq [3,7,14,18]) fun nu _ _=>?_|refine ry (id:=6) [] (cq [5,9]) fun nu _ _=>?_|refine ry [] c0 fun nu _ _=>?_);simp -dsimp (disch:=omega) only[go_sem,hac, hz1])|refine e0 (by decide) ?_|(refine zA ?_ ?_;omega)|refine zA (of_eq_true PutAt_put) ?_|refine gT ?_|refine gF ?_|(refine gI (fun h=>?_) (fun h=>?_)<;>(try contradiction)<;>(try refine rd ?_)<;>(try simp -dsimp (disch:=omega) only[go_sem,h,hac, hz1]))|refine zX _ (zX _ (zA (zA rfl rfl) ?_)) |refine us (digit_spec _) ?_ |refine uw (hfl 7 ⟨i, e⟩) ?_ |fail
          · (try have hz2 : ¬ (a + 1 < i) := fun k => hz ⟨hz1, k⟩)
            repeat' first |refine s1 ?_|refine gS ?_|refine wT rfl ?_|refine wF rfl ?_|refine wt rfl ?_|refine wf rfl ?_|(refine wC rfl (fun h=>?_) (fun h=>?_)<;>(try contradiction))|((first|refine rd ?_|refine ry (id:=5) [] (cq [3,7,14,18]) fun nu _ _=>?_|refine ry (id:=6) [] (cq [5,9]) fun nu _ _=>?_|refine ry [] c0 fun nu _ _=>?_);simp -dsimp (disch:=omega) only[go_sem,hac, hz1])|refine e0 (by decide) ?_|(refine zA ?_ ?_;omega)|refine zA (of_eq_true PutAt_put) ?_|refine gT ?_|refine gF ?_|(refine gI (fun h=>?_) (fun h=>?_)<;>(try contradiction)<;>(try refine rd ?_)<;>(try simp -dsimp (disch:=omega) only[go_sem,h,hac, hz1]))|refine zX _ (zX _ (zA (zA rfl rfl) ?_)) |refine us (digit_spec _) ?_ |refine uw (hfl 7 ⟨i, e⟩) ?_ |fail
  · rw [if_neg (by rw [hd]; simp)]
    repeat' first |refine s1 ?_|refine gS ?_|refine wT rfl ?_|refine wF rfl ?_|refine wt rfl ?_|refine wf rfl ?_|(refine wC rfl (fun h=>?_) (fun h=>?_)<;>(try contradiction))|((first|refine rd ?_|refine ry [] c0 fun nu _ _=>?_);simp -dsimp (disch:=omega) only[go_sem,hd])|refine e0 (by decide) ?_|(refine zA ?_ ?_;omega)|refine zA (of_eq_true PutAt_put) ?_|refine gT ?_|refine gF ?_|(refine gI (fun h=>?_) (fun h=>?_)<;>(try contradiction)<;>(try refine rd ?_)<;>(try simp -dsimp (disch:=omega) only[go_sem,h,hd]))|refine zX _ (zX _ (zA (zA rfl rfl) ?_)) |refine uw (hpk) ?_ |refine us (hdg) ?_ |refine uw (hfl 4 ⟨a, e⟩) ?_ |fail
end
end Go.Proofs.YtaealcimocpnnaaGreat

namespace Go.Proofs.YtaealcimocpnnaaGreat
open Go.Kern
set_option maxRecDepth 100000
set_option maxHeartbeats 4000000
attribute [local irreducible] PCall W
attribute [local go_sem] pO
theorem Sub_oth {σ : Store} {o c : Nat} {x z : Ob} (hc : σ c = none) : Store.Sub (σ.put o x) ((σ.put c z).put o x) := fun p y hy => by
  simp only [Store.put] at hy ⊢
  split
  · rename_i e; rw [if_pos e] at hy; exact hy
  · rename_i e; rw [if_neg e] at hy
    split
    · rename_i e2; rw [e2, hc] at hy; cases hy
    · exact hy
section
variable (s : ByteArray) (hs : s.size ≤ 1000)
include hs
def partZ (l : List UInt8) (p : PS) : Int :=
  if (takeB l 45 (numberB l p).2).1 = true then (numberB l (takeB l 45 (numberB l p).2).2).1 else (numberB l p).1
theorem part_spec (p : PS) (hp : p.at_ ≤ (B s).length) (o : Nat) (σ : Store) :
    PCall Tryz.prog 213 [.ptr o 0 0] (σ.put o (pO s p)) (fun r t => r = .agg [.int .i64 (numberB (B s) p).1, .int .i64 (partZ (B s) p)] ∧ t = σ.put o (pO s (partB (B s) p))) := by
  have hl := length_B s
  have h1 := number_spec s hs p hp o
  obtain ⟨a, q1, hq1⟩ : ∃ a q1, numberB (B s) p = (a, q1) := ⟨_, _, rfl⟩
  have hn1 := (number_mono (B s)).len p hp
  have h2 := take_spec s hs q1 (by rw [hq1] at hn1; exact hn1) 45 o
  obtain ⟨b1, q2, hq2⟩ : ∃ b1 q2, takeB (B s) 45 q1 = (b1, q2) := ⟨_, _, rfl⟩
  have hn2 := (take_mono (B s) 45).len q1 (by rw [hq1] at hn1; exact hn1)
  have h3 := number_spec s hs q2 (by rw [hq2] at hn2; exact hn2) o
  obtain ⟨b, q3, hq3⟩ : ∃ b q3, numberB (B s) q2 = (b, q3) := ⟨_, _, rfl⟩
  have h4 : ∀ σ : Store, PCall Tryz.prog 166 [.ptr o 0 0, .int .i64 7] (σ.put o (pO s q3)) (fun r t => r = .tup [] ∧ t = σ.put o (pO s (failB 7 q3))) := fun σ => fail_spec s q3 7 o σ
  simp only [hq1, hq2, hq3, partZ, partB] at h1 h2 h3 h4 ⊢
  cases b1 with
  | false =>
    simp only [Bool.false_eq_true, if_false]
    refine PCall_w [.cell 2 265] 30 Tryz.func213 (by rfl) rfl rfl rfl rfl ?_
    repeat' first |((fail_if_success (first|show W _ _ (Code.seq (Code.region 1 _ _) _) _ _ _|show W _ _ (Code.seq (Code.seq (Code.region 1 _ _) _) _) _ _ _));refine s1 ?_)|refine gS ?_|refine wT rfl ?_|refine wF rfl ?_|refine wt rfl ?_|refine wf rfl ?_|(refine wC rfl (fun h=>?_) (fun h=>?_)<;>(try contradiction))|((fail_if_success (first|show W _ _ (Code.region 1 _ _) _ _ _));(first|refine rd ?_|refine ry [] c0 fun nu _ _=>?_);simp -dsimp (disch:=omega) only[go_sem])|refine e0 (by decide) ?_|(refine zA ?_ ?_;omega)|refine zA (of_eq_true PutAt_put) ?_|refine gT ?_|refine gF ?_|(refine gI (fun h=>?_) (fun h=>?_)<;>(try contradiction)<;>(try refine rd ?_)<;>(try simp -dsimp (disch:=omega) only[go_sem,h]))|refine zX _ (zX _ (zA (zA rfl rfl) ?_)) |fail
    intro c hc
    have hco := alloc_ne hc
    have sw := put_swap hco
    have ot := put_oth hco
    rw [ot] at hc
    simp only [sw]
    repeat' first |refine s1 ?_|refine gS ?_|refine wT rfl ?_|refine wF rfl ?_|refine wt rfl ?_|refine wf rfl ?_|(refine wC rfl (fun h=>?_) (fun h=>?_)<;>(try contradiction))|((first|refine rd ?_|refine ry [] c0 fun nu _ _=>?_);simp -dsimp (disch:=omega) only[go_sem,sw, ot])|refine e0 (by decide) ?_|(refine zA ?_ ?_;omega)|refine zA (of_eq_true PutAt_put) ?_|refine gT ?_|refine gF ?_|(refine gI (fun h=>?_) (fun h=>?_)<;>(try contradiction)<;>(try refine rd ?_)<;>(try simp -dsimp (disch:=omega) only[go_sem,h,sw, ot]))|refine zX _ (zX _ (zA (zA rfl rfl) ?_)) |refine uw (h1 _) ?_ |refine uw (h2 _) ?_ |fail
    exact Sub_oth hc
  | true =>
    by_cases hx : q3.e = 0 ∧ b < a
    · simp only [if_true, if_pos hx]
      obtain ⟨a3, e3⟩ := q3
      simp only at hx
      obtain ⟨rfl, hx2⟩ := hx
      refine PCall_w [.cell 2 265] 30 Tryz.func213 (by rfl) rfl rfl rfl rfl ?_
      repeat' first |((fail_if_success (first|show W _ _ (Code.seq (Code.region 1 _ _) _) _ _ _|show W _ _ (Code.seq (Code.seq (Code.region 1 _ _) _) _) _ _ _));refine s1 ?_)|refine gS ?_|refine wT rfl ?_|refine wF rfl ?_|refine wt rfl ?_|refine wf rfl ?_|(refine wC rfl (fun h=>?_) (fun h=>?_)<;>(try contradiction))|((fail_if_success (first|show W _ _ (Code.region 1 _ _) _ _ _));(first|refine rd ?_|refine ry [] c0 fun nu _ _=>?_);simp -dsimp (disch:=omega) only[go_sem])|refine e0 (by decide) ?_|(refine zA ?_ ?_;omega)|refine zA (of_eq_true PutAt_put) ?_|refine gT ?_|refine gF ?_|(refine gI (fun h=>?_) (fun h=>?_)<;>(try contradiction)<;>(try refine rd ?_)<;>(try simp -dsimp (disch:=omega) only[go_sem,h]))|refine zX _ (zX _ (zA (zA rfl rfl) ?_)) |fail
      intro c hc
      have hco := alloc_ne hc
      have sw := put_swap hco
      have ot := put_oth hco
      rw [ot] at hc
      simp only [sw]
      repeat' first |refine s1 ?_|refine gS ?_|refine wT rfl ?_|refine wF rfl ?_|refine wt rfl ?_|refine wf rfl ?_|(refine wC rfl (fun h=>?_) (fun h=>?_)<;>(try contradiction))|((first|refine rd ?_|refine ry [] c0 fun nu _ _=>?_);simp -dsimp (disch:=omega) only[go_sem,sw, ot, hx2])|refine e0 (by decide) ?_|(refine zA ?_ ?_;omega)|refine zA (of_eq_true PutAt_put) ?_|refine gT ?_|refine gF ?_|(refine gI (fun h=>?_) (fun h=>?_)<;>(try contradiction)<;>(try refine rd ?_)<;>(try simp -dsimp (disch:=omega) only[go_sem,h,sw, ot, hx2]))|refine zX _ (zX _ (zA (zA rfl rfl) ?_)) |refine uw (h1 _) ?_ |refine uw (h2 _) ?_ |refine uw (h3 _) ?_ |refine uw (h4 _) ?_ |fail
      exact Sub_oth hc
    · simp only [if_true, if_neg hx]
      refine PCall_w [.cell 2 265] 30 Tryz.func213 (by rfl) rfl rfl rfl rfl ?_
      repeat' first |((fail_if_success (first|show W _ _ (Code.seq (Code.region 1 _ _) _) _ _ _|show W _ _ (Code.seq (Code.seq (Code.region 1 _ _) _) _) _ _ _));refine s1 ?_)|refine gS ?_|refine wT rfl ?_|refine wF rfl ?_|refine wt rfl ?_|refine wf rfl ?_|(refine wC rfl (fun h=>?_) (fun h=>?_)<;>(try contradiction))|((fail_if_success (first|show W _ _ (Code.region 1 _ _) _ _ _));(first|refine rd ?_|refine ry [] c0 fun nu _ _=>?_);simp -dsimp (disch:=omega) only[go_sem])|refine e0 (by decide) ?_|(refine zA ?_ ?_;omega)|refine zA (of_eq_true PutAt_put) ?_|refine gT ?_|refine gF ?_|(refine gI (fun h=>?_) (fun h=>?_)<;>(try contradiction)<;>(try refine rd ?_)<;>(try simp -dsimp (disch:=omega) only[go_sem,h]))|refine zX _ (zX _ (zA (zA rfl rfl) ?_)) |fail
      intro c hc
      have hco := alloc_ne hc
      have sw := put_swap hco
      have ot := put_oth hco
      rw [ot] at hc
      simp only [sw]
      by_cases hx1 : q3.e = 0
      · have hx2 : ¬ b < a := fun k => hx ⟨hx1, k⟩
        repeat' first |refine s1 ?_|refine gS ?_|refine wT rfl ?_|refine wF rfl ?_|refine wt rfl ?_|refine wf rfl ?_|(refine wC rfl (fun h=>?_) (fun h=>?_)<;>(try contradiction))|((first|refine rd ?_|refine ry [] c0 fun nu _ _=>?_);simp -dsimp (disch:=omega) only[go_sem,sw, ot, hx1, hx2])|refine e0 (by decide) ?_|(refine zA ?_ ?_;omega)|refine zA (of_eq_true PutAt_put) ?_|refine gT ?_|refine gF ?_|(refine gI (fun h=>?_) (fun h=>?_)<;>(try contradiction)<;>(try refine rd ?_)<;>(try simp -dsimp (disch:=omega) only[go_sem,h,sw, ot, hx1, hx2]))|refine zX _ (zX _ (zA (zA rfl rfl) ?_)) |refine uw (h1 _) ?_ |refine uw (h2 _) ?_ |refine uw (h3 _) ?_ |refine uw (h4 _) ?_ |fail
        exact Sub_oth hc
      · skip
        repeat' first |refine s1 ?_|refine gS ?_|refine wT rfl ?_|refine wF rfl ?_|refine wt rfl ?_|refine wf rfl ?_|(refine wC rfl (fun h=>?_) (fun h=>?_)<;>(try contradiction))|((first|refine rd ?_|refine ry [] c0 fun nu _ _=>?_);simp -dsimp (disch:=omega) only[go_sem,sw, ot, hx1])|refine e0 (by decide) ?_|(refine zA ?_ ?_;omega)|refine zA (of_eq_true PutAt_put) ?_|refine gT ?_|refine gF ?_|(refine gI (fun h=>?_) (fun h=>?_)<;>(try contradiction)<;>(try refine rd ?_)<;>(try simp -dsimp (disch:=omega) only[go_sem,h,sw, ot, hx1]))|refine zX _ (zX _ (zA (zA rfl rfl) ?_)) |refine uw (h1 _) ?_ |refine uw (h2 _) ?_ |refine uw (h3 _) ?_ |refine uw (h4 _) ?_ |fail
        exact Sub_oth hc
end
end Go.Proofs.YtaealcimocpnnaaGreat

namespace Go.Proofs.YtaealcimocpnnaaGreat
open Go.Kern
def isP (r : AV) : Prop := (∃ q i off, r = .ptr q i off) ∨ ∃ x off, r = .ip x off
theorem isP_ptr {q i off : Nat} : isP (.ptr q i off) = True := eq_true (.inl ⟨q, i, off, rfl⟩)
theorem isP_ip {x : AV} {off : Nat} : isP (.ip x off) = True := eq_true (.inr ⟨x, off, rfl⟩)
attribute [go_sem] isP_ptr isP_ip
theorem PCall_isP {P : Program} {f : FuncId} {args : List AV} {σ τ : Store} (h : PCall P f args σ (fun r t => isP r ∧ t = τ)) : PCall P f args σ (fun r t => r = gpt ∧ t = τ) := by
  refine ⟨h.1, ?_⟩
  refine fun g w vs hl hr hc => (h.2 g w vs hl hr hc).mono ?_
  rintro e w' ⟨v, he, g', r, σ', h1, h2, h3, h4, h5⟩
  refine ⟨v, he, g', gpt, σ', h1, h2, ?_, rfl, h5⟩
  rcases h4 with ⟨q, i, off, rfl⟩ | ⟨x, off, rfl⟩
  · exact h3.gpt
  · cases h3 with
    | ip hs ho hi h => exact .ip (base := _) (vs := fun _ => undef) hs rfl (fun i hi => by simp [AV.cells] at hi) (fun i c hc => by simp [AV.cells] at hc)
set_option maxRecDepth 100000
set_option maxHeartbeats 4000000
attribute [local irreducible] PCall W
attribute [local go_sem] pO
theorem ps_under {c q o : Nat} (h1 : c ≠ q) (h2 : c ≠ o) (s : Store) (N P x : Ob) : PutSome ((s.put q N).put o P) (((s.put c x).put q N).put o P) = True := by
  rw [← put_swap h1, ← put_swap h2]; exact PutSome_self
theorem ps_in {q o : Nat} (h : q ≠ o) (s : Store) (N N' P : Ob) : PutSome ((s.put q N).put o P) ((s.put q N').put o P) = True := by
  have := @PutSome_self q ((s.put q N).put o P) N'
  rw [put_swap h, put_put] at this
  exact this
theorem keep_new {σ τ : Store} {c : Nat} {x : Ob} (h : ∀ c y, σ c = some y → τ c = some y) (hc : σ c = none) : ∀ d y, σ d = some y → (τ.put c x) d = some y := fun d y hd => by
  simp only [Store.put]
  split
  · rename_i e; rw [e, hc] at hd; cases hd
  · exact h d y hd
theorem none_of {σ τ : Store} {c : Nat} (h : ∀ c y, σ c = some y → τ c = some y) (hc : τ c = none) : σ c = none := by
  cases e : σ c with
  | none => rfl
  | some y => rw [h c y e] at hc; cases hc
structure Lp where
  fuel : Nat
  p : PS
  k : SK
  rows : List AV
  τ : Store
def nodeO (kind : Int) (set : Bool) (k : SK) (rows : List AV) (k2 : SK) (kids : List AV) : Ob := .arr 240 [.agg [.int .i64 kind, .bool false, .bool set, .sl k rows, .sl k2 kids]]
def KindOk (σ τ : Store) (q o e sz : Nat) (k : SK) (rows : List AV) : Prop := k = .full ∨ (k = .nil ∧ rows = []) ∨ ∃ t, k = .tip t ∧ τ t = some (.tip rows.length e sz) ∧ t ≠ q ∧ t ≠ o ∧ σ t = none
section
variable (s : ByteArray) (hs : s.size ≤ 1000)
include hs
def ChS (n : Nat) : Prop := ∀ (p : PS), p.at_ ≤ (B s).length → ∀ (o : Nat) (σ : Store), PCall Tryz.prog 164 [.ptr o 0 0, .int .i64 (9 - n)] (σ.put o (pO s p)) (fun r t => r = gpt ∧ t = σ.put o (pO s (choiceB (B s) n p)))
theorem atom_spec (n : Nat) (hn : n ≤ 8) (hch : ChS s n) (p : PS) (hp : p.at_ ≤ (B s).length) (o : Nat) (σ : Store) :
    PCall Tryz.prog 206 [.ptr o 0 0, .int .i64 (8 - n)] (σ.put o (pO s p)) (fun r t => r = gpt ∧ t = σ.put o (pO s (atomB (B s) (choiceB (B s) n) p))) := by
  refine PCall_isP ?_
  have hl := length_B s
  have h1 := take_spec s hs p hp 46 o
  have hl1 := (take_mono (B s) 46).len p hp
  obtain ⟨b1, p1, hp1⟩ : ∃ b1 p1, takeB (B s) 46 p = (b1, p1) := ⟨_, _, rfl⟩
  rw [hp1] at hl1
  have h2 := take_spec s hs p1 hl1 91 o
  have hl2 := (take_mono (B s) 91).len p1 hl1
  obtain ⟨b2, p2, hp2⟩ : ∃ b2 p2, takeB (B s) 91 p1 = (b2, p2) := ⟨_, _, rfl⟩
  rw [hp2] at hl2
  have h3 := take_spec s hs p2 hl2 40 o
  have hl3 := (take_mono (B s) 40).len p2 hl2
  obtain ⟨b3, p3, hp3⟩ : ∃ b3 p3, takeB (B s) 40 p2 = (b3, p3) := ⟨_, _, rfl⟩
  rw [hp3] at hl3
  simp only [atomB, hp1, hp2, hp3] at h1 h2 h3 ⊢
  cases b1 with
  | true =>
    simp only [if_true]
    refine PCall_w [.tmp 4] 73 Tryz.func206 (by rfl) rfl rfl rfl rfl ?_
    repeat' first |refine s1 ?_|refine gS ?_|refine wT rfl ?_|refine wF rfl ?_|refine wt rfl ?_|refine wf rfl ?_|(refine wC rfl (fun h=>?_) (fun h=>?_)<;>(try contradiction))|((first|refine rd ?_|refine ry [] c0 fun nu _ _=>?_);simp -dsimp (disch:=omega) only[go_sem])|refine e0 (by decide) ?_|(refine zA ?_ ?_;omega)|refine zA (of_eq_true PutAt_put) ?_|refine gT ?_|refine gF ?_|(refine gI (fun h=>?_) (fun h=>?_)<;>(try contradiction)<;>(try refine rd ?_)<;>(try simp -dsimp (disch:=omega) only[go_sem,h]))|refine zX _ (zX _ (zA (zA rfl rfl) ?_)) |refine uw (h1 _) ?_ |fail
  | false =>
  cases b2 with
  | true =>
    simp only [Bool.false_eq_true, if_false, if_true]
    have hpt := part_spec s hs p2 hl2 o
    obtain ⟨ra, hra⟩ : ∃ a, (numberB (B s) p2).1 = a := ⟨_, rfl⟩
    obtain ⟨rz, hrz⟩ : ∃ a, partZ (B s) p2 = a := ⟨_, rfl⟩
    obtain ⟨rp, hrp⟩ : ∃ a, partB (B s) p2 = a := ⟨_, rfl⟩
    have hlp := (part_mono (B s)).len p2 hl2
    rw [hrp] at hlp
    simp only [hra, hrz, hrp] at hpt ⊢
    refine PCall_w [.tmp 4] 73 Tryz.func206 (by rfl) rfl rfl rfl rfl ?_
    repeat' first |refine s1 ?_|refine gS ?_|refine wT rfl ?_|refine wF rfl ?_|refine wt rfl ?_|refine wf rfl ?_|(refine wC rfl (fun h=>?_) (fun h=>?_)<;>(try contradiction))|((first|refine s3 (mu:=[22]) ?_|refine rd ?_|refine ry [22] c0 fun nu _ _=>?_);simp -dsimp (disch:=omega) only[go_sem])|refine e0 (by decide) ?_|(refine zA ?_ ?_;omega)|refine zA (of_eq_true PutAt_put) ?_|refine gT ?_|refine gF ?_|(refine gI (fun h=>?_) (fun h=>?_)<;>(try contradiction)<;>(try refine rd ?_)<;>(try simp -dsimp (disch:=omega) only[go_sem,h]))|refine zX _ (zX _ (zA (zA rfl rfl) ?_)) |refine uw (h1 _) ?_ |refine uw (h2 _) ?_ |refine uw (hpt _) ?_ |fail
    intro q hq
    have hqo := alloc_ne hq
    have sw := put_swap hqo
    have ot := put_oth hqo
    rw [ot] at hq
    simp only [sw]
    repeat' first |refine s1 ?_|refine gS ?_|refine wT rfl ?_|refine wF rfl ?_|refine wt rfl ?_|refine wf rfl ?_|(refine wC rfl (fun h=>?_) (fun h=>?_)<;>(try contradiction))|((first|refine rd ?_|refine ry [] c0 fun nu _ _=>?_);simp -dsimp (disch:=omega) only[go_sem,sw, ot])|refine e0 (by decide) ?_|(refine zA ?_ ?_;omega)|refine zA (of_eq_true PutAt_put) ?_|refine gT ?_|refine gF ?_|(refine gI (fun h=>?_) (fun h=>?_)<;>(try contradiction)<;>(try refine rd ?_)<;>(try simp -dsimp (disch:=omega) only[go_sem,h,sw, ot]))|refine zX _ (zX _ (zA (zA rfl rfl) ?_)) |fail
    refine W_loop_st (fun x : Lp => [(0, .ptr o 0 0), (5, .ptr q 0 0)]) (fun x => (x.τ.put q (nodeO 0 true x.k x.rows .nil [])).put o (pO s x.p))
      (fun x => x.p.at_ ≤ (B s).length ∧ setB (B s) x.fuel x.p = setB (B s) ((B s).length + 2) rp ∧ x.rows.length + x.fuel = (B s).length + 3 ∧ (x.p.e = 0 → (B s).length < x.p.at_ + x.fuel) ∧ rowsOk 2 x.rows = true ∧ (∀ c y, σ c = some y → x.τ c = some y) ∧ KindOk σ x.τ q o 265 2 x.k x.rows) (fun x => x.fuel)
      ⟨(B s).length + 2, rp, .full, [.agg [.int .i64 ra, .int .i64 rz]], σ⟩ ⟨hlp, rfl, by simp; omega, fun _ => by simp only; omega, by rfl, fun _ _ h => h, .inl rfl⟩ (Env.Sub_of_has (by simp [Env.Has, Env.get])) (by simp only [pO, nodeO]; exact Store.Sub.refl _) ?_
    rintro ⟨fuel, p5, k, rows, τ⟩ ⟨i1, i2, i3, i4, i5, i6, i7⟩
    simp only at i1 i2 i3 i4 i5 i6 i7 ⊢
    obtain ⟨at5, r5⟩ := p5
    simp only at i1 i4
    rw [← i2]
    have fin : ∀ x, (σ.put o x).Sub ((τ.put q (nodeO 0 true k rows .nil [])).put o x) := fun x c y hy => by
      simp only [Store.put] at hy ⊢
      split
      · rename_i e; rw [if_pos e] at hy; exact hy
      · rename_i e; rw [if_neg e] at hy
        split
        · rename_i e2; rw [e2, hq] at hy; cases hy
        · exact i6 _ _ hy
    by_cases he : r5 = 0
    · subst he
      have hf := i4 rfl
      obtain ⟨f, rfl⟩ : ∃ f, fuel = f + 1 := ⟨fuel - 1, by omega⟩
      have t1 := take_spec s hs ⟨at5, 0⟩ i1 93 o
      have hl5 := (take_mono (B s) 93).len ⟨at5, 0⟩ i1
      have hg5 := (take_mono (B s) 93).le ⟨at5, 0⟩ i1
      obtain ⟨b6, p6, hp6⟩ : ∃ b6 p6, takeB (B s) 93 ⟨at5, 0⟩ = (b6, p6) := ⟨_, _, rfl⟩
      simp only [hp6] at t1 hl5 hg5
      simp only [setB, hp6, if_true]
      cases b6 with
      | true =>
        simp only [if_true]
        simp only [nodeO] at fin ⊢
        repeat' first |refine s1 ?_|refine gS ?_|refine wT rfl ?_|refine wF rfl ?_|refine wt rfl ?_|refine wf rfl ?_|(refine wC rfl (fun h=>?_) (fun h=>?_)<;>(try contradiction))|((first|refine rd ?_|refine ry [] c0 fun nu _ _=>?_);simp -dsimp (disch:=omega) only[go_sem])|refine e0 (by decide) ?_|(refine zA ?_ ?_;omega)|refine zA (of_eq_true PutAt_put) ?_|refine gT ?_|refine gF ?_|(refine gI (fun h=>?_) (fun h=>?_)<;>(try contradiction)<;>(try refine rd ?_)<;>(try simp -dsimp (disch:=omega) only[go_sem,h]))|refine zX _ (zX _ (zA (zA rfl rfl) ?_)) |refine uw (t1 _) ?_ |fail
        exact fin _
      | false =>
        simp only [Bool.false_eq_true, if_false]
        have hpt2 := part_spec s hs p6 hl5 o
        obtain ⟨na, hna⟩ : ∃ a, (numberB (B s) p6).1 = a := ⟨_, rfl⟩
        obtain ⟨nz, hnz⟩ : ∃ a, partZ (B s) p6 = a := ⟨_, rfl⟩
        obtain ⟨p7, hp7⟩ : ∃ a, partB (B s) p6 = a := ⟨_, rfl⟩
        have hl7 := (part_mono (B s)).len p6 hl5
        have hgo := part_go (B s) p6 hl5
        rw [hp7] at hl7 hgo
        simp only [hna, hnz, hp7] at hpt2 ⊢
        have i2' : setB (B s) f p7 = setB (B s) (f + 1) ⟨at5, 0⟩ := by simp only [setB, hp6, hp7, if_true, Bool.false_eq_true, if_false]
        simp only [nodeO]
        repeat' first |((fail_if_success (first|show W _ _ (Code.seq (Code.region 6 _ _) _) _ _ _|show W _ _ (Code.seq (Code.seq (Code.region 6 _ _) _) _) _ _ _));refine s1 ?_)|refine gS ?_|refine wT rfl ?_|refine wF rfl ?_|refine wt rfl ?_|refine wf rfl ?_|(refine wC rfl (fun h=>?_) (fun h=>?_)<;>(try contradiction))|((fail_if_success (first|show W _ _ (Code.region 6 _ _) _ _ _));(first|refine rd ?_|refine ry [] c0 fun nu _ _=>?_);simp -dsimp (disch:=omega) only[go_sem])|refine e0 (by decide) ?_|(refine zA ?_ ?_;omega)|refine zA (of_eq_true PutAt_put) ?_|refine gT ?_|refine gF ?_|(refine gI (fun h=>?_) (fun h=>?_)<;>(try contradiction)<;>(try refine rd ?_)<;>(try simp -dsimp (disch:=omega) only[go_sem,h]))|refine zX _ (zX _ (zA (zA rfl rfl) ?_)) |refine uw (t1 _) ?_ |fail
        refine W_region_late (id:=6) [] ⟨[4],[6,8,11],[],[8],[],[6],o⟩ mx (by kernel_rfl) ⟨_, put_same _ _ _⟩ ?_
        intro nu hnu hni
        have e8 := hnu 8 (by simp)
        have n8 := alloc_ne e8
        rw [put_oth n8] at e8
        have n8q := alloc_ne e8
        rw [put_oth n8q] at e8
        have s8 := put_swap n8
        have s8q := put_swap n8q
        have o8 := put_oth n8
        have o8q := put_oth n8q
        rcases i7 with rfl | ⟨rfl, rfl⟩ | ⟨t, rfl, ht, htq, hto, hts⟩
        · skip
          simp -dsimp (disch:=omega) only[go_sem,sw, ot, s8, s8q, o8, o8q, i5, ps_under n8q n8, ps_in hqo]
          repeat' first |refine s1 ?_|refine gS ?_|refine wT rfl ?_|refine wF rfl ?_|refine wt rfl ?_|refine wf rfl ?_|(refine wC rfl (fun h=>?_) (fun h=>?_)<;>(try contradiction))|((first|refine rd ?_|refine ry [] c0 fun nu _ _=>?_);simp -dsimp (disch:=omega) only[go_sem,sw, ot, s8, s8q, o8, o8q, i5, ps_under n8q n8, ps_in hqo])|refine e0 (by decide) ?_|(refine zA ?_ ?_;omega)|refine zA (of_eq_true PutAt_put) ?_|refine zA (show PutSome _ _ by simp only[PutSome_self,PutSome_put,PutSome_same,sw, ot, s8, s8q, o8, o8q, i5, ps_under n8q n8, ps_in hqo]) ?_|refine gT ?_|refine gF ?_|(refine gI (fun h=>?_) (fun h=>?_)<;>(try contradiction)<;>(try refine rd ?_)<;>(try simp -dsimp (disch:=omega) only[go_sem,h,sw, ot, s8, s8q, o8, o8q, i5, ps_under n8q n8, ps_in hqo]))|refine zX _ (zX _ (zA (zA rfl rfl) ?_)) |refine uw (hpt2 _) ?_ |fail
          refine ⟨⟨f, p7, .tip (nu 8), rows ++ [.agg [.int .i64 na, .int .i64 nz]], τ.put (nu 8) (.tip (rows ++ [AV.agg [.int .i64 na, .int .i64 nz]]).length 265 2)⟩, by simp, ⟨hl7, rfl, by simp at i3 ⊢; omega, fun h0 => by have := hgo h0; simp only; omega, by simp only [rowsOk_append, i5]; rfl, keep_new i6 (none_of i6 e8), .inr (.inr ⟨(nu 8), rfl, put_same _ _ _, n8q, n8, none_of i6 e8⟩)⟩, Env.Sub_of_has (by simp [Env.Has, Env.get]), by simp only [pO, List.nil_append]; exact Store.Sub.refl _⟩
        · skip
          simp -dsimp (disch:=omega) only[go_sem,sw, ot, s8, s8q, o8, o8q, i5, ps_under n8q n8, ps_in hqo]
          repeat' first |refine s1 ?_|refine gS ?_|refine wT rfl ?_|refine wF rfl ?_|refine wt rfl ?_|refine wf rfl ?_|(refine wC rfl (fun h=>?_) (fun h=>?_)<;>(try contradiction))|((first|refine rd ?_|refine ry [] c0 fun nu _ _=>?_);simp -dsimp (disch:=omega) only[go_sem,sw, ot, s8, s8q, o8, o8q, i5, ps_under n8q n8, ps_in hqo])|refine e0 (by decide) ?_|(refine zA ?_ ?_;omega)|refine zA (of_eq_true PutAt_put) ?_|refine zA (show PutSome _ _ by simp only[PutSome_self,PutSome_put,PutSome_same,sw, ot, s8, s8q, o8, o8q, i5, ps_under n8q n8, ps_in hqo]) ?_|refine gT ?_|refine gF ?_|(refine gI (fun h=>?_) (fun h=>?_)<;>(try contradiction)<;>(try refine rd ?_)<;>(try simp -dsimp (disch:=omega) only[go_sem,h,sw, ot, s8, s8q, o8, o8q, i5, ps_under n8q n8, ps_in hqo]))|refine zX _ (zX _ (zA (zA rfl rfl) ?_)) |refine uw (hpt2 _) ?_ |fail
          refine ⟨⟨f, p7, .tip (nu 8), [] ++ [.agg [.int .i64 na, .int .i64 nz]], τ.put (nu 8) (.tip ([] ++ [AV.agg [.int .i64 na, .int .i64 nz]]).length 265 2)⟩, by simp, ⟨hl7, rfl, by simp at i3 ⊢; omega, fun h0 => by have := hgo h0; simp only; omega, by simp only [rowsOk_append, i5]; rfl, keep_new i6 (none_of i6 e8), .inr (.inr ⟨(nu 8), rfl, put_same _ _ _, n8q, n8, none_of i6 e8⟩)⟩, Env.Sub_of_has (by simp [Env.Has, Env.get]), by simp only [pO, List.nil_append]; exact Store.Sub.refl _⟩
        · have st := put_swap hto
          have stq := put_swap htq
          have ott := put_oth hto
          have otq := put_oth htq
          simp -dsimp (disch:=omega) only[go_sem,sw, ot, st, stq, ott, otq, ht, i5, ps_under htq hto, ps_in hqo]
          repeat' first |refine s1 ?_|refine gS ?_|refine wT rfl ?_|refine wF rfl ?_|refine wt rfl ?_|refine wf rfl ?_|(refine wC rfl (fun h=>?_) (fun h=>?_)<;>(try contradiction))|((first|refine rd ?_|refine ry [] c0 fun nu _ _=>?_);simp -dsimp (disch:=omega) only[go_sem,sw, ot, st, stq, ott, otq, ht, i5, ps_under htq hto, ps_in hqo])|refine e0 (by decide) ?_|(refine zA ?_ ?_;omega)|refine zA (of_eq_true PutAt_put) ?_|refine zA (show PutSome _ _ by simp only[PutSome_self,PutSome_put,PutSome_same,sw, ot, st, stq, ott, otq, ht, i5, ps_under htq hto, ps_in hqo]) ?_|refine gT ?_|refine gF ?_|(refine gI (fun h=>?_) (fun h=>?_)<;>(try contradiction)<;>(try refine rd ?_)<;>(try simp -dsimp (disch:=omega) only[go_sem,h,sw, ot, st, stq, ott, otq, ht, i5, ps_under htq hto, ps_in hqo]))|refine zX _ (zX _ (zA (zA rfl rfl) ?_)) |refine uw (hpt2 _) ?_ |fail
          refine ⟨⟨f, p7, .tip t, rows ++ [.agg [.int .i64 na, .int .i64 nz]], τ.put t (.tip (rows ++ [AV.agg [.int .i64 na, .int .i64 nz]]).length 265 2)⟩, by simp, ⟨hl7, rfl, by simp at i3 ⊢; omega, fun h0 => by have := hgo h0; simp only; omega, by simp only [rowsOk_append, i5]; rfl, keep_new i6 hts, .inr (.inr ⟨t, rfl, put_same _ _ _, htq, hto, hts⟩)⟩, Env.Sub_of_has (by simp [Env.Has, Env.get]), by simp only [pO, List.nil_append]; exact Store.Sub.refl _⟩
    · have hz : setB (B s) fuel ⟨at5, r5⟩ = ⟨at5, r5⟩ := by
        cases fuel with
        | zero => rfl
        | succ n => rw [setB, if_neg he]
      rw [hz]
      simp only [nodeO] at fin ⊢
      repeat' first |refine s1 ?_|refine gS ?_|refine wT rfl ?_|refine wF rfl ?_|refine wt rfl ?_|refine wf rfl ?_|(refine wC rfl (fun h=>?_) (fun h=>?_)<;>(try contradiction))|((first|refine rd ?_|refine ry [] c0 fun nu _ _=>?_);simp -dsimp (disch:=omega) only[go_sem,he])|refine e0 (by decide) ?_|(refine zA ?_ ?_;omega)|refine zA (of_eq_true PutAt_put) ?_|refine gT ?_|refine gF ?_|(refine gI (fun h=>?_) (fun h=>?_)<;>(try contradiction)<;>(try refine rd ?_)<;>(try simp -dsimp (disch:=omega) only[go_sem,h,he]))|refine zX _ (zX _ (zA (zA rfl rfl) ?_)) |fail
      exact fin _
  | false =>
  cases b3 with
  | true =>
    simp only [Bool.false_eq_true, if_false, if_true]
    have h4 := hch p3 hl3 o
    have hd : (8 - (n : Int) + 1) = 9 - n := by omega
    obtain ⟨q, hq⟩ : ∃ q, choiceB (B s) n p3 = q := ⟨_, rfl⟩
    have hlq : q.at_ ≤ (B s).length := by rw [← hq]; exact (choice_mono (B s) n).len p3 hl3
    have h5 := take_spec s hs q hlq 41 o
    obtain ⟨b4, p4, hp4⟩ : ∃ b4 p4, takeB (B s) 41 q = (b4, p4) := ⟨_, _, rfl⟩
    have h6 : ∀ σ : Store, PCall Tryz.prog 166 [.ptr o 0 0, .int .i64 4] (σ.put o (pO s p4)) (fun r t => r = .tup [] ∧ t = σ.put o (pO s (failB 4 p4))) := fun σ => fail_spec s p4 4 o σ
    simp only [hq, hp4] at h4 h5 ⊢
    obtain ⟨qa, qe⟩ := q
    by_cases hqe : qe = 0
    · subst hqe
      cases b4 with
      | true =>
        simp only [if_true]
        refine PCall_w [.tmp 4] 73 Tryz.func206 (by rfl) rfl rfl rfl rfl ?_
        repeat' first |refine s1 ?_|refine gS ?_|refine wT rfl ?_|refine wF rfl ?_|refine wt rfl ?_|refine wf rfl ?_|(refine wC rfl (fun h=>?_) (fun h=>?_)<;>(try contradiction))|((first|refine rd ?_|refine ry [] c0 fun nu _ _=>?_);simp -dsimp (disch:=omega) only[go_sem,hd])|refine e0 (by decide) ?_|(refine zA ?_ ?_;omega)|refine zA (of_eq_true PutAt_put) ?_|refine gT ?_|refine gF ?_|(refine gI (fun h=>?_) (fun h=>?_)<;>(try contradiction)<;>(try refine rd ?_)<;>(try simp -dsimp (disch:=omega) only[go_sem,h,hd]))|refine zX _ (zX _ (zA (zA rfl rfl) ?_)) |refine uw (h1 _) ?_ |refine uw (h2 _) ?_ |refine uw (h3 _) ?_ |refine uw (h4 _) ?_ |refine uw (h5 _) ?_ |refine uw (h6 _) ?_ |fail
      | false =>
        simp only [if_true, Bool.false_eq_true, if_false]
        refine PCall_w [.tmp 4] 73 Tryz.func206 (by rfl) rfl rfl rfl rfl ?_
        repeat' first |refine s1 ?_|refine gS ?_|refine wT rfl ?_|refine wF rfl ?_|refine wt rfl ?_|refine wf rfl ?_|(refine wC rfl (fun h=>?_) (fun h=>?_)<;>(try contradiction))|((first|refine rd ?_|refine ry [] c0 fun nu _ _=>?_);simp -dsimp (disch:=omega) only[go_sem,hd])|refine e0 (by decide) ?_|(refine zA ?_ ?_;omega)|refine zA (of_eq_true PutAt_put) ?_|refine gT ?_|refine gF ?_|(refine gI (fun h=>?_) (fun h=>?_)<;>(try contradiction)<;>(try refine rd ?_)<;>(try simp -dsimp (disch:=omega) only[go_sem,h,hd]))|refine zX _ (zX _ (zA (zA rfl rfl) ?_)) |refine uw (h1 _) ?_ |refine uw (h2 _) ?_ |refine uw (h3 _) ?_ |refine uw (h4 _) ?_ |refine uw (h5 _) ?_ |refine uw (h6 _) ?_ |fail
    · simp only [if_neg hqe]
      refine PCall_w [.tmp 4] 73 Tryz.func206 (by rfl) rfl rfl rfl rfl ?_
      repeat' first |refine s1 ?_|refine gS ?_|refine wT rfl ?_|refine wF rfl ?_|refine wt rfl ?_|refine wf rfl ?_|(refine wC rfl (fun h=>?_) (fun h=>?_)<;>(try contradiction))|((first|refine rd ?_|refine ry [] c0 fun nu _ _=>?_);simp -dsimp (disch:=omega) only[go_sem,hqe, hd])|refine e0 (by decide) ?_|(refine zA ?_ ?_;omega)|refine zA (of_eq_true PutAt_put) ?_|refine gT ?_|refine gF ?_|(refine gI (fun h=>?_) (fun h=>?_)<;>(try contradiction)<;>(try refine rd ?_)<;>(try simp -dsimp (disch:=omega) only[go_sem,h,hqe, hd]))|refine zX _ (zX _ (zA (zA rfl rfl) ?_)) |refine uw (h1 _) ?_ |refine uw (h2 _) ?_ |refine uw (h3 _) ?_ |refine uw (h4 _) ?_ |refine uw (h5 _) ?_ |refine uw (h6 _) ?_ |fail
  | false =>
    simp only [Bool.false_eq_true, if_false]
    have h4 := number_spec s hs p3 hl3 o
    obtain ⟨a, q, hq⟩ : ∃ a q, numberB (B s) p3 = (a, q) := ⟨_, _, rfl⟩
    simp only [hq] at h4 ⊢
    refine PCall_w [.tmp 4] 73 Tryz.func206 (by rfl) rfl rfl rfl rfl ?_
    repeat' first |refine s1 ?_|refine gS ?_|refine wT rfl ?_|refine wF rfl ?_|refine wt rfl ?_|refine wf rfl ?_|(refine wC rfl (fun h=>?_) (fun h=>?_)<;>(try contradiction))|((first|refine rd ?_|refine ry [] c0 fun nu _ _=>?_);simp -dsimp (disch:=omega) only[go_sem])|refine e0 (by decide) ?_|(refine zA ?_ ?_;omega)|refine zA (of_eq_true PutAt_put) ?_|refine gT ?_|refine gF ?_|(refine gI (fun h=>?_) (fun h=>?_)<;>(try contradiction)<;>(try refine rd ?_)<;>(try simp -dsimp (disch:=omega) only[go_sem,h]))|refine zX _ (zX _ (zA (zA rfl rfl) ?_)) |refine uw (h1 _) ?_ |refine uw (h2 _) ?_ |refine uw (h3 _) ?_ |refine uw (h4 _) ?_ |fail
end
end Go.Proofs.YtaealcimocpnnaaGreat

namespace Go.Proofs.YtaealcimocpnnaaGreat
open Go.Kern Go.RowKit
theorem put_mono {σ τ : Store} (h : σ.Sub τ) (o : Nat) (x : Ob) : (σ.put o x).Sub (τ.put o x) := fun c y hy => by
  simp only [Store.put] at hy ⊢
  split
  · rename_i e; rw [if_pos e] at hy; exact hy
  · rename_i e; rw [if_neg e] at hy; exact h _ _ hy
theorem sub_drop_put {σ : Store} {o : Nat} (h : σ o = none) (x : Ob) : σ.Sub ((σ.put o x).drop o) := fun c y hy => by
  simp only [Store.drop, Store.put]
  split
  · rename_i e; rw [e, h] at hy; cases hy
  · exact hy
def eSl (p : SK × List ByteArray) : AV := .sl p.1 (encL AV.str p.2)
instance : Inhabited (SK × List ByteArray) := ⟨(.nil, [])⟩
def kd (l : List ByteArray) : SK := if l = [] then .nil else .imm
def catL (l : List (SK × List ByteArray)) : List ByteArray := l.flatMap (·.2)
theorem catL_succ {l : List (SK × List ByteArray)} {i : Nat} (h : i < l.length) : catL (l.take (i + 1)) = catL (l.take i) ++ (l.getD i default).2 := by
  rw [List.take_succ_eq_append_getElem h, catL, List.flatMap_append]
  simp [catL, List.getD_eq_getElem?_getD, h]
theorem catL_le {l : List (SK × List ByteArray)} {i : Nat} (h : i < l.length) : (catL (l.take i)).length + (l.getD i default).2.length ≤ (catL l).length := by
  have h1 := catL_succ h
  have h2 : catL l = catL (l.take (i + 1)) ++ catL (l.drop (i + 1)) := by rw [catL, catL, catL, ← List.flatMap_append, List.take_append_drop]
  rw [h2, h1]; simp
set_option maxRecDepth 100000
set_option maxHeartbeats 4000000
attribute [local irreducible] PCall W
theorem grow_spec (n : Nat) (hn : n ≤ 1000000) (σ : Store) : PCall Tryz.prog 101 [.sl .nil [], .int .i64 n] σ (fun r t => (n = 0 ∧ r = .sl .nil [] ∧ t = σ) ∨ (∃ o rows, 0 < n ∧ σ o = none ∧ r = .ms o 1 0 0 ∧ t = σ.put o (.arr 9 rows))) := by
  by_cases h0 : n = 0
  · subst h0
    refine PCall_w [.tmp 4] 27 Tryz.func101 (by rfl) rfl rfl rfl rfl ?_
    repeat' first |refine s1 ?_|refine gS ?_|refine wT rfl ?_|refine wF rfl ?_|refine wt rfl ?_|refine wf rfl ?_|(refine wC rfl (fun h=>?_) (fun h=>?_)<;>(try contradiction))|((first|refine rd ?_|refine ry [] c0 fun nu _ _=>?_);simp -dsimp (disch:=omega) only[go_sem])|refine e0 (by decide) ?_|(refine zA ?_ ?_;omega)|refine zA (of_eq_true PutAt_put) ?_|refine gT ?_|refine gF ?_|(refine gI (fun h=>?_) (fun h=>?_)<;>(try contradiction)<;>(try refine rd ?_)<;>(try simp -dsimp (disch:=omega) only[go_sem,h]))|refine zX _ (zX _ (zA (zA rfl rfl) ?_)) |fail
    exact ⟨σ, Store.Sub.refl _, .inl rfl⟩
  · have hpos : 0 < n := by omega
    refine PCall_w [.tmp 4] 27 Tryz.func101 (by rfl) rfl rfl rfl rfl ?_
    repeat' first |refine s1 ?_|refine gS ?_|refine wT rfl ?_|refine wF rfl ?_|refine wt rfl ?_|refine wf rfl ?_|(refine wC rfl (fun h=>?_) (fun h=>?_)<;>(try contradiction))|((first|refine rd ?_|refine ry [] c0 fun nu _ _=>?_);simp -dsimp (disch:=omega) only[go_sem])|refine e0 (by decide) ?_|(refine zA ?_ ?_;omega)|refine zA (of_eq_true PutAt_put) ?_|refine gT ?_|refine gF ?_|(refine gI (fun h=>?_) (fun h=>?_)<;>(try contradiction)<;>(try refine rd ?_)<;>(try simp -dsimp (disch:=omega) only[go_sem,h]))|refine zX _ (zX _ (zA (zA rfl rfl) ?_)) |fail
    intro o ho
    repeat' first |refine s1 ?_|refine gS ?_|refine wT rfl ?_|refine wF rfl ?_|refine wt rfl ?_|refine wf rfl ?_|(refine wC rfl (fun h=>?_) (fun h=>?_)<;>(try contradiction))|((first|refine rd ?_|refine ry [] c0 fun nu _ _=>?_);simp -dsimp (disch:=omega) only[go_sem])|refine e0 (by decide) ?_|(refine zA ?_ ?_;omega)|refine zA (of_eq_true PutAt_put) ?_|refine gT ?_|refine gF ?_|(refine gI (fun h=>?_) (fun h=>?_)<;>(try contradiction)<;>(try refine rd ?_)<;>(try simp -dsimp (disch:=omega) only[go_sem,h]))|refine zX _ (zX _ (zA (zA rfl rfl) ?_)) |fail
    exact ⟨_, Store.Sub.refl _, .inr ⟨o, _, ho, rfl, rfl⟩⟩
def ccV (st : Option (Nat × List AV)) (m : Nat) : AV :=
  match st with
  | none => .sl .nil []
  | some (o, _) => .ms o 1 0 m
def ccS (σ : Store) (st : Option (Nat × List AV)) : Store :=
  match st with
  | none => σ
  | some (o, rows) => σ.put o (.arr 9 rows)
def ccI (σ : Store) (st : Option (Nat × List AV)) (all pre : List ByteArray) : Prop :=
  match st with
  | none => all = []
  | some (o, rows) => σ o = none ∧ pre.length ≤ rows.length ∧ rows.take pre.length = encL AV.str pre ∧ all ≠ []
theorem concat_spec (k : SK) (l : List (SK × List ByteArray)) (hl : l.length ≤ 1000) (hall : (catL l).length ≤ 1000000) (σ : Store) :
    PCall Tryz.prog 46 [.sl k (encL eSl l)] σ (fun r t => r = .sl (kd (catL l)) (encL AV.str (catL l)) ∧ t = σ) := by
  suffices h : PCall Tryz.prog 46 [.sl k (encL eSl l)] σ (fun r t => ∃ st, r = ccV st (catL l).length ∧ t = ccS σ st ∧ ccI σ st (catL l) (catL l)) by
    refine PCall_fin h ?_
    rintro r t ⟨st, rfl, rfl, hi⟩
    cases st with
    | none =>
      have hi : catL l = [] := hi
      exact .as ⟨σ, Store.Sub.refl _, by rw [hi]; rfl, rfl⟩
    | some p =>
      obtain ⟨o, rows⟩ := p
      obtain ⟨i1, i2, i3, i4⟩ := hi
      refine .frz o 1 (catL l).length 9 rows rfl (put_same _ _ _) i2 ⟨σ, sub_drop_put i1 _, ?_, rfl⟩
      rw [i3, kd, if_neg i4]
  refine PCall_w [.tmp 2] 36 Tryz.func46 (by rfl) rfl rfl rfl rfl ?_
  repeat' first |((fail_if_success (first|show W _ _ (Code.seq (Code.region 2 _ _) _) _ _ _|show W _ _ (Code.seq (Code.seq (Code.region 2 _ _) _) _) _ _ _));refine s1 ?_)|refine gS ?_|refine wT rfl ?_|refine wF rfl ?_|refine wt rfl ?_|refine wf rfl ?_|(refine wC rfl (fun h=>?_) (fun h=>?_)<;>(try contradiction))|((fail_if_success (first|show W _ _ (Code.region 2 _ _) _ _ _));(first|refine rd ?_|refine ry [] c0 fun nu _ _=>?_);simp -dsimp (disch:=omega) only[go_sem])|refine e0 (by decide) ?_|(refine zA ?_ ?_;omega)|refine zA (of_eq_true PutAt_put) ?_|refine gT ?_|refine gF ?_|(refine gI (fun h=>?_) (fun h=>?_)<;>(try contradiction)<;>(try refine rd ?_)<;>(try simp -dsimp (disch:=omega) only[go_sem,h]))|refine zX _ (zX _ (zA (zA rfl rfl) ?_)) |fail
  refine W_mid [(0, .sl k (encL eSl l)), (3, .int .i64 (catL l).length)] σ ?_ ?_
  · skip
    repeat' first |refine s1 ?_|refine gS ?_|refine wT rfl ?_|refine wF rfl ?_|refine wt rfl ?_|refine wf rfl ?_|(refine wC rfl (fun h=>?_) (fun h=>?_)<;>(try contradiction))|((first|refine rd ?_|refine ry [] c0 fun nu _ _=>?_);simp -dsimp (disch:=omega) only[go_sem])|refine e0 (by decide) ?_|(refine zA ?_ ?_;omega)|refine zA (of_eq_true PutAt_put) ?_|refine gT ?_|refine gF ?_|(refine gI (fun h=>?_) (fun h=>?_)<;>(try contradiction)<;>(try refine rd ?_)<;>(try simp -dsimp (disch:=omega) only[go_sem,h]))|refine zX _ (zX _ (zA (zA rfl rfl) ?_)) |fail
    refine W_loop_st (fun i : Nat => [(0, .sl k (encL eSl l)), (3, .int .i64 (catL (l.take i)).length), (9, .sl k (encL eSl l)), (10, .int .i64 l.length), (11, .int .i64 i)]) (fun _ => σ) (fun i => i ≤ l.length) (fun i => l.length - i) 0 (Nat.zero_le _) (Env.Sub_of_has (by simp [Env.Has, Env.get, Env.putO, catL])) (Store.Sub.refl _) ?_
    intro i hi
    by_cases hlt : i < l.length
    · have h1 := catL_succ hlt
      have h2 := catL_le hlt
      have h3 : (catL (l.take (i + 1))).length = (catL (l.take i)).length + (l.getD i default).2.length := by rw [h1, List.length_append]
      have h4 : (encL AV.str (l.getD i default).2).length = (l.getD i default).2.length := length_encL _ _
      repeat' first |refine s1 ?_|refine gS ?_|refine wT rfl ?_|refine wF rfl ?_|refine wt rfl ?_|refine wf rfl ?_|(refine wC rfl (fun h=>?_) (fun h=>?_)<;>(try contradiction))|((first|refine rd ?_|refine ry [] c0 fun nu _ _=>?_);simp -dsimp (disch:=omega) only[go_sem,eSl, h4])|refine e0 (by decide) ?_|(refine zA ?_ ?_;omega)|refine zA (of_eq_true PutAt_put) ?_|refine gT ?_|refine gF ?_|(refine gI (fun h=>?_) (fun h=>?_)<;>(try contradiction)<;>(try refine rd ?_)<;>(try simp -dsimp (disch:=omega) only[go_sem,h,eSl, h4]))|refine zX _ (zX _ (zA (zA rfl rfl) ?_)) |fail
      exact ⟨i + 1, by omega, (by omega), Env.Sub_of_has (by simp [Env.Has, Env.get, Env.putO, h3]), Store.Sub.refl _⟩
    · have hi' : i = l.length := by omega
      subst hi'
      repeat' first |refine s1 ?_|refine gS ?_|refine wT rfl ?_|refine wF rfl ?_|refine wt rfl ?_|refine wf rfl ?_|(refine wC rfl (fun h=>?_) (fun h=>?_)<;>(try contradiction))|((first|refine rd ?_|refine ry [] c0 fun nu _ _=>?_);simp -dsimp (disch:=omega) only[go_sem])|refine e0 (by decide) ?_|(refine zA ?_ ?_;omega)|refine zA (of_eq_true PutAt_put) ?_|refine gT ?_|refine gF ?_|(refine gI (fun h=>?_) (fun h=>?_)<;>(try contradiction)<;>(try refine rd ?_)<;>(try simp -dsimp (disch:=omega) only[go_sem,h]))|refine zX _ (zX _ (zA (zA rfl rfl) ?_)) |fail
      exact ⟨Env.Sub_of_has (by simp [Env.Has, Env.get, Env.putO]), Store.Sub.refl _⟩
  have hg := grow_spec (catL l).length hall σ
  repeat' first |((fail_if_success (first|show W _ _ (Code.seq (Code.region 10 _ _) _) _ _ _|show W _ _ (Code.seq (Code.seq (Code.region 10 _ _) _) _) _ _ _));refine s1 ?_)|refine gS ?_|refine wT rfl ?_|refine wF rfl ?_|refine wt rfl ?_|refine wf rfl ?_|(refine wC rfl (fun h=>?_) (fun h=>?_)<;>(try contradiction))|((fail_if_success (first|show W _ _ (Code.region 10 _ _) _ _ _));(first|refine rd ?_|refine ry [] c0 fun nu _ _=>?_);simp -dsimp (disch:=omega) only[go_sem])|refine e0 (by decide) ?_|(refine zA ?_ ?_;omega)|refine zA (of_eq_true PutAt_put) ?_|refine gT ?_|refine gF ?_|(refine gI (fun h=>?_) (fun h=>?_)<;>(try contradiction)<;>(try refine rd ?_)<;>(try simp -dsimp (disch:=omega) only[go_sem,h]))|refine zX _ (zX _ (zA (zA rfl rfl) ?_)) |fail
  refine PCall_use hg ?_
  rintro r t hrt
  obtain ⟨st, rfl, rfl, hi⟩ : ∃ st, r = ccV st 0 ∧ t = ccS σ st ∧ ccI σ st (catL l) [] := by
    rcases hrt with ⟨h0, rfl, rfl⟩ | ⟨o, rows, hps, ho, rfl, rfl⟩
    · exact ⟨none, rfl, rfl, List.eq_nil_of_length_eq_zero h0⟩
    · exact ⟨some (o, rows), rfl, rfl, ho, by simp, rfl, fun e => by rw [e] at hps; simp at hps⟩
  repeat' first |refine s1 ?_|refine gS ?_|refine wT rfl ?_|refine wF rfl ?_|refine wt rfl ?_|refine wf rfl ?_|(refine wC rfl (fun h=>?_) (fun h=>?_)<;>(try contradiction))|((first|refine rd ?_|refine ry [] c0 fun nu _ _=>?_);simp -dsimp (disch:=omega) only[go_sem])|refine e0 (by decide) ?_|(refine zA ?_ ?_;omega)|refine zA (of_eq_true PutAt_put) ?_|refine gT ?_|refine gF ?_|(refine gI (fun h=>?_) (fun h=>?_)<;>(try contradiction)<;>(try refine rd ?_)<;>(try simp -dsimp (disch:=omega) only[go_sem,h]))|refine zX _ (zX _ (zA (zA rfl rfl) ?_)) |fail
  refine W_loop_st (fun x : Nat × Option (Nat × List AV) => [(6, ccV x.2 (catL (l.take x.1)).length), (25, .sl k (encL eSl l)), (26, .int .i64 l.length), (27, .int .i64 x.1)]) (fun x => ccS σ x.2) (fun x => x.1 ≤ l.length ∧ ccI σ x.2 (catL l) (catL (l.take x.1))) (fun x => l.length - x.1) (0, st) ⟨Nat.zero_le _, hi⟩ (Env.Sub_of_has (by simp [Env.Has, Env.get, Env.putO, catL])) (Store.Sub.refl _) ?_
  clear hi hg hrt st
  rintro ⟨i, st⟩ ⟨hil, hi⟩
  simp only at hil hi ⊢
  by_cases hlt : i < l.length
  · have h1 := catL_succ hlt
    have h2 := catL_le hlt
    obtain ⟨p, hp⟩ : ∃ p, l.getD i default = p := ⟨_, rfl⟩
    have hget : (encL eSl l).getD i .any = eSl p := by rw [← hp]; exact getD_encL eSl hlt
    rw [hp] at h1 h2
    obtain ⟨kd, L⟩ := p
    simp only at h1 h2
    have hnil : encL AV.str ([] : List ByteArray) = [] := rfl
    have hLl : (encL AV.str L).length = L.length := length_encL _ _
    have hLok : rowsOk 1 (encL AV.str L) = true := ok_encL 1 AV.str (fun _ => rfl) _
    cases st with
    | none =>
      have hi : catL l = [] := hi
      have hL : L = [] := by
        rw [hi] at h2
        simp at h2
        exact h2.2
      subst hL
      simp only [ccV, ccS]
      repeat' first |refine s1 ?_|refine gS ?_|refine wT rfl ?_|refine wF rfl ?_|refine wt rfl ?_|refine wf rfl ?_|(refine wC rfl (fun h=>?_) (fun h=>?_)<;>(try contradiction))|((first|refine rd ?_|refine ry [] c0 fun nu _ _=>?_);simp -dsimp (disch:=omega) only[go_sem,hget, eSl, hnil])|refine e0 (by decide) ?_|(refine zA ?_ ?_;omega)|refine zA (of_eq_true PutAt_put) ?_|refine gT ?_|refine gF ?_|(refine gI (fun h=>?_) (fun h=>?_)<;>(try contradiction)<;>(try refine rd ?_)<;>(try simp -dsimp (disch:=omega) only[go_sem,h,hget, eSl, hnil]))|refine zX _ (zX _ (zA (zA rfl rfl) ?_)) |fail
      exact ⟨(i + 1, none), by simp only; omega, ⟨by simp only; omega, hi⟩, Env.Sub_of_has (by simp [Env.Has, Env.get, Env.putO, ccV]), Store.Sub.refl _⟩
    | some q =>
      obtain ⟨o, rows⟩ := q
      obtain ⟨i1, i2, i3, i4⟩ := hi
      simp only [ccV, ccS]
      by_cases hL : L = []
      · subst hL
        have h3 : catL (l.take (i + 1)) = catL (l.take i) := by rw [h1, List.append_nil]
        repeat' first |refine s1 ?_|refine gS ?_|refine wT rfl ?_|refine wF rfl ?_|refine wt rfl ?_|refine wf rfl ?_|(refine wC rfl (fun h=>?_) (fun h=>?_)<;>(try contradiction))|((first|refine rd ?_|refine ry [] c0 fun nu _ _=>?_);simp -dsimp (disch:=omega) only[go_sem,hget, eSl, hnil])|refine e0 (by decide) ?_|(refine zA ?_ ?_;omega)|refine zA (of_eq_true PutAt_put) ?_|refine gT ?_|refine gF ?_|(refine gI (fun h=>?_) (fun h=>?_)<;>(try contradiction)<;>(try refine rd ?_)<;>(try simp -dsimp (disch:=omega) only[go_sem,h,hget, eSl, hnil]))|refine zX _ (zX _ (zA (zA rfl rfl) ?_)) |fail
        exact ⟨(i + 1, some (o, rows)), by simp only; omega, ⟨by simp only; omega, by simp only; rw [h3]; exact ⟨i1, i2, i3, i4⟩⟩, Env.Sub_of_has (by simp [Env.Has, Env.get, Env.putO, ccV, h3]), Store.Sub.refl _⟩
      · have hLe : (encL AV.str L = []) = False := by rw [nil_encL]; exact eq_false hL
        have h3 : (catL (l.take (i + 1))).length = (catL (l.take i)).length + L.length := by rw [h1, List.length_append]
        repeat' first |refine s1 ?_|refine gS ?_|refine wT rfl ?_|refine wF rfl ?_|refine wt rfl ?_|refine wf rfl ?_|(refine wC rfl (fun h=>?_) (fun h=>?_)<;>(try contradiction))|((first|refine rd ?_|refine ry [] c0 fun nu _ _=>?_);simp -dsimp (disch:=omega) only[go_sem,hget, eSl, hLl, hLok, hLe])|refine e0 (by decide) ?_|(refine zA ?_ ?_;omega)|refine zA (of_eq_true PutAt_put) ?_|refine gT ?_|refine gF ?_|(refine gI (fun h=>?_) (fun h=>?_)<;>(try contradiction)<;>(try refine rd ?_)<;>(try simp -dsimp (disch:=omega) only[go_sem,h,hget, eSl, hLl, hLok, hLe]))|refine zX _ (zX _ (zA (zA rfl rfl) ?_)) |fail
        intro o2 ho2
        have hne := alloc_ne ho2
        rw [put_oth hne] at ho2
        repeat' first |refine s1 ?_|refine gS ?_|refine wT rfl ?_|refine wF rfl ?_|refine wt rfl ?_|refine wf rfl ?_|(refine wC rfl (fun h=>?_) (fun h=>?_)<;>(try contradiction))|((first|refine rd ?_|refine ry [] c0 fun nu _ _=>?_);simp -dsimp (disch:=omega) only[go_sem])|refine e0 (by decide) ?_|(refine zA ?_ ?_;omega)|refine zA (of_eq_true PutAt_put) ?_|refine gT ?_|refine gF ?_|(refine gI (fun h=>?_) (fun h=>?_)<;>(try contradiction)<;>(try refine rd ?_)<;>(try simp -dsimp (disch:=omega) only[go_sem,h]))|refine zX _ (zX _ (zA (zA rfl rfl) ?_)) |fail
        refine ⟨(i + 1, some (o2, rows.take (catL (l.take i)).length ++ encL AV.str L)), by simp only; omega, ⟨by simp only; omega, ho2, ?_, ?_, i4⟩, Env.Sub_of_has (by simp [Env.Has, Env.get, Env.putO, ccV, h3]), put_mono (sub_drop_put i1 _) _ _⟩
        · simp only; rw [h3, List.length_append, List.length_take, hLl]; omega
        · simp only; rw [h1, i3, ← app_encL, List.take_of_length_le (by simp [length_encL])]
  · have hi' : i = l.length := by omega
    subst hi'
    rw [List.take_length] at hi ⊢
    repeat' first |refine s1 ?_|refine gS ?_|refine wT rfl ?_|refine wF rfl ?_|refine wt rfl ?_|refine wf rfl ?_|(refine wC rfl (fun h=>?_) (fun h=>?_)<;>(try contradiction))|((first|refine rd ?_|refine ry [] c0 fun nu _ _=>?_);simp -dsimp (disch:=omega) only[go_sem])|refine e0 (by decide) ?_|(refine zA ?_ ?_;omega)|refine zA (of_eq_true PutAt_put) ?_|refine gT ?_|refine gF ?_|(refine gI (fun h=>?_) (fun h=>?_)<;>(try contradiction)<;>(try refine rd ?_)<;>(try simp -dsimp (disch:=omega) only[go_sem,h]))|refine zX _ (zX _ (zA (zA rfl rfl) ?_)) |fail
    exact ⟨_, Store.Sub.refl _, st, rfl, rfl, hi⟩
theorem first_spec (k : SK) (l : List ByteArray) (hl : l.length ≤ 1000) (s : ByteArray) : Pure Tryz.prog 14 [.sl k (encL AV.str l), .str s] (.int .i64 (idxS (fun (_ : Unit) x => (decide (x = s), ())) () 0 l).1) := by
  intro σ
  refine PCall_q [.tmp 4] 19 Tryz.func14 (by rfl) rfl rfl rfl rfl ?_
  repeat' first |refine s1 ?_|refine gS ?_|refine wT rfl ?_|refine wF rfl ?_|refine wt rfl ?_|refine wf rfl ?_|(refine wC rfl (fun h=>?_) (fun h=>?_)<;>(try contradiction))|((first|refine rd ?_|refine ry [] c0 fun nu _ _=>?_);simp -dsimp (disch:=omega) only[go_sem])|refine e0 (by decide) ?_|(refine zA ?_ ?_;omega)|refine zA (of_eq_true PutAt_put) ?_|refine gT ?_|refine gF ?_|(refine gI (fun h=>?_) (fun h=>?_)<;>(try contradiction)<;>(try refine rd ?_)<;>(try simp -dsimp (disch:=omega) only[go_sem,h]))|refine zX _ (zX _ (zA (zA rfl rfl) ?_)) |fail
  refine W_loop_st (fun i : Nat => [(0, .sl k (encL AV.str l)), (1, .str s), (5, .int .i64 i)]) (fun _ => σ) (fun i => i ≤ l.length ∧ (idxS (fun (_ : Unit) x => (decide (x = s), ())) () 0 l).1 = (idxS (fun (_ : Unit) x => (decide (x = s), ())) () i (l.drop i)).1) (fun i => l.length - i) 0 ⟨Nat.zero_le _, rfl⟩ (Env.Sub_of_has (by simp [Env.Has, Env.get, Env.putO])) (Store.Sub.refl _) ?_
  rintro i ⟨hi, hor⟩
  by_cases hlt : i < l.length
  · have ho := idxS_drop (fun (_ : Unit) x => (decide (x = s), ())) () l i hlt i
    have hg : (encL AV.str l).getD i .any = .str (l.getD i default) := getD_encL AV.str hlt
    rw [ho] at hor
    by_cases he : l.getD i default = s
    · rw [if_pos (decide_eq_true he)] at hor
      rw [hor]
      repeat' first |refine s1 ?_|refine gS ?_|refine wT rfl ?_|refine wF rfl ?_|refine wt rfl ?_|refine wf rfl ?_|(refine wC rfl (fun h=>?_) (fun h=>?_)<;>(try contradiction))|((first|refine rd ?_|refine ry [] c0 fun nu _ _=>?_);simp -dsimp (disch:=omega) only[go_sem,hg, he])|refine e0 (by decide) ?_|(refine zA ?_ ?_;omega)|refine zA (of_eq_true PutAt_put) ?_|refine gT ?_|refine gF ?_|(refine gI (fun h=>?_) (fun h=>?_)<;>(try contradiction)<;>(try refine rd ?_)<;>(try simp -dsimp (disch:=omega) only[go_sem,h,hg, he]))|refine zX _ (zX _ (zA (zA rfl rfl) ?_)) |fail
    · rw [if_neg (by simpa using he)] at hor
      repeat' first |refine s1 ?_|refine gS ?_|refine wT rfl ?_|refine wF rfl ?_|refine wt rfl ?_|refine wf rfl ?_|(refine wC rfl (fun h=>?_) (fun h=>?_)<;>(try contradiction))|((first|refine rd ?_|refine ry [] c0 fun nu _ _=>?_);simp -dsimp (disch:=omega) only[go_sem,hg, he])|refine e0 (by decide) ?_|(refine zA ?_ ?_;omega)|refine zA (of_eq_true PutAt_put) ?_|refine gT ?_|refine gF ?_|(refine gI (fun h=>?_) (fun h=>?_)<;>(try contradiction)<;>(try refine rd ?_)<;>(try simp -dsimp (disch:=omega) only[go_sem,h,hg, he]))|refine zX _ (zX _ (zA (zA rfl rfl) ?_)) |fail
      exact ⟨i + 1, by omega, ⟨by omega, hor⟩, Env.Sub_of_has (by simp [Env.Has, Env.get, Env.putO]), Store.Sub.refl _⟩
  · have hi' : i = l.length := by omega
    subst hi'
    rw [hor, List.drop_length]
    repeat' first |refine s1 ?_|refine gS ?_|refine wT rfl ?_|refine wF rfl ?_|refine wt rfl ?_|refine wf rfl ?_|(refine wC rfl (fun h=>?_) (fun h=>?_)<;>(try contradiction))|((first|refine rd ?_|refine ry [] c0 fun nu _ _=>?_);simp -dsimp (disch:=omega) only[go_sem])|refine e0 (by decide) ?_|(refine zA ?_ ?_;omega)|refine zA (of_eq_true PutAt_put) ?_|refine gT ?_|refine gF ?_|(refine gI (fun h=>?_) (fun h=>?_)<;>(try contradiction)<;>(try refine rd ?_)<;>(try simp -dsimp (disch:=omega) only[go_sem,h]))|refine zX _ (zX _ (zA (zA rfl rfl) ?_)) |fail
    rfl
end Go.Proofs.YtaealcimocpnnaaGreat

namespace Go.Proofs.YtaealcimocpnnaaGreat
open Go.Kern
set_option maxRecDepth 100000
set_option maxHeartbeats 4000000
attribute [local irreducible] PCall W
attribute [local go_sem] pO
theorem begins_spec (c : Int) : Pure Tryz.prog 186 [.int .u8 c] (.bool (beginsZ c)) := by
  intro σ
  refine PCall_q [.tmp 2] 17 Tryz.func186 (by rfl) rfl rfl rfl rfl ?_
  repeat' first |refine s1 ?_|refine gS ?_|refine wT rfl ?_|refine wF rfl ?_|refine wt rfl ?_|refine wf rfl ?_|(refine wC rfl (fun h=>?_) (fun h=>?_)<;>(try contradiction))|((first|refine rd ?_|refine ry [] c0 fun nu _ _=>?_);simp -dsimp (disch:=omega) only[go_sem])|refine e0 (by decide) ?_|(refine zA ?_ ?_;omega)|refine zA (of_eq_true PutAt_put) ?_|refine gT ?_|refine gF ?_|(refine gI (fun h=>?_) (fun h=>?_)<;>(try contradiction)<;>(try refine rd ?_)<;>(try simp -dsimp (disch:=omega) only[go_sem,h]))|refine zX _ (zX _ (zA (zA rfl rfl) ?_)) |refine us (digit_spec c) ?_ |fail
  all_goals (simp only [beginsZ] at *; simp_all)
section
variable (s : ByteArray) (hs : s.size ≤ 1000)
include hs
theorem item_spec (n : Nat) (hn : n ≤ 8) (hch : ChS s n) (p : PS) (hp : p.at_ ≤ (B s).length) (o : Nat) (σ : Store) :
    PCall Tryz.prog 187 [.ptr o 0 0, .int .i64 (8 - n)] (σ.put o (pO s p)) (fun r t => r = gpt ∧ t = σ.put o (pO s (itemB (B s) (choiceB (B s) n) p))) := by
  refine PCall_isP ?_
  have hl := length_B s
  have h0 := atom_spec s hs n hn hch p hp o
  have hl0 := (atom_mono (B s) (choice_mono (B s) n)).len p hp
  obtain ⟨p0, hp0⟩ : ∃ a, atomB (B s) (choiceB (B s) n) p = a := ⟨_, rfl⟩
  rw [hp0] at hl0
  have h1 := take_spec s hs p0 hl0 42 o
  have hl1 := (take_mono (B s) 42).len p0 hl0
  obtain ⟨b1, p1, hp1⟩ : ∃ b1 p1, takeB (B s) 42 p0 = (b1, p1) := ⟨_, _, rfl⟩
  rw [hp1] at hl1
  have h2 := take_spec s hs p1 hl1 43 o
  have hl2 := (take_mono (B s) 43).len p1 hl1
  obtain ⟨b2, p2, hp2⟩ : ∃ b2 p2, takeB (B s) 43 p1 = (b2, p2) := ⟨_, _, rfl⟩
  rw [hp2] at hl2
  have h3 := take_spec s hs p2 hl2 63 o
  obtain ⟨b3, p3, hp3⟩ : ∃ b3 p3, takeB (B s) 63 p2 = (b3, p3) := ⟨_, _, rfl⟩
  simp only [itemB, hp0, hp1, hp2, hp3] at h0 h1 h2 h3 ⊢
  cases b1 with
  | true =>
    simp only [if_true]
    refine PCall_w [.tmp 4] 31 Tryz.func187 (by rfl) rfl rfl rfl rfl ?_
    repeat' first |refine s1 ?_|refine gS ?_|refine wT rfl ?_|refine wF rfl ?_|refine wt rfl ?_|refine wf rfl ?_|(refine wC rfl (fun h=>?_) (fun h=>?_)<;>(try contradiction))|((first|refine rd ?_|refine ry [] c0 fun nu _ _=>?_);simp -dsimp (disch:=omega) only[go_sem])|refine e0 (by decide) ?_|(refine zA ?_ ?_;omega)|refine zA (of_eq_true PutAt_put) ?_|refine gT ?_|refine gF ?_|(refine gI (fun h=>?_) (fun h=>?_)<;>(try contradiction)<;>(try refine rd ?_)<;>(try simp -dsimp (disch:=omega) only[go_sem,h]))|refine zX _ (zX _ (zA (zA rfl rfl) ?_)) |refine uw (h0 _) ?_ |refine uw (h1 _) ?_ |fail
  | false =>
  cases b2 with
  | true =>
    simp only [Bool.false_eq_true, if_false, if_true]
    refine PCall_w [.tmp 4] 31 Tryz.func187 (by rfl) rfl rfl rfl rfl ?_
    repeat' first |refine s1 ?_|refine gS ?_|refine wT rfl ?_|refine wF rfl ?_|refine wt rfl ?_|refine wf rfl ?_|(refine wC rfl (fun h=>?_) (fun h=>?_)<;>(try contradiction))|((first|refine rd ?_|refine ry [] c0 fun nu _ _=>?_);simp -dsimp (disch:=omega) only[go_sem])|refine e0 (by decide) ?_|(refine zA ?_ ?_;omega)|refine zA (of_eq_true PutAt_put) ?_|refine gT ?_|refine gF ?_|(refine gI (fun h=>?_) (fun h=>?_)<;>(try contradiction)<;>(try refine rd ?_)<;>(try simp -dsimp (disch:=omega) only[go_sem,h]))|refine zX _ (zX _ (zA (zA rfl rfl) ?_)) |refine uw (h0 _) ?_ |refine uw (h1 _) ?_ |refine uw (h2 _) ?_ |fail
  | false =>
  simp only [Bool.false_eq_true, if_false]
  cases b3 with
  | true =>
    refine PCall_w [.tmp 4] 31 Tryz.func187 (by rfl) rfl rfl rfl rfl ?_
    repeat' first |refine s1 ?_|refine gS ?_|refine wT rfl ?_|refine wF rfl ?_|refine wt rfl ?_|refine wf rfl ?_|(refine wC rfl (fun h=>?_) (fun h=>?_)<;>(try contradiction))|((first|refine rd ?_|refine ry [] c0 fun nu _ _=>?_);simp -dsimp (disch:=omega) only[go_sem])|refine e0 (by decide) ?_|(refine zA ?_ ?_;omega)|refine zA (of_eq_true PutAt_put) ?_|refine gT ?_|refine gF ?_|(refine gI (fun h=>?_) (fun h=>?_)<;>(try contradiction)<;>(try refine rd ?_)<;>(try simp -dsimp (disch:=omega) only[go_sem,h]))|refine zX _ (zX _ (zA (zA rfl rfl) ?_)) |refine uw (h0 _) ?_ |refine uw (h1 _) ?_ |refine uw (h2 _) ?_ |refine uw (h3 _) ?_ |fail
  | false =>
    refine PCall_w [.tmp 4] 31 Tryz.func187 (by rfl) rfl rfl rfl rfl ?_
    repeat' first |refine s1 ?_|refine gS ?_|refine wT rfl ?_|refine wF rfl ?_|refine wt rfl ?_|refine wf rfl ?_|(refine wC rfl (fun h=>?_) (fun h=>?_)<;>(try contradiction))|((first|refine rd ?_|refine ry [] c0 fun nu _ _=>?_);simp -dsimp (disch:=omega) only[go_sem])|refine e0 (by decide) ?_|(refine zA ?_ ?_;omega)|refine zA (of_eq_true PutAt_put) ?_|refine gT ?_|refine gF ?_|(refine gI (fun h=>?_) (fun h=>?_)<;>(try contradiction)<;>(try refine rd ?_)<;>(try simp -dsimp (disch:=omega) only[go_sem,h]))|refine zX _ (zX _ (zA (zA rfl rfl) ?_)) |refine uw (h0 _) ?_ |refine uw (h1 _) ?_ |refine uw (h2 _) ?_ |refine uw (h3 _) ?_ |fail
end
end Go.Proofs.YtaealcimocpnnaaGreat

namespace Go.Proofs.YtaealcimocpnnaaGreat
open Go.Kern
set_option maxRecDepth 100000
set_option maxHeartbeats 4000000
attribute [local irreducible] PCall W
attribute [local go_sem] pO
theorem Sub_in {σ X : Store} {q o : Nat} {N x : Ob} (h : ∀ c y, σ c = some y → X c = some y) (hq : σ q = none) : Store.Sub (σ.put o x) ((X.put q N).put o x) := fun c y hy => by
  simp only [Store.put] at hy ⊢
  split
  · rename_i e; rw [if_pos e] at hy; exact hy
  · rename_i e; rw [if_neg e] at hy
    split
    · rename_i e2; rw [e2, hq] at hy; cases hy
    · exact h _ _ hy
theorem choice_zero (s : ByteArray) (hs : s.size ≤ 1000) : ChS s 0 := by
  intro p hp o σ
  refine PCall_isP ?_
  have h1 : ∀ σ : Store, PCall Tryz.prog 166 [.ptr o 0 0, .int .i64 2] (σ.put o (pO s p)) (fun r t => r = .tup [] ∧ t = σ.put o (pO s (failB 2 p))) := fun σ => fail_spec s p 2 o σ
  simp only [choiceB]
  refine PCall_w [.tmp 4] 53 Tryz.func164 (by rfl) rfl rfl rfl rfl ?_
  repeat' first |refine s1 ?_|refine gS ?_|refine wT rfl ?_|refine wF rfl ?_|refine wt rfl ?_|refine wf rfl ?_|(refine wC rfl (fun h=>?_) (fun h=>?_)<;>(try contradiction))|((first|refine rd ?_|refine ry [] c0 fun nu _ _=>?_);simp -dsimp (disch:=omega) only[go_sem])|refine e0 (by decide) ?_|(refine zA ?_ ?_;omega)|refine zA (of_eq_true PutAt_put) ?_|refine gT ?_|refine gF ?_|(refine gI (fun h=>?_) (fun h=>?_)<;>(try contradiction)<;>(try refine rd ?_)<;>(try simp -dsimp (disch:=omega) only[go_sem,h]))|refine zX _ (zX _ (zA (zA rfl rfl) ?_)) |refine uw (h1 _) ?_ |fail
section
variable (s : ByteArray) (hs : s.size ≤ 1000)
include hs
theorem choice_spec (n : Nat) (hn : n ≤ 7) (hch : ChS s n) : ChS s (n + 1) := by
  intro p hp o σ
  refine PCall_isP ?_
  have hl := length_B s
  have hd : (9 - ((n + 1 : Nat) : Int)) = 8 - n := by omega
  rw [hd]
  simp only [choiceB]
  obtain ⟨ch, hchE⟩ : ∃ f, choiceB (B s) n = f := ⟨_, rfl⟩
  have hmo := choice_mono (B s) n
  have hit : ∀ (p : PS), p.at_ ≤ (B s).length → ∀ (σ : Store), PCall Tryz.prog 187 [.ptr o 0 0, .int .i64 (8 - n)] (σ.put o (pO s p)) (fun r t => r = gpt ∧ t = σ.put o (pO s (itemB (B s) ch p))) := fun p hp σ => by
    rw [← hchE]; exact item_spec s hs n (by omega) hch p hp o σ
  rw [hchE] at hmo ⊢
  refine PCall_w [.tmp 4] 53 Tryz.func164 (by rfl) rfl rfl rfl rfl ?_
  repeat' first |refine s1 ?_|refine gS ?_|refine wT rfl ?_|refine wF rfl ?_|refine wt rfl ?_|refine wf rfl ?_|(refine wC rfl (fun h=>?_) (fun h=>?_)<;>(try contradiction))|((first|refine s3 (mu:=[14]) ?_|refine rd ?_|refine ry [14] c0 fun nu _ _=>?_);simp -dsimp (disch:=omega) only[go_sem])|refine e0 (by decide) ?_|(refine zA ?_ ?_;omega)|refine zA (of_eq_true PutAt_put) ?_|refine gT ?_|refine gF ?_|(refine gI (fun h=>?_) (fun h=>?_)<;>(try contradiction)<;>(try refine rd ?_)<;>(try simp -dsimp (disch:=omega) only[go_sem,h]))|refine zX _ (zX _ (zA (zA rfl rfl) ?_)) |fail
  intro q hq
  have hqo := alloc_ne hq
  have sw := put_swap hqo
  have ot := put_oth hqo
  rw [ot] at hq
  simp only [sw]
  repeat' first |refine s1 ?_|refine gS ?_|refine wT rfl ?_|refine wF rfl ?_|refine wt rfl ?_|refine wf rfl ?_|(refine wC rfl (fun h=>?_) (fun h=>?_)<;>(try contradiction))|((first|refine rd ?_|refine ry [] c0 fun nu _ _=>?_);simp -dsimp (disch:=omega) only[go_sem,sw, ot])|refine e0 (by decide) ?_|(refine zA ?_ ?_;omega)|refine zA (of_eq_true PutAt_put) ?_|refine gT ?_|refine gF ?_|(refine gI (fun h=>?_) (fun h=>?_)<;>(try contradiction)<;>(try refine rd ?_)<;>(try simp -dsimp (disch:=omega) only[go_sem,h,sw, ot]))|refine zX _ (zX _ (zA (zA rfl rfl) ?_)) |fail
  refine W_loop_st (fun x : Lp => [(0, .ptr o 0 0), (1, .int .i64 (8 - n)), (5, .ptr q 0 0)]) (fun x => (x.τ.put q (nodeO 2 false .nil [] x.k x.rows)).put o (pO s x.p))
    (fun x => x.p.at_ ≤ (B s).length ∧ altB (B s) ch x.fuel x.p = altB (B s) ch ((B s).length + 2) p ∧ x.rows.length + x.fuel = (B s).length + 2 ∧ (B s).length < x.p.at_ + x.fuel ∧ rowsOk 1 x.rows = true ∧ (∀ c y, σ c = some y → x.τ c = some y) ∧ KindOk σ x.τ q o 215 1 x.k x.rows) (fun x => x.fuel)
    ⟨(B s).length + 2, p, .nil, [], σ⟩ ⟨hp, rfl, by simp, by simp only; omega, by rfl, fun _ _ h => h, .inr (.inl ⟨rfl, rfl⟩)⟩ (Env.Sub_of_has (by simp [Env.Has, Env.get])) (by simp only [pO, nodeO]; exact Store.Sub.refl _) ?_
  rintro ⟨fuel, p5, k, rows, τ⟩ ⟨i1, i2, i3, i4, i5, i6, i7⟩
  simp only at i1 i2 i3 i4 i5 i6 i7 ⊢
  rw [← i2]
  obtain ⟨f, rfl⟩ : ∃ f, fuel = f + 1 := ⟨fuel - 1, by omega⟩
  obtain ⟨N, hN⟩ : ∃ N, nodeO 2 false .nil [] k rows = N := ⟨_, rfl⟩
  rw [hN]
  repeat' first |refine s1 ?_|refine gS ?_|refine wT rfl ?_|refine wF rfl ?_|refine wt rfl ?_|refine wf rfl ?_|(refine wC rfl (fun h=>?_) (fun h=>?_)<;>(try contradiction))|((first|refine s3 (mu:=[16]) ?_|refine rd ?_|refine ry [16] c0 fun nu _ _=>?_);simp -dsimp (disch:=omega) only[go_sem])|refine e0 (by decide) ?_|(refine zA ?_ ?_;omega)|refine zA (of_eq_true PutAt_put) ?_|refine gT ?_|refine gF ?_|(refine gI (fun h=>?_) (fun h=>?_)<;>(try contradiction)<;>(try refine rd ?_)<;>(try simp -dsimp (disch:=omega) only[go_sem,h]))|refine zX _ (zX _ (zA (zA rfl rfl) ?_)) |fail
  intro r hr
  have hro := alloc_ne hr
  rw [put_oth hro] at hr
  have hrq := alloc_ne hr
  have swr := put_swap hro
  have otr := put_oth hro
  obtain ⟨τ1, hτ1⟩ : ∃ t, τ.put q N = t := ⟨_, rfl⟩
  rw [hτ1] at hr ⊢
  simp only [swr]
  repeat' first |refine s1 ?_|refine gS ?_|refine wT rfl ?_|refine wF rfl ?_|refine wt rfl ?_|refine wf rfl ?_|(refine wC rfl (fun h=>?_) (fun h=>?_)<;>(try contradiction))|((first|refine rd ?_|refine ry [] c0 fun nu _ _=>?_);simp -dsimp (disch:=omega) only[go_sem,swr, otr])|refine e0 (by decide) ?_|(refine zA ?_ ?_;omega)|refine zA (of_eq_true PutAt_put) ?_|refine gT ?_|refine gF ?_|(refine gI (fun h=>?_) (fun h=>?_)<;>(try contradiction)<;>(try refine rd ?_)<;>(try simp -dsimp (disch:=omega) only[go_sem,h,swr, otr]))|refine zX _ (zX _ (zA (zA rfl rfl) ?_)) |fail
  refine W_loop_st (fun y : Lp => [(0, .ptr o 0 0), (1, .int .i64 (8 - n)), (5, .ptr q 0 0), (6, .ptr r 0 0)]) (fun y => (y.τ.put r (nodeO 1 false .nil [] y.k y.rows)).put o (pO s y.p))
    (fun y => y.p.at_ ≤ (B s).length ∧ rowB (B s) ch y.fuel y.p = rowB (B s) ch ((B s).length + 2) p5 ∧ y.rows.length + y.fuel = (B s).length + 2 ∧ (y.p.e = 0 → (B s).length < y.p.at_ + y.fuel) ∧ rowsOk 1 y.rows = true ∧ (∀ c z, τ1 c = some z → y.τ c = some z) ∧ KindOk τ1 y.τ r o 215 1 y.k y.rows) (fun y => y.fuel)
    ⟨(B s).length + 2, p5, .nil, [], τ1⟩ ⟨i1, rfl, by simp, fun _ => by simp only; omega, by rfl, fun _ _ h => h, .inr (.inl ⟨rfl, rfl⟩)⟩ (Env.Sub_of_has (by simp [Env.Has, Env.get])) (by simp only [pO, nodeO]; exact Store.Sub.refl _) ?_
  rintro ⟨g, p6, k', rows', τ'⟩ ⟨j1, j2, j3, j4, j5, j6, j7⟩
  simp only at j1 j2 j3 j4 j5 j6 j7 ⊢
  have hq1 : τ' q = some N := j6 _ _ (by rw [← hτ1]; exact put_same _ _ _)
  have hq2 : q ≠ r := fun e => by rw [← hτ1, ← e, put_same] at hr; cases hr
  have otq := put_oth hq2
  obtain ⟨at6, r6⟩ := p6
  simp only at j1 j4
  by_cases he : r6 = 0
  · subst he
    have hf := j4 rfl
    obtain ⟨g', rfl⟩ : ∃ f, g = f + 1 := ⟨g - 1, by omega⟩
    have hpk := peek_spec s hs ⟨at6, 0⟩ j1 o
    have hsk := skipB_len (B s) j1
    have hsl := skipB_le (B s) at6
    obtain ⟨a, ha⟩ : ∃ a, skipB (B s) at6 = a := ⟨_, rfl⟩
    simp only [ha] at hpk hsk hsl
    have hb := begins_spec (chr (B s) a)
    simp only [rowB, ha, if_true] at j2
    simp only [nodeO]
    cases hbz : beginsZ (chr (B s) a) with
    | true =>
      rw [hbz] at hb
      rw [if_pos hbz] at j2
      have hit1 := hit ⟨a, 0⟩ hsk
      have hl7 := (item_mono (B s) hmo).len ⟨a, 0⟩ hsk
      have hgo := item_go (B s) hmo ⟨a, 0⟩ hsk
      obtain ⟨p7, hp7⟩ : ∃ x, itemB (B s) ch ⟨a, 0⟩ = x := ⟨_, rfl⟩
      rw [hp7] at hl7 hgo j2
      simp only [hp7] at hit1
      repeat' first |((fail_if_success (first|show W _ _ (Code.seq (Code.region 7 _ _) _) _ _ _|show W _ _ (Code.seq (Code.seq (Code.region 7 _ _) _) _) _ _ _));refine s1 ?_)|refine gS ?_|refine wT rfl ?_|refine wF rfl ?_|refine wt rfl ?_|refine wf rfl ?_|(refine wC rfl (fun h=>?_) (fun h=>?_)<;>(try contradiction))|((fail_if_success (first|show W _ _ (Code.region 7 _ _) _ _ _));(first|refine rd ?_|refine ry [] c0 fun nu _ _=>?_);simp -dsimp (disch:=omega) only[go_sem])|refine e0 (by decide) ?_|(refine zA ?_ ?_;omega)|refine zA (of_eq_true PutAt_put) ?_|refine gT ?_|refine gF ?_|(refine gI (fun h=>?_) (fun h=>?_)<;>(try contradiction)<;>(try refine rd ?_)<;>(try simp -dsimp (disch:=omega) only[go_sem,h]))|refine zX _ (zX _ (zA (zA rfl rfl) ?_)) |refine uw (hpk _) ?_ |refine us (hb) ?_ |fail
      refine W_region_late (id:=7) [] ⟨[4],[7,9,12],[],[9],[],[7],o⟩ mx (by kernel_rfl) ⟨_, put_same _ _ _⟩ ?_
      intro nu hnu hni
      have e9' := hnu 9 (by simp)
      have n9 := alloc_ne e9'
      rw [put_oth n9] at e9'
      have n9r := alloc_ne e9'
      rw [put_oth n9r] at e9'
      have w9 := put_swap n9
      have w9r := put_swap n9r
      have o9 := put_oth n9
      have o9r := put_oth n9r
      rcases j7 with rfl | ⟨rfl, rfl⟩ | ⟨t, rfl, ht, htr, hto, hts⟩
      · skip
        simp -dsimp (disch:=omega) only[go_sem,swr, otr, w9, w9r, o9, o9r, j5, ps_under n9r n9, ps_in hro]
        repeat' first |refine s1 ?_|refine gS ?_|refine wT rfl ?_|refine wF rfl ?_|refine wt rfl ?_|refine wf rfl ?_|(refine wC rfl (fun h=>?_) (fun h=>?_)<;>(try contradiction))|((first|refine rd ?_|refine ry [] c0 fun nu _ _=>?_);simp -dsimp (disch:=omega) only[go_sem,swr, otr, w9, w9r, o9, o9r, j5, ps_under n9r n9, ps_in hro])|refine e0 (by decide) ?_|(refine zA ?_ ?_;omega)|refine zA (of_eq_true PutAt_put) ?_|refine zA (show PutSome _ _ by simp only[PutSome_self,PutSome_put,PutSome_same,swr, otr, w9, w9r, o9, o9r, j5, ps_under n9r n9, ps_in hro]) ?_|refine gT ?_|refine gF ?_|(refine gI (fun h=>?_) (fun h=>?_)<;>(try contradiction)<;>(try refine rd ?_)<;>(try simp -dsimp (disch:=omega) only[go_sem,h,swr, otr, w9, w9r, o9, o9r, j5, ps_under n9r n9, ps_in hro]))|refine zX _ (zX _ (zA (zA rfl rfl) ?_)) |refine uw (hit1 _) ?_ |fail
        refine ⟨⟨g', p7, .tip (nu 9), rows' ++ [gpt], τ'.put (nu 9) (.tip (rows' ++ [gpt]).length 215 1)⟩, by simp, ⟨hl7, j2, by simp at j3 ⊢; omega, fun h0 => by have := hgo h0 rfl; simp only at this ⊢; omega, by simp only [rowsOk_append, j5]; rfl, keep_new j6 (none_of j6 e9'), .inr (.inr ⟨(nu 9), rfl, put_same _ _ _, n9r, n9, none_of j6 e9'⟩)⟩, Env.Sub_of_has (by simp [Env.Has, Env.get]), by simp only [pO, List.nil_append]; exact Store.Sub.refl _⟩
      · skip
        simp -dsimp (disch:=omega) only[go_sem,swr, otr, w9, w9r, o9, o9r, j5, ps_under n9r n9, ps_in hro]
        repeat' first |refine s1 ?_|refine gS ?_|refine wT rfl ?_|refine wF rfl ?_|refine wt rfl ?_|refine wf rfl ?_|(refine wC rfl (fun h=>?_) (fun h=>?_)<;>(try contradiction))|((first|refine rd ?_|refine ry [] c0 fun nu _ _=>?_);simp -dsimp (disch:=omega) only[go_sem,swr, otr, w9, w9r, o9, o9r, j5, ps_under n9r n9, ps_in hro])|refine e0 (by decide) ?_|(refine zA ?_ ?_;omega)|refine zA (of_eq_true PutAt_put) ?_|refine zA (show PutSome _ _ by simp only[PutSome_self,PutSome_put,PutSome_same,swr, otr, w9, w9r, o9, o9r, j5, ps_under n9r n9, ps_in hro]) ?_|refine gT ?_|refine gF ?_|(refine gI (fun h=>?_) (fun h=>?_)<;>(try contradiction)<;>(try refine rd ?_)<;>(try simp -dsimp (disch:=omega) only[go_sem,h,swr, otr, w9, w9r, o9, o9r, j5, ps_under n9r n9, ps_in hro]))|refine zX _ (zX _ (zA (zA rfl rfl) ?_)) |refine uw (hit1 _) ?_ |fail
        refine ⟨⟨g', p7, .tip (nu 9), [] ++ [gpt], τ'.put (nu 9) (.tip ([] ++ [gpt]).length 215 1)⟩, by simp, ⟨hl7, j2, by simp at j3 ⊢; omega, fun h0 => by have := hgo h0 rfl; simp only at this ⊢; omega, by simp only [rowsOk_append, j5]; rfl, keep_new j6 (none_of j6 e9'), .inr (.inr ⟨(nu 9), rfl, put_same _ _ _, n9r, n9, none_of j6 e9'⟩)⟩, Env.Sub_of_has (by simp [Env.Has, Env.get]), by simp only [pO, List.nil_append]; exact Store.Sub.refl _⟩
      · have wt := put_swap hto
        have wtr := put_swap htr
        have ott := put_oth hto
        have ottr := put_oth htr
        simp -dsimp (disch:=omega) only[go_sem,swr, otr, wt, wtr, ott, ottr, ht, j5, ps_under htr hto, ps_in hro]
        repeat' first |refine s1 ?_|refine gS ?_|refine wT rfl ?_|refine wF rfl ?_|refine wt rfl ?_|refine wf rfl ?_|(refine wC rfl (fun h=>?_) (fun h=>?_)<;>(try contradiction))|((first|refine rd ?_|refine ry [] c0 fun nu _ _=>?_);simp -dsimp (disch:=omega) only[go_sem,swr, otr, wt, wtr, ott, ottr, ht, j5, ps_under htr hto, ps_in hro])|refine e0 (by decide) ?_|(refine zA ?_ ?_;omega)|refine zA (of_eq_true PutAt_put) ?_|refine zA (show PutSome _ _ by simp only[PutSome_self,PutSome_put,PutSome_same,swr, otr, wt, wtr, ott, ottr, ht, j5, ps_under htr hto, ps_in hro]) ?_|refine gT ?_|refine gF ?_|(refine gI (fun h=>?_) (fun h=>?_)<;>(try contradiction)<;>(try refine rd ?_)<;>(try simp -dsimp (disch:=omega) only[go_sem,h,swr, otr, wt, wtr, ott, ottr, ht, j5, ps_under htr hto, ps_in hro]))|refine zX _ (zX _ (zA (zA rfl rfl) ?_)) |refine uw (hit1 _) ?_ |fail
        refine ⟨⟨g', p7, .tip t, rows' ++ [gpt], τ'.put t (.tip (rows' ++ [gpt]).length 215 1)⟩, by simp, ⟨hl7, j2, by simp at j3 ⊢; omega, fun h0 => by have := hgo h0 rfl; simp only at this ⊢; omega, by simp only [rowsOk_append, j5]; rfl, keep_new j6 hts, .inr (.inr ⟨t, rfl, put_same _ _ _, htr, hto, hts⟩)⟩, Env.Sub_of_has (by simp [Env.Has, Env.get]), by simp only [pO, List.nil_append]; exact Store.Sub.refl _⟩
    | false =>
      rw [hbz] at hb
      rw [if_neg (by rw [hbz]; simp)] at j2
      repeat' first |((fail_if_success (first|show W _ _ (Code.seq (Code.region 8 _ _) _) _ _ _|show W _ _ (Code.seq (Code.seq (Code.region 8 _ _) _) _) _ _ _));refine s1 ?_)|refine gS ?_|refine wT rfl ?_|refine wF rfl ?_|refine wt rfl ?_|refine wf rfl ?_|(refine wC rfl (fun h=>?_) (fun h=>?_)<;>(try contradiction))|((fail_if_success (first|show W _ _ (Code.region 8 _ _) _ _ _));(first|refine rd ?_|refine ry [] c0 fun nu _ _=>?_);simp -dsimp (disch:=omega) only[go_sem])|refine e0 (by decide) ?_|(refine zA ?_ ?_;omega)|refine zA (of_eq_true PutAt_put) ?_|refine gT ?_|refine gF ?_|(refine gI (fun h=>?_) (fun h=>?_)<;>(try contradiction)<;>(try refine rd ?_)<;>(try simp -dsimp (disch:=omega) only[go_sem,h]))|refine zX _ (zX _ (zA (zA rfl rfl) ?_)) |refine uw (hpk _) ?_ |refine us (hb) ?_ |fail
      have hr2 : rowB (B s) ch ((B s).length + 2) p5 = ⟨a, 0⟩ := j2.symm
      have tk := take_spec s hs ⟨a, 0⟩ hsk 124 o
      have hl8 := (take_mono (B s) 124).len ⟨a, 0⟩ hsk
      have hte := fun h => take_err (B s) (c := 124) (p := ⟨a, 0⟩) h
      have hrm := (row_mono (B s) hmo ((B s).length + 2)).le p5 i1
      obtain ⟨b8, p8, hp8⟩ : ∃ b8 p8, takeB (B s) 124 ⟨a, 0⟩ = (b8, p8) := ⟨_, _, rfl⟩
      rw [hr2] at hrm
      simp only [hp8] at tk hl8 hte hrm
      have k5 : ∀ c y, σ c = some y → τ1 c = some y := by rw [← hτ1]; exact keep_new i6 hq
      have k6 : ∀ c y, σ c = some y → τ' c = some y := fun c y h => j6 c y (k5 c y h)
      obtain ⟨R, hR⟩ : ∃ x, nodeO 1 false .nil [] k' rows' = x := ⟨_, rfl⟩
      have k7 : ∀ c y, σ c = some y → (τ'.put r R) c = some y := keep_new k6 (none_of k5 hr)
      simp only [nodeO] at hR
      rw [hR]
      rw [← hN] at hq1
      simp only [nodeO] at hq1
      rcases i7 with rfl | ⟨rfl, rfl⟩ | ⟨t, rfl, ht, htq, hto, hts⟩
      · skip
        repeat' first |((fail_if_success (first|show W _ _ (Code.seq (Code.region 9 _ _) _) _ _ _|show W _ _ (Code.seq (Code.seq (Code.region 9 _ _) _) _) _ _ _));refine s1 ?_)|refine gS ?_|refine wT rfl ?_|refine wF rfl ?_|refine wt rfl ?_|refine wf rfl ?_|(refine wC rfl (fun h=>?_) (fun h=>?_)<;>(try contradiction))|((fail_if_success (first|show W _ _ (Code.region 9 _ _) _ _ _));(first|refine rd ?_|refine ry [] c0 fun nu _ _=>?_);simp -dsimp (disch:=omega) only[go_sem,ot, otq, hq1, i5])|refine e0 (by decide) ?_|(refine zA ?_ ?_;omega)|refine zA (of_eq_true PutAt_put) ?_|refine gT ?_|refine gF ?_|(refine gI (fun h=>?_) (fun h=>?_)<;>(try contradiction)<;>(try refine rd ?_)<;>(try simp -dsimp (disch:=omega) only[go_sem,h,ot, otq, hq1, i5]))|refine zX _ (zX _ (zA (zA rfl rfl) ?_)) |fail
        intro c hc
        have hco := alloc_ne hc
        rw [put_oth hco] at hc
        have hcr := alloc_ne hc
        rw [put_oth hcr] at hc
        have hqc : q ≠ c := fun e => by rw [← e, hq1] at hc; cases hc
        have hcσ := none_of k6 hc
        have hcq : c ≠ q := fun e => hqc e.symm
        have k8 := keep_new (x := .tip (rows ++ [AV.ptr r 0 0]).length 215 1) k7 hcσ
        cases b8 with
        | true =>
          have haf : altB (B s) ch f p8 = altB (B s) ch (f + 1) p5 := by simp only [altB, hr2, hp8, if_true]
          simp -dsimp (disch:=omega) only[go_sem,sw, ot, otq, hq1, i5, put_swap hco, put_oth hqc]
          repeat' first |refine s1 ?_|refine gS ?_|refine wT rfl ?_|refine wF rfl ?_|refine wt rfl ?_|refine wf rfl ?_|(refine wC rfl (fun h=>?_) (fun h=>?_)<;>(try contradiction))|((first|refine rd ?_|refine ry [] c0 fun nu _ _=>?_);simp -dsimp (disch:=omega) only[go_sem,sw, ot, otq, hq1, i5, put_swap hco, put_oth hqc])|refine e0 (by decide) ?_|(refine zA ?_ ?_;omega)|refine zA (of_eq_true PutAt_put) ?_|refine gT ?_|refine gF ?_|(refine gI (fun h=>?_) (fun h=>?_)<;>(try contradiction)<;>(try refine rd ?_)<;>(try simp -dsimp (disch:=omega) only[go_sem,h,sw, ot, otq, hq1, i5, put_swap hco, put_oth hqc]))|refine zX _ (zX _ (zA (zA rfl rfl) ?_)) |refine uw (tk _) ?_ |fail
          refine ⟨⟨f, p8, .tip c, rows ++ [.ptr r 0 0], (τ'.put r R).put c (.tip (rows ++ [AV.ptr r 0 0]).length 215 1)⟩, by simp, ⟨hl8, by first | exact haf | exact haf.trans i2, by simp at i3 ⊢; omega, by have := (hte rfl).2.2; simp only at this hrm ⊢; omega, by simp only [rowsOk_append, i5]; rfl, k8, .inr (.inr ⟨c, rfl, put_same _ _ _, hcq, hco, hcσ⟩)⟩, Env.Sub_of_has (by simp [Env.Has, Env.get]), by simp only [pO, nodeO, List.nil_append]; exact Store.Sub.refl _⟩
        | false =>
          have haf : altB (B s) ch (f + 1) p5 = p8 := by simp only [altB, hr2, hp8, Bool.false_eq_true, if_false]
          rw [haf]
          simp -dsimp (disch:=omega) only[go_sem,sw, ot, otq, hq1, i5, put_swap hco, put_oth hqc]
          repeat' first |refine s1 ?_|refine gS ?_|refine wT rfl ?_|refine wF rfl ?_|refine wt rfl ?_|refine wf rfl ?_|(refine wC rfl (fun h=>?_) (fun h=>?_)<;>(try contradiction))|((first|refine rd ?_|refine ry [] c0 fun nu _ _=>?_);simp -dsimp (disch:=omega) only[go_sem,sw, ot, otq, hq1, i5, put_swap hco, put_oth hqc])|refine e0 (by decide) ?_|(refine zA ?_ ?_;omega)|refine zA (of_eq_true PutAt_put) ?_|refine gT ?_|refine gF ?_|(refine gI (fun h=>?_) (fun h=>?_)<;>(try contradiction)<;>(try refine rd ?_)<;>(try simp -dsimp (disch:=omega) only[go_sem,h,sw, ot, otq, hq1, i5, put_swap hco, put_oth hqc]))|refine zX _ (zX _ (zA (zA rfl rfl) ?_)) |refine uw (tk _) ?_ |fail
          all_goals exact Sub_in k8 hq
      · skip
        repeat' first |((fail_if_success (first|show W _ _ (Code.seq (Code.region 9 _ _) _) _ _ _|show W _ _ (Code.seq (Code.seq (Code.region 9 _ _) _) _) _ _ _));refine s1 ?_)|refine gS ?_|refine wT rfl ?_|refine wF rfl ?_|refine wt rfl ?_|refine wf rfl ?_|(refine wC rfl (fun h=>?_) (fun h=>?_)<;>(try contradiction))|((fail_if_success (first|show W _ _ (Code.region 9 _ _) _ _ _));(first|refine rd ?_|refine ry [] c0 fun nu _ _=>?_);simp -dsimp (disch:=omega) only[go_sem,ot, otq, hq1, i5])|refine e0 (by decide) ?_|(refine zA ?_ ?_;omega)|refine zA (of_eq_true PutAt_put) ?_|refine gT ?_|refine gF ?_|(refine gI (fun h=>?_) (fun h=>?_)<;>(try contradiction)<;>(try refine rd ?_)<;>(try simp -dsimp (disch:=omega) only[go_sem,h,ot, otq, hq1, i5]))|refine zX _ (zX _ (zA (zA rfl rfl) ?_)) |fail
        intro c hc
        have hco := alloc_ne hc
        rw [put_oth hco] at hc
        have hcr := alloc_ne hc
        rw [put_oth hcr] at hc
        have hqc : q ≠ c := fun e => by rw [← e, hq1] at hc; cases hc
        have hcσ := none_of k6 hc
        have hcq : c ≠ q := fun e => hqc e.symm
        have k8 := keep_new (x := .tip ([] ++ [AV.ptr r 0 0]).length 215 1) k7 hcσ
        cases b8 with
        | true =>
          have haf : altB (B s) ch f p8 = altB (B s) ch (f + 1) p5 := by simp only [altB, hr2, hp8, if_true]
          simp -dsimp (disch:=omega) only[go_sem,sw, ot, otq, hq1, i5, put_swap hco, put_oth hqc]
          repeat' first |refine s1 ?_|refine gS ?_|refine wT rfl ?_|refine wF rfl ?_|refine wt rfl ?_|refine wf rfl ?_|(refine wC rfl (fun h=>?_) (fun h=>?_)<;>(try contradiction))|((first|refine rd ?_|refine ry [] c0 fun nu _ _=>?_);simp -dsimp (disch:=omega) only[go_sem,sw, ot, otq, hq1, i5, put_swap hco, put_oth hqc])|refine e0 (by decide) ?_|(refine zA ?_ ?_;omega)|refine zA (of_eq_true PutAt_put) ?_|refine gT ?_|refine gF ?_|(refine gI (fun h=>?_) (fun h=>?_)<;>(try contradiction)<;>(try refine rd ?_)<;>(try simp -dsimp (disch:=omega) only[go_sem,h,sw, ot, otq, hq1, i5, put_swap hco, put_oth hqc]))|refine zX _ (zX _ (zA (zA rfl rfl) ?_)) |refine uw (tk _) ?_ |fail
          refine ⟨⟨f, p8, .tip c, [] ++ [.ptr r 0 0], (τ'.put r R).put c (.tip ([] ++ [AV.ptr r 0 0]).length 215 1)⟩, by simp, ⟨hl8, by first | exact haf | exact haf.trans i2, by simp at i3 ⊢; omega, by have := (hte rfl).2.2; simp only at this hrm ⊢; omega, by simp only [rowsOk_append, i5]; rfl, k8, .inr (.inr ⟨c, rfl, put_same _ _ _, hcq, hco, hcσ⟩)⟩, Env.Sub_of_has (by simp [Env.Has, Env.get]), by simp only [pO, nodeO, List.nil_append]; exact Store.Sub.refl _⟩
        | false =>
          have haf : altB (B s) ch (f + 1) p5 = p8 := by simp only [altB, hr2, hp8, Bool.false_eq_true, if_false]
          rw [haf]
          simp -dsimp (disch:=omega) only[go_sem,sw, ot, otq, hq1, i5, put_swap hco, put_oth hqc]
          repeat' first |refine s1 ?_|refine gS ?_|refine wT rfl ?_|refine wF rfl ?_|refine wt rfl ?_|refine wf rfl ?_|(refine wC rfl (fun h=>?_) (fun h=>?_)<;>(try contradiction))|((first|refine rd ?_|refine ry [] c0 fun nu _ _=>?_);simp -dsimp (disch:=omega) only[go_sem,sw, ot, otq, hq1, i5, put_swap hco, put_oth hqc])|refine e0 (by decide) ?_|(refine zA ?_ ?_;omega)|refine zA (of_eq_true PutAt_put) ?_|refine gT ?_|refine gF ?_|(refine gI (fun h=>?_) (fun h=>?_)<;>(try contradiction)<;>(try refine rd ?_)<;>(try simp -dsimp (disch:=omega) only[go_sem,h,sw, ot, otq, hq1, i5, put_swap hco, put_oth hqc]))|refine zX _ (zX _ (zA (zA rfl rfl) ?_)) |refine uw (tk _) ?_ |fail
          all_goals exact Sub_in k8 hq
      · have ht1 : τ1 t = some (.tip rows.length 215 1) := by rw [← hτ1, put_oth htq]; exact ht
        have htr : t ≠ r := fun e => by rw [e, hr] at ht1; cases ht1
        have ht2 := j6 _ _ ht1
        have hqt : q ≠ t := fun e => htq e.symm
        have hcσ := hts
        have hcq := htq
        have hco := hto
        have k8 := keep_new (x := .tip (rows ++ [AV.ptr r 0 0]).length 215 1) k7 hcσ
        cases b8 with
        | true =>
          have haf : altB (B s) ch f p8 = altB (B s) ch (f + 1) p5 := by simp only [altB, hr2, hp8, if_true]
          repeat' first |refine s1 ?_|refine gS ?_|refine wT rfl ?_|refine wF rfl ?_|refine wt rfl ?_|refine wf rfl ?_|(refine wC rfl (fun h=>?_) (fun h=>?_)<;>(try contradiction))|((first|refine rd ?_|refine ry [] c0 fun nu _ _=>?_);simp -dsimp (disch:=omega) only[go_sem,sw, ot, otq, hq1, i5, put_swap hto, put_oth hto, put_oth htr, ht2, put_oth hqt])|refine e0 (by decide) ?_|(refine zA ?_ ?_;omega)|refine zA (of_eq_true PutAt_put) ?_|refine gT ?_|refine gF ?_|(refine gI (fun h=>?_) (fun h=>?_)<;>(try contradiction)<;>(try refine rd ?_)<;>(try simp -dsimp (disch:=omega) only[go_sem,h,sw, ot, otq, hq1, i5, put_swap hto, put_oth hto, put_oth htr, ht2, put_oth hqt]))|refine zX _ (zX _ (zA (zA rfl rfl) ?_)) |refine uw (tk _) ?_ |fail
          refine ⟨⟨f, p8, .tip t, rows ++ [.ptr r 0 0], (τ'.put r R).put t (.tip (rows ++ [AV.ptr r 0 0]).length 215 1)⟩, by simp, ⟨hl8, by first | exact haf | exact haf.trans i2, by simp at i3 ⊢; omega, by have := (hte rfl).2.2; simp only at this hrm ⊢; omega, by simp only [rowsOk_append, i5]; rfl, k8, .inr (.inr ⟨t, rfl, put_same _ _ _, hcq, hco, hcσ⟩)⟩, Env.Sub_of_has (by simp [Env.Has, Env.get]), by simp only [pO, nodeO, List.nil_append]; exact Store.Sub.refl _⟩
        | false =>
          have haf : altB (B s) ch (f + 1) p5 = p8 := by simp only [altB, hr2, hp8, Bool.false_eq_true, if_false]
          rw [haf]
          repeat' first |refine s1 ?_|refine gS ?_|refine wT rfl ?_|refine wF rfl ?_|refine wt rfl ?_|refine wf rfl ?_|(refine wC rfl (fun h=>?_) (fun h=>?_)<;>(try contradiction))|((first|refine rd ?_|refine ry [] c0 fun nu _ _=>?_);simp -dsimp (disch:=omega) only[go_sem,sw, ot, otq, hq1, i5, put_swap hto, put_oth hto, put_oth htr, ht2, put_oth hqt])|refine e0 (by decide) ?_|(refine zA ?_ ?_;omega)|refine zA (of_eq_true PutAt_put) ?_|refine gT ?_|refine gF ?_|(refine gI (fun h=>?_) (fun h=>?_)<;>(try contradiction)<;>(try refine rd ?_)<;>(try simp -dsimp (disch:=omega) only[go_sem,h,sw, ot, otq, hq1, i5, put_swap hto, put_oth hto, put_oth htr, ht2, put_oth hqt]))|refine zX _ (zX _ (zA (zA rfl rfl) ?_)) |refine uw (tk _) ?_ |fail
          all_goals exact Sub_in k8 hq
  · have hz : rowB (B s) ch g ⟨at6, r6⟩ = ⟨at6, r6⟩ := by
      cases g with
      | zero => rfl
      | succ n => rw [rowB, if_neg he]
    rw [hz] at j2
    simp only [nodeO]
    repeat' first |((fail_if_success (first|show W _ _ (Code.seq (Code.region 8 _ _) _) _ _ _|show W _ _ (Code.seq (Code.seq (Code.region 8 _ _) _) _) _ _ _));refine s1 ?_)|refine gS ?_|refine wT rfl ?_|refine wF rfl ?_|refine wt rfl ?_|refine wf rfl ?_|(refine wC rfl (fun h=>?_) (fun h=>?_)<;>(try contradiction))|((fail_if_success (first|show W _ _ (Code.region 8 _ _) _ _ _));(first|refine rd ?_|refine ry [] c0 fun nu _ _=>?_);simp -dsimp (disch:=omega) only[go_sem,he])|refine e0 (by decide) ?_|(refine zA ?_ ?_;omega)|refine zA (of_eq_true PutAt_put) ?_|refine gT ?_|refine gF ?_|(refine gI (fun h=>?_) (fun h=>?_)<;>(try contradiction)<;>(try refine rd ?_)<;>(try simp -dsimp (disch:=omega) only[go_sem,h,he]))|refine zX _ (zX _ (zA (zA rfl rfl) ?_)) |fail
    have hr2 : rowB (B s) ch ((B s).length + 2) p5 = ⟨at6, r6⟩ := j2.symm
    have tk := take_spec s hs ⟨at6, r6⟩ j1 124 o
    have hl8 := (take_mono (B s) 124).len ⟨at6, r6⟩ j1
    have hte := fun h => take_err (B s) (c := 124) (p := ⟨at6, r6⟩) h
    have hrm := (row_mono (B s) hmo ((B s).length + 2)).le p5 i1
    obtain ⟨b8, p8, hp8⟩ : ∃ b8 p8, takeB (B s) 124 ⟨at6, r6⟩ = (b8, p8) := ⟨_, _, rfl⟩
    rw [hr2] at hrm
    simp only [hp8] at tk hl8 hte hrm
    have k5 : ∀ c y, σ c = some y → τ1 c = some y := by rw [← hτ1]; exact keep_new i6 hq
    have k6 : ∀ c y, σ c = some y → τ' c = some y := fun c y h => j6 c y (k5 c y h)
    obtain ⟨R, hR⟩ : ∃ x, nodeO 1 false .nil [] k' rows' = x := ⟨_, rfl⟩
    have k7 : ∀ c y, σ c = some y → (τ'.put r R) c = some y := keep_new k6 (none_of k5 hr)
    simp only [nodeO] at hR
    rw [hR]
    rw [← hN] at hq1
    simp only [nodeO] at hq1
    rcases i7 with rfl | ⟨rfl, rfl⟩ | ⟨t, rfl, ht, htq, hto, hts⟩
    · skip
      repeat' first |((fail_if_success (first|show W _ _ (Code.seq (Code.region 9 _ _) _) _ _ _|show W _ _ (Code.seq (Code.seq (Code.region 9 _ _) _) _) _ _ _));refine s1 ?_)|refine gS ?_|refine wT rfl ?_|refine wF rfl ?_|refine wt rfl ?_|refine wf rfl ?_|(refine wC rfl (fun h=>?_) (fun h=>?_)<;>(try contradiction))|((fail_if_success (first|show W _ _ (Code.region 9 _ _) _ _ _));(first|refine rd ?_|refine ry [] c0 fun nu _ _=>?_);simp -dsimp (disch:=omega) only[go_sem,ot, otq, hq1, i5])|refine e0 (by decide) ?_|(refine zA ?_ ?_;omega)|refine zA (of_eq_true PutAt_put) ?_|refine gT ?_|refine gF ?_|(refine gI (fun h=>?_) (fun h=>?_)<;>(try contradiction)<;>(try refine rd ?_)<;>(try simp -dsimp (disch:=omega) only[go_sem,h,ot, otq, hq1, i5]))|refine zX _ (zX _ (zA (zA rfl rfl) ?_)) |fail
      intro c hc
      have hco := alloc_ne hc
      rw [put_oth hco] at hc
      have hcr := alloc_ne hc
      rw [put_oth hcr] at hc
      have hqc : q ≠ c := fun e => by rw [← e, hq1] at hc; cases hc
      have hcσ := none_of k6 hc
      have hcq : c ≠ q := fun e => hqc e.symm
      have k8 := keep_new (x := .tip (rows ++ [AV.ptr r 0 0]).length 215 1) k7 hcσ
      cases b8 with
      | true =>
        have haf : altB (B s) ch f p8 = altB (B s) ch (f + 1) p5 := by simp only [altB, hr2, hp8, if_true]
        simp -dsimp (disch:=omega) only[go_sem,sw, ot, otq, hq1, i5, put_swap hco, put_oth hqc]
        repeat' first |refine s1 ?_|refine gS ?_|refine wT rfl ?_|refine wF rfl ?_|refine wt rfl ?_|refine wf rfl ?_|(refine wC rfl (fun h=>?_) (fun h=>?_)<;>(try contradiction))|((first|refine rd ?_|refine ry [] c0 fun nu _ _=>?_);simp -dsimp (disch:=omega) only[go_sem,sw, ot, otq, hq1, i5, put_swap hco, put_oth hqc])|refine e0 (by decide) ?_|(refine zA ?_ ?_;omega)|refine zA (of_eq_true PutAt_put) ?_|refine gT ?_|refine gF ?_|(refine gI (fun h=>?_) (fun h=>?_)<;>(try contradiction)<;>(try refine rd ?_)<;>(try simp -dsimp (disch:=omega) only[go_sem,h,sw, ot, otq, hq1, i5, put_swap hco, put_oth hqc]))|refine zX _ (zX _ (zA (zA rfl rfl) ?_)) |refine uw (tk _) ?_ |fail
        refine ⟨⟨f, p8, .tip c, rows ++ [.ptr r 0 0], (τ'.put r R).put c (.tip (rows ++ [AV.ptr r 0 0]).length 215 1)⟩, by simp, ⟨hl8, by first | exact haf | exact haf.trans i2, by simp at i3 ⊢; omega, by have := (hte rfl).2.2; simp only at this hrm ⊢; omega, by simp only [rowsOk_append, i5]; rfl, k8, .inr (.inr ⟨c, rfl, put_same _ _ _, hcq, hco, hcσ⟩)⟩, Env.Sub_of_has (by simp [Env.Has, Env.get]), by simp only [pO, nodeO, List.nil_append]; exact Store.Sub.refl _⟩
      | false =>
        have haf : altB (B s) ch (f + 1) p5 = p8 := by simp only [altB, hr2, hp8, Bool.false_eq_true, if_false]
        rw [haf]
        simp -dsimp (disch:=omega) only[go_sem,sw, ot, otq, hq1, i5, put_swap hco, put_oth hqc]
        repeat' first |refine s1 ?_|refine gS ?_|refine wT rfl ?_|refine wF rfl ?_|refine wt rfl ?_|refine wf rfl ?_|(refine wC rfl (fun h=>?_) (fun h=>?_)<;>(try contradiction))|((first|refine rd ?_|refine ry [] c0 fun nu _ _=>?_);simp -dsimp (disch:=omega) only[go_sem,sw, ot, otq, hq1, i5, put_swap hco, put_oth hqc])|refine e0 (by decide) ?_|(refine zA ?_ ?_;omega)|refine zA (of_eq_true PutAt_put) ?_|refine gT ?_|refine gF ?_|(refine gI (fun h=>?_) (fun h=>?_)<;>(try contradiction)<;>(try refine rd ?_)<;>(try simp -dsimp (disch:=omega) only[go_sem,h,sw, ot, otq, hq1, i5, put_swap hco, put_oth hqc]))|refine zX _ (zX _ (zA (zA rfl rfl) ?_)) |refine uw (tk _) ?_ |fail
        all_goals exact Sub_in k8 hq
    · skip
      repeat' first |((fail_if_success (first|show W _ _ (Code.seq (Code.region 9 _ _) _) _ _ _|show W _ _ (Code.seq (Code.seq (Code.region 9 _ _) _) _) _ _ _));refine s1 ?_)|refine gS ?_|refine wT rfl ?_|refine wF rfl ?_|refine wt rfl ?_|refine wf rfl ?_|(refine wC rfl (fun h=>?_) (fun h=>?_)<;>(try contradiction))|((fail_if_success (first|show W _ _ (Code.region 9 _ _) _ _ _));(first|refine rd ?_|refine ry [] c0 fun nu _ _=>?_);simp -dsimp (disch:=omega) only[go_sem,ot, otq, hq1, i5])|refine e0 (by decide) ?_|(refine zA ?_ ?_;omega)|refine zA (of_eq_true PutAt_put) ?_|refine gT ?_|refine gF ?_|(refine gI (fun h=>?_) (fun h=>?_)<;>(try contradiction)<;>(try refine rd ?_)<;>(try simp -dsimp (disch:=omega) only[go_sem,h,ot, otq, hq1, i5]))|refine zX _ (zX _ (zA (zA rfl rfl) ?_)) |fail
      intro c hc
      have hco := alloc_ne hc
      rw [put_oth hco] at hc
      have hcr := alloc_ne hc
      rw [put_oth hcr] at hc
      have hqc : q ≠ c := fun e => by rw [← e, hq1] at hc; cases hc
      have hcσ := none_of k6 hc
      have hcq : c ≠ q := fun e => hqc e.symm
      have k8 := keep_new (x := .tip ([] ++ [AV.ptr r 0 0]).length 215 1) k7 hcσ
      cases b8 with
      | true =>
        have haf : altB (B s) ch f p8 = altB (B s) ch (f + 1) p5 := by simp only [altB, hr2, hp8, if_true]
        simp -dsimp (disch:=omega) only[go_sem,sw, ot, otq, hq1, i5, put_swap hco, put_oth hqc]
        repeat' first |refine s1 ?_|refine gS ?_|refine wT rfl ?_|refine wF rfl ?_|refine wt rfl ?_|refine wf rfl ?_|(refine wC rfl (fun h=>?_) (fun h=>?_)<;>(try contradiction))|((first|refine rd ?_|refine ry [] c0 fun nu _ _=>?_);simp -dsimp (disch:=omega) only[go_sem,sw, ot, otq, hq1, i5, put_swap hco, put_oth hqc])|refine e0 (by decide) ?_|(refine zA ?_ ?_;omega)|refine zA (of_eq_true PutAt_put) ?_|refine gT ?_|refine gF ?_|(refine gI (fun h=>?_) (fun h=>?_)<;>(try contradiction)<;>(try refine rd ?_)<;>(try simp -dsimp (disch:=omega) only[go_sem,h,sw, ot, otq, hq1, i5, put_swap hco, put_oth hqc]))|refine zX _ (zX _ (zA (zA rfl rfl) ?_)) |refine uw (tk _) ?_ |fail
        refine ⟨⟨f, p8, .tip c, [] ++ [.ptr r 0 0], (τ'.put r R).put c (.tip ([] ++ [AV.ptr r 0 0]).length 215 1)⟩, by simp, ⟨hl8, by first | exact haf | exact haf.trans i2, by simp at i3 ⊢; omega, by have := (hte rfl).2.2; simp only at this hrm ⊢; omega, by simp only [rowsOk_append, i5]; rfl, k8, .inr (.inr ⟨c, rfl, put_same _ _ _, hcq, hco, hcσ⟩)⟩, Env.Sub_of_has (by simp [Env.Has, Env.get]), by simp only [pO, nodeO, List.nil_append]; exact Store.Sub.refl _⟩
      | false =>
        have haf : altB (B s) ch (f + 1) p5 = p8 := by simp only [altB, hr2, hp8, Bool.false_eq_true, if_false]
        rw [haf]
        simp -dsimp (disch:=omega) only[go_sem,sw, ot, otq, hq1, i5, put_swap hco, put_oth hqc]
        repeat' first |refine s1 ?_|refine gS ?_|refine wT rfl ?_|refine wF rfl ?_|refine wt rfl ?_|refine wf rfl ?_|(refine wC rfl (fun h=>?_) (fun h=>?_)<;>(try contradiction))|((first|refine rd ?_|refine ry [] c0 fun nu _ _=>?_);simp -dsimp (disch:=omega) only[go_sem,sw, ot, otq, hq1, i5, put_swap hco, put_oth hqc])|refine e0 (by decide) ?_|(refine zA ?_ ?_;omega)|refine zA (of_eq_true PutAt_put) ?_|refine gT ?_|refine gF ?_|(refine gI (fun h=>?_) (fun h=>?_)<;>(try contradiction)<;>(try refine rd ?_)<;>(try simp -dsimp (disch:=omega) only[go_sem,h,sw, ot, otq, hq1, i5, put_swap hco, put_oth hqc]))|refine zX _ (zX _ (zA (zA rfl rfl) ?_)) |refine uw (tk _) ?_ |fail
        all_goals exact Sub_in k8 hq
    · have ht1 : τ1 t = some (.tip rows.length 215 1) := by rw [← hτ1, put_oth htq]; exact ht
      have htr : t ≠ r := fun e => by rw [e, hr] at ht1; cases ht1
      have ht2 := j6 _ _ ht1
      have hqt : q ≠ t := fun e => htq e.symm
      have hcσ := hts
      have hcq := htq
      have hco := hto
      have k8 := keep_new (x := .tip (rows ++ [AV.ptr r 0 0]).length 215 1) k7 hcσ
      cases b8 with
      | true =>
        have haf : altB (B s) ch f p8 = altB (B s) ch (f + 1) p5 := by simp only [altB, hr2, hp8, if_true]
        repeat' first |refine s1 ?_|refine gS ?_|refine wT rfl ?_|refine wF rfl ?_|refine wt rfl ?_|refine wf rfl ?_|(refine wC rfl (fun h=>?_) (fun h=>?_)<;>(try contradiction))|((first|refine rd ?_|refine ry [] c0 fun nu _ _=>?_);simp -dsimp (disch:=omega) only[go_sem,sw, ot, otq, hq1, i5, put_swap hto, put_oth hto, put_oth htr, ht2, put_oth hqt])|refine e0 (by decide) ?_|(refine zA ?_ ?_;omega)|refine zA (of_eq_true PutAt_put) ?_|refine gT ?_|refine gF ?_|(refine gI (fun h=>?_) (fun h=>?_)<;>(try contradiction)<;>(try refine rd ?_)<;>(try simp -dsimp (disch:=omega) only[go_sem,h,sw, ot, otq, hq1, i5, put_swap hto, put_oth hto, put_oth htr, ht2, put_oth hqt]))|refine zX _ (zX _ (zA (zA rfl rfl) ?_)) |refine uw (tk _) ?_ |fail
        refine ⟨⟨f, p8, .tip t, rows ++ [.ptr r 0 0], (τ'.put r R).put t (.tip (rows ++ [AV.ptr r 0 0]).length 215 1)⟩, by simp, ⟨hl8, by first | exact haf | exact haf.trans i2, by simp at i3 ⊢; omega, by have := (hte rfl).2.2; simp only at this hrm ⊢; omega, by simp only [rowsOk_append, i5]; rfl, k8, .inr (.inr ⟨t, rfl, put_same _ _ _, hcq, hco, hcσ⟩)⟩, Env.Sub_of_has (by simp [Env.Has, Env.get]), by simp only [pO, nodeO, List.nil_append]; exact Store.Sub.refl _⟩
      | false =>
        have haf : altB (B s) ch (f + 1) p5 = p8 := by simp only [altB, hr2, hp8, Bool.false_eq_true, if_false]
        rw [haf]
        repeat' first |refine s1 ?_|refine gS ?_|refine wT rfl ?_|refine wF rfl ?_|refine wt rfl ?_|refine wf rfl ?_|(refine wC rfl (fun h=>?_) (fun h=>?_)<;>(try contradiction))|((first|refine rd ?_|refine ry [] c0 fun nu _ _=>?_);simp -dsimp (disch:=omega) only[go_sem,sw, ot, otq, hq1, i5, put_swap hto, put_oth hto, put_oth htr, ht2, put_oth hqt])|refine e0 (by decide) ?_|(refine zA ?_ ?_;omega)|refine zA (of_eq_true PutAt_put) ?_|refine gT ?_|refine gF ?_|(refine gI (fun h=>?_) (fun h=>?_)<;>(try contradiction)<;>(try refine rd ?_)<;>(try simp -dsimp (disch:=omega) only[go_sem,h,sw, ot, otq, hq1, i5, put_swap hto, put_oth hto, put_oth htr, ht2, put_oth hqt]))|refine zX _ (zX _ (zA (zA rfl rfl) ?_)) |refine uw (tk _) ?_ |fail
        all_goals exact Sub_in k8 hq
end
end Go.Proofs.YtaealcimocpnnaaGreat

namespace Go.Proofs.YtaealcimocpnnaaGreat
open Go.Kern
set_option maxRecDepth 100000
set_option maxHeartbeats 4000000
attribute [local irreducible] PCall W
attribute [local go_sem] pO
theorem choice_all (s : ByteArray) (hs : s.size ≤ 1000) : ∀ n, n ≤ 8 → ChS s n
  | 0, _ => choice_zero s hs
  | n + 1, h => choice_spec s hs n (by omega) (choice_all s hs n (by omega))
section
variable (s : ByteArray) (hs : s.size ≤ 1000)
include hs
theorem parse_spec (σ : Store) :
    PCall Tryz.prog 129 [.str s] σ (fun r t => (∃ x, r = .tup [x, .int .i64 (parseE (B s))]) ∧ t = σ) := by
  have hl := length_B s
  by_cases hlong : 64 < (B s).length
  · have hE : parseE (B s) = 2 := by rw [parseE, if_pos hlong]
    rw [hE]
    refine PCall_w [.tmp 2, .tmp 3] 64 Tryz.func129 (by rfl) rfl rfl rfl rfl ?_
    repeat' first |refine s1 ?_|refine gS ?_|refine wT rfl ?_|refine wF rfl ?_|refine wt rfl ?_|refine wf rfl ?_|(refine wC rfl (fun h=>?_) (fun h=>?_)<;>(try contradiction))|((first|refine rd ?_|refine ry [] c0 fun nu _ _=>?_);simp -dsimp (disch:=omega) only[go_sem])|refine e0 (by decide) ?_|(refine zA ?_ ?_;omega)|refine zA (of_eq_true PutAt_put) ?_|refine gT ?_|refine gF ?_|(refine gI (fun h=>?_) (fun h=>?_)<;>(try contradiction)<;>(try refine rd ?_)<;>(try simp -dsimp (disch:=omega) only[go_sem,h]))|refine zX _ (zX _ (zA (zA rfl rfl) ?_)) |fail
    exact ⟨_, Store.Sub.refl _, ⟨_, rfl⟩, rfl⟩
  · have h1 : ∀ o (σ : Store), _ := fun o σ => take_spec s hs ⟨0, 0⟩ (Nat.zero_le _) 94 o σ
    have hl1 := (take_mono (B s) 94).len ⟨0, 0⟩ (Nat.zero_le _)
    obtain ⟨b1, p1, hp1⟩ : ∃ b1 p1, takeB (B s) 94 ⟨0, 0⟩ = (b1, p1) := ⟨_, _, rfl⟩
    simp only [hp1] at h1 hl1
    have h2 := fun o => choice_all s hs 8 (Nat.le_refl _) p1 hl1 o
    have hl2 := (choice_mono (B s) 8).len p1 hl1
    obtain ⟨p2, hp2⟩ : ∃ x, choiceB (B s) 8 p1 = x := ⟨_, rfl⟩
    simp only [hp2] at h2 hl2
    have h3 := fun o => take_spec s hs p2 hl2 36 o
    have hl3 := (take_mono (B s) 36).len p2 hl2
    obtain ⟨b3, p3, hp3⟩ : ∃ b1 p1, takeB (B s) 36 p2 = (b1, p1) := ⟨_, _, rfl⟩
    simp only [hp3] at h3 hl3
    have h4 := fun o => peek_spec s hs p3 hl3 o
    have hE : parseE (B s) = if p3.e = 0 then (if skipB (B s) p3.at_ < (B s).length then 4 else 0) else p3.e := by
      rw [parseE, if_neg hlong]; simp only [hp1, hp2, hp3]
    have h89 : (9 - ((8 : Nat) : Int)) = 1 := by omega
    simp only [h89] at h2
    have h5 : ∀ (o : Nat) (q : PS) (σ : Store), PCall Tryz.prog 166 [.ptr o 0 0, .int .i64 4] (σ.put o (pO s q)) (fun r t => r = .tup [] ∧ t = σ.put o (pO s (failB 4 q))) := fun o q σ => fail_spec s q 4 o σ
    obtain ⟨a3, e3⟩ := p3
    simp only at hE h4 hl3
    have hsk := skipB_len (B s) hl3
    obtain ⟨a4, ha4⟩ : ∃ x, skipB (B s) a3 = x := ⟨_, rfl⟩
    simp only [ha4] at hE h4 hsk
    rw [hE]
    by_cases he : e3 = 0
    · subst he
      rw [if_pos rfl]
      by_cases hlt : a4 < (B s).length
      · rw [if_pos hlt]
        refine PCall_w [.tmp 2, .tmp 3] 64 Tryz.func129 (by rfl) rfl rfl rfl rfl ?_
        repeat' first |refine s1 ?_|refine gS ?_|refine wT rfl ?_|refine wF rfl ?_|refine wt rfl ?_|refine wf rfl ?_|(refine wC rfl (fun h=>?_) (fun h=>?_)<;>(try contradiction))|((first|refine s3 (mu:=[11,15]) ?_|refine rd ?_|refine ry [11,15] c0 fun nu _ _=>?_);simp -dsimp (disch:=omega) only[go_sem])|refine e0 (by decide) ?_|(refine zA ?_ ?_;omega)|refine zA (of_eq_true PutAt_put) ?_|refine gT ?_|refine gF ?_|(refine gI (fun h=>?_) (fun h=>?_)<;>(try contradiction)<;>(try refine rd ?_)<;>(try simp -dsimp (disch:=omega) only[go_sem,h]))|refine zX _ (zX _ (zA (zA rfl rfl) ?_)) |fail
        intro o ho
        repeat' first |refine s1 ?_|refine gS ?_|refine wT rfl ?_|refine wF rfl ?_|refine wt rfl ?_|refine wf rfl ?_|(refine wC rfl (fun h=>?_) (fun h=>?_)<;>(try contradiction))|((first|refine s3 (mu:=[11,15]) ?_|refine rd ?_|refine ry [11,15] c0 fun nu _ _=>?_);simp -dsimp (disch:=omega) only[go_sem])|refine e0 (by decide) ?_|(refine zA ?_ ?_;omega)|refine zA (of_eq_true PutAt_put) ?_|refine gT ?_|refine gF ?_|(refine gI (fun h=>?_) (fun h=>?_)<;>(try contradiction)<;>(try refine rd ?_)<;>(try simp -dsimp (disch:=omega) only[go_sem,h]))|refine zX _ (zX _ (zA (zA rfl rfl) ?_)) |refine uw (h1 o _) ?_ |fail
        intro x hx
        have hxo := alloc_ne hx
        rw [put_oth hxo] at hx
        have sw := put_swap hxo
        have ot := put_oth hxo
        simp only [sw]
        repeat' first |refine s1 ?_|refine gS ?_|refine wT rfl ?_|refine wF rfl ?_|refine wt rfl ?_|refine wf rfl ?_|(refine wC rfl (fun h=>?_) (fun h=>?_)<;>(try contradiction))|((first|refine rd ?_|refine ry (id:=10) [] (cq [3]) fun nu _ _=>?_|refine ry [] c0 fun nu _ _=>?_);simp -dsimp (disch:=omega) only[go_sem,sw, ot])|refine e0 (by decide) ?_|(refine zA ?_ ?_;omega)|refine zA (of_eq_true PutAt_put) ?_|refine gT ?_|refine gF ?_|(refine gI (fun h=>?_) (fun h=>?_)<;>(try contradiction)<;>(try refine rd ?_)<;>(try simp -dsimp (disch:=omega) only[go_sem,h,sw, ot]))|refine zX _ (zX _ (zA (zA rfl rfl) ?_)) |refine uw (h2 o _) ?_ |refine uw (h3 o _) ?_ |refine uw (h4 o _) ?_ |refine uw (h5 o ⟨a4, 0⟩ _) ?_ |fail
        all_goals exact ⟨_, keep_new (keep_new (fun _ _ h => h) hx) ho, ⟨_, rfl⟩, rfl⟩
      · rw [if_neg hlt]
        have hc0 : chr (B s) a4 = 0 := if_neg hlt
        refine PCall_w [.tmp 2, .tmp 3] 64 Tryz.func129 (by rfl) rfl rfl rfl rfl ?_
        repeat' first |refine s1 ?_|refine gS ?_|refine wT rfl ?_|refine wF rfl ?_|refine wt rfl ?_|refine wf rfl ?_|(refine wC rfl (fun h=>?_) (fun h=>?_)<;>(try contradiction))|((first|refine s3 (mu:=[11,15]) ?_|refine rd ?_|refine ry [11,15] c0 fun nu _ _=>?_);simp -dsimp (disch:=omega) only[go_sem])|refine e0 (by decide) ?_|(refine zA ?_ ?_;omega)|refine zA (of_eq_true PutAt_put) ?_|refine gT ?_|refine gF ?_|(refine gI (fun h=>?_) (fun h=>?_)<;>(try contradiction)<;>(try refine rd ?_)<;>(try simp -dsimp (disch:=omega) only[go_sem,h]))|refine zX _ (zX _ (zA (zA rfl rfl) ?_)) |fail
        intro o ho
        repeat' first |refine s1 ?_|refine gS ?_|refine wT rfl ?_|refine wF rfl ?_|refine wt rfl ?_|refine wf rfl ?_|(refine wC rfl (fun h=>?_) (fun h=>?_)<;>(try contradiction))|((first|refine s3 (mu:=[11,15]) ?_|refine rd ?_|refine ry [11,15] c0 fun nu _ _=>?_);simp -dsimp (disch:=omega) only[go_sem])|refine e0 (by decide) ?_|(refine zA ?_ ?_;omega)|refine zA (of_eq_true PutAt_put) ?_|refine gT ?_|refine gF ?_|(refine gI (fun h=>?_) (fun h=>?_)<;>(try contradiction)<;>(try refine rd ?_)<;>(try simp -dsimp (disch:=omega) only[go_sem,h]))|refine zX _ (zX _ (zA (zA rfl rfl) ?_)) |refine uw (h1 o _) ?_ |fail
        intro x hx
        have hxo := alloc_ne hx
        rw [put_oth hxo] at hx
        have sw := put_swap hxo
        have ot := put_oth hxo
        simp only [sw]
        repeat' first |refine s1 ?_|refine gS ?_|refine wT rfl ?_|refine wF rfl ?_|refine wt rfl ?_|refine wf rfl ?_|(refine wC rfl (fun h=>?_) (fun h=>?_)<;>(try contradiction))|((first|refine rd ?_|refine ry (id:=10) [] (cq [3]) fun nu _ _=>?_|refine ry [] c0 fun nu _ _=>?_);simp -dsimp (disch:=omega) only[go_sem,sw, ot, hc0])|refine e0 (by decide) ?_|(refine zA ?_ ?_;omega)|refine zA (of_eq_true PutAt_put) ?_|refine gT ?_|refine gF ?_|(refine gI (fun h=>?_) (fun h=>?_)<;>(try contradiction)<;>(try refine rd ?_)<;>(try simp -dsimp (disch:=omega) only[go_sem,h,sw, ot, hc0]))|refine zX _ (zX _ (zA (zA rfl rfl) ?_)) |refine uw (h2 o _) ?_ |refine uw (h3 o _) ?_ |refine uw (h4 o _) ?_ |refine uw (h5 o ⟨a4, 0⟩ _) ?_ |fail
        all_goals exact ⟨_, keep_new (keep_new (fun _ _ h => h) hx) ho, ⟨_, rfl⟩, rfl⟩
    · rw [if_neg he]
      refine PCall_w [.tmp 2, .tmp 3] 64 Tryz.func129 (by rfl) rfl rfl rfl rfl ?_
      repeat' first |refine s1 ?_|refine gS ?_|refine wT rfl ?_|refine wF rfl ?_|refine wt rfl ?_|refine wf rfl ?_|(refine wC rfl (fun h=>?_) (fun h=>?_)<;>(try contradiction))|((first|refine s3 (mu:=[11,15]) ?_|refine rd ?_|refine ry [11,15] c0 fun nu _ _=>?_);simp -dsimp (disch:=omega) only[go_sem])|refine e0 (by decide) ?_|(refine zA ?_ ?_;omega)|refine zA (of_eq_true PutAt_put) ?_|refine gT ?_|refine gF ?_|(refine gI (fun h=>?_) (fun h=>?_)<;>(try contradiction)<;>(try refine rd ?_)<;>(try simp -dsimp (disch:=omega) only[go_sem,h]))|refine zX _ (zX _ (zA (zA rfl rfl) ?_)) |fail
      intro o ho
      repeat' first |refine s1 ?_|refine gS ?_|refine wT rfl ?_|refine wF rfl ?_|refine wt rfl ?_|refine wf rfl ?_|(refine wC rfl (fun h=>?_) (fun h=>?_)<;>(try contradiction))|((first|refine s3 (mu:=[11,15]) ?_|refine rd ?_|refine ry [11,15] c0 fun nu _ _=>?_);simp -dsimp (disch:=omega) only[go_sem])|refine e0 (by decide) ?_|(refine zA ?_ ?_;omega)|refine zA (of_eq_true PutAt_put) ?_|refine gT ?_|refine gF ?_|(refine gI (fun h=>?_) (fun h=>?_)<;>(try contradiction)<;>(try refine rd ?_)<;>(try simp -dsimp (disch:=omega) only[go_sem,h]))|refine zX _ (zX _ (zA (zA rfl rfl) ?_)) |refine uw (h1 o _) ?_ |fail
      intro x hx
      have hxo := alloc_ne hx
      rw [put_oth hxo] at hx
      have sw := put_swap hxo
      have ot := put_oth hxo
      simp only [sw]
      repeat' first |refine s1 ?_|refine gS ?_|refine wT rfl ?_|refine wF rfl ?_|refine wt rfl ?_|refine wf rfl ?_|(refine wC rfl (fun h=>?_) (fun h=>?_)<;>(try contradiction))|((first|refine rd ?_|refine ry (id:=10) [] (cq [3]) fun nu _ _=>?_|refine ry [] c0 fun nu _ _=>?_);simp -dsimp (disch:=omega) only[go_sem,sw, ot, he])|refine e0 (by decide) ?_|(refine zA ?_ ?_;omega)|refine zA (of_eq_true PutAt_put) ?_|refine gT ?_|refine gF ?_|(refine gI (fun h=>?_) (fun h=>?_)<;>(try contradiction)<;>(try refine rd ?_)<;>(try simp -dsimp (disch:=omega) only[go_sem,h,sw, ot, he]))|refine zX _ (zX _ (zA (zA rfl rfl) ?_)) |refine uw (h2 o _) ?_ |refine uw (h3 o _) ?_ |refine uw (h4 o _) ?_ |refine uw (h5 o ⟨a4, 0⟩ _) ?_ |fail
      all_goals exact ⟨_, keep_new (keep_new (fun _ _ h => h) hx) ho, ⟨_, rfl⟩, rfl⟩
end
end Go.Proofs.YtaealcimocpnnaaGreat

namespace Go.Proofs.YtaealcimocpnnaaGreat
open Go.Kern
theorem PCall_any2 {P : Program} {f : FuncId} {args : List AV} {σ τ : Store} {y : AV} (h : PCall P f args σ (fun r t => (∃ x, r = .tup [x, y]) ∧ t = τ)) : PCall P f args σ (fun r t => r = .tup [.any, y] ∧ t = τ) := by
  refine ⟨h.1, ?_⟩
  refine fun g w vs hl hr hc => (h.2 g w vs hl hr hc).mono ?_
  rintro e w' ⟨v, he, g', r, σ', h1, h2, h3, ⟨x, rfl⟩, h5⟩
  refine ⟨v, he, g', _, σ', h1, h2, ?_, rfl, h5⟩
  cases h3 with
  | tup hl h =>
    refine .tup hl fun i c v hc hv => ?_
    match i with
    | 0 => simp at hc; subst hc; exact .any _
    | 1 => exact h 1 c v hc hv
    | i + 2 => simp at hc
set_option maxRecDepth 100000
set_option maxHeartbeats 4000000
attribute [local irreducible] PCall W
theorem parse_pure (s : ByteArray) (hs : s.size ≤ 1000) : Pure Tryz.prog 129 [.str s] (.tup [.any, .int .i64 (parseE (B s))]) := fun σ => PCall_any2 (parse_spec s hs σ)
def matMay (m : Mat) : Bool := (decide (m.path.size = 0) || (decide (parseE (B m.path) = 0) && quotableB m.path)) && (usedB m.list && ((decide (m.c.asn = 0) && decide (m.c.n = 0)) || comMay m.c))
theorem matMay_spec (m : Mat) (hp : m.path.size ≤ 1000) (hlst : m.list.size ≤ 1000) : Pure Tryz.prog 78 [eMat m] (.bool (matMay m)) := by
  intro σ
  have h1 := parse_pure m.path hp
  have h2 := quotable_spec m.path (by omega)
  have h3 := used_spec m.list (by omega)
  have h4 := comMay_spec m.c
  by_cases hz : m.path.size = 0
  · have hm := (empty_iff m.path).2 hz
    have hv : matMay m = (usedB m.list && ((decide (m.c.asn = 0) && decide (m.c.n = 0)) || comMay m.c)) := by simp [matMay, hz]
    rw [hv]
    refine PCall_q [.tmp 2] 36 Tryz.func78 (by rfl) rfl rfl rfl rfl ?_
    repeat' first |refine s1 ?_|refine gS ?_|refine wT rfl ?_|refine wF rfl ?_|refine wt rfl ?_|refine wf rfl ?_|(refine wC rfl (fun h=>?_) (fun h=>?_)<;>(try contradiction))|((first|refine rd ?_|refine ry [] c0 fun nu _ _=>?_);simp -dsimp (disch:=omega) only[go_sem,eMat, eCom, hm])|refine e0 (by decide) ?_|(refine zA ?_ ?_;omega)|refine zA (of_eq_true PutAt_put) ?_|refine gT ?_|refine gF ?_|(refine gI (fun h=>?_) (fun h=>?_)<;>(try contradiction)<;>(try refine rd ?_)<;>(try simp -dsimp (disch:=omega) only[go_sem,h,eMat, eCom, hm]))|refine zX _ (zX _ (zA (zA rfl rfl) ?_)) |refine us (h3) ?_ |refine us (h4) ?_ |fail
    all_goals (first | simp only [*, Bool.true_and, Bool.false_and, Bool.false_or, Bool.true_or])
  · have hm : ¬ m.path = ⟨#[]⟩ := fun k => hz ((empty_iff m.path).1 k)
    by_cases he : parseE (B m.path) = 0
    · have hv : matMay m = (quotableB m.path && (usedB m.list && ((decide (m.c.asn = 0) && decide (m.c.n = 0)) || comMay m.c))) := by simp [matMay, hz, he]
      rw [hv]
      rw [he] at h1
      refine PCall_q [.tmp 2] 36 Tryz.func78 (by rfl) rfl rfl rfl rfl ?_
      repeat' first |refine s1 ?_|refine gS ?_|refine wT rfl ?_|refine wF rfl ?_|refine wt rfl ?_|refine wf rfl ?_|(refine wC rfl (fun h=>?_) (fun h=>?_)<;>(try contradiction))|((first|refine rd ?_|refine ry [] c0 fun nu _ _=>?_);simp -dsimp (disch:=omega) only[go_sem,eMat, eCom, hm])|refine e0 (by decide) ?_|(refine zA ?_ ?_;omega)|refine zA (of_eq_true PutAt_put) ?_|refine gT ?_|refine gF ?_|(refine gI (fun h=>?_) (fun h=>?_)<;>(try contradiction)<;>(try refine rd ?_)<;>(try simp -dsimp (disch:=omega) only[go_sem,h,eMat, eCom, hm]))|refine zX _ (zX _ (zA (zA rfl rfl) ?_)) |refine us (h1) ?_ |refine us (h2) ?_ |refine us (h3) ?_ |refine us (h4) ?_ |fail
      all_goals (first | simp only [*, Bool.true_and, Bool.false_and, Bool.false_or, Bool.true_or])
    · have hv : matMay m = false := by simp [matMay, hz, he]
      rw [hv]
      refine PCall_q [.tmp 2] 36 Tryz.func78 (by rfl) rfl rfl rfl rfl ?_
      repeat' first |refine s1 ?_|refine gS ?_|refine wT rfl ?_|refine wF rfl ?_|refine wt rfl ?_|refine wf rfl ?_|(refine wC rfl (fun h=>?_) (fun h=>?_)<;>(try contradiction))|((first|refine rd ?_|refine ry [] c0 fun nu _ _=>?_);simp -dsimp (disch:=omega) only[go_sem,eMat, eCom, hm, he])|refine e0 (by decide) ?_|(refine zA ?_ ?_;omega)|refine zA (of_eq_true PutAt_put) ?_|refine gT ?_|refine gF ?_|(refine gI (fun h=>?_) (fun h=>?_)<;>(try contradiction)<;>(try refine rd ?_)<;>(try simp -dsimp (disch:=omega) only[go_sem,h,eMat, eCom, hm, he]))|refine zX _ (zX _ (zA (zA rfl rfl) ?_)) |refine us (h1) ?_ |refine us (h2) ?_ |refine us (h3) ?_ |refine us (h4) ?_ |fail
end Go.Proofs.YtaealcimocpnnaaGreat

namespace Go.Proofs.YtaealcimocpnnaaGreat
open Go.Kern
set_option maxRecDepth 100000
set_option maxHeartbeats 4000000
attribute [local irreducible] PCall W
def lastO (n : Int) : Ob := .arr 3 [.int .i64 n]
def lastN (last n : Int) : Int := if last < (if 65535 < n then 65535 else n) then (if 65535 < n then 65535 else n) else last
def clsMay (last : Int) (c : Cls) : Bool := withinZ c.n (last + 1) 65535 && (matMay c.m && chgMay c.s)
theorem mapMay1_spec (c : Cls) (hc : c.s.Fits) (hp : c.m.path.size ≤ 1000) (hm : c.m.list.size ≤ 1000) (last : Int) (h0 : 0 ≤ last) (h1 : last ≤ 65535) (o : Nat) (σ : Store) :
    PCall Tryz.prog 76 [eCls c, .ptr o 0 0] (σ.put o (lastO last)) (fun r t => r = .bool (clsMay last c) ∧ t = σ.put o (lastO (lastN last c.n))) := by
  have w1 := within_spec c.n (last + 1) 65535
  have w2 := matMay_spec c.m hp hm
  have w3 := chgMay_spec c.s hc
  obtain ⟨b1, hb1⟩ : ∃ b, withinZ c.n (last + 1) 65535 = b := ⟨_, rfl⟩
  obtain ⟨b2, hb2⟩ : ∃ b, matMay c.m = b := ⟨_, rfl⟩
  obtain ⟨b3, hb3⟩ : ∃ b, chgMay c.s = b := ⟨_, rfl⟩
  simp only [clsMay, hb1, hb2, hb3] at w1 w2 w3 ⊢
  refine PCall_w [.tmp 3] 26 Tryz.func76 (by rfl) rfl rfl rfl rfl ?_
  repeat' first |refine s1 ?_|refine gS ?_|refine wT rfl ?_|refine wF rfl ?_|refine wt rfl ?_|refine wf rfl ?_|(refine wC rfl (fun h=>?_) (fun h=>?_)<;>(try contradiction))|((first|refine rd ?_|refine ry [] c0 fun nu _ _=>?_);simp -dsimp (disch:=omega) only[go_sem,eCls, eMat, eChg, eCom, lastO])|refine e0 (by decide) ?_|(refine zA ?_ ?_;omega)|refine zA (of_eq_true PutAt_put) ?_|refine gT ?_|refine gF ?_|(refine gI (fun h=>?_) (fun h=>?_)<;>(try contradiction)<;>(try refine rd ?_)<;>(try simp -dsimp (disch:=omega) only[go_sem,h,eCls, eMat, eChg, eCom, lastO]))|refine zX _ (zX _ (zA (zA rfl rfl) ?_)) |refine us (w1) ?_ |refine us (w2) ?_ |refine us (w3) ?_ |fail
  all_goals (simp only [*, Bool.true_and, Bool.false_and]; exact ⟨_, Store.Sub.refl _, trivial, rfl⟩)
end Go.Proofs.YtaealcimocpnnaaGreat

