/- What the claim needs, part 5: Ci Cj Ck Cl Cc Cm Cn Co Cd. Conditions: none. -/
import Derived.Test.YtaealcimocpnnaaGreatPrd
set_option linter.unusedVariables false
set_option linter.unusedSimpArgs false
set_option linter.unusedSectionVars false
namespace Go.Proofs.YtaealcimocpnnaaGreat
open Go.Kern Go.RowKit
structure Nd where
  kind : Int
  dot : Bool
  set : Bool
  k1 : SK
  fr : List AV
  k2 : SK
  tl : List AV
  k3 : SK
  kids : List AV
def eNd (v : Nd) : AV := .agg [.int .i64 v.kind, .bool v.dot, .bool v.set, .sl v.k1 v.fr, .sl v.k2 v.tl, .sl v.k3 v.kids]
def NR (σ : Store) (q : Nat × Int) (r : AV) (t : Store) : Prop := (∃ v : Nd, r = .tup [eNd v, .int .i64 q.1, .int .i64 q.2]) ∧ t = σ
theorem NR_end {σ τ : Store} {q : Nat × Int} {kind : Int} {dot set : Bool} {k1 k2 k3 : SK} {fr tl kids : List AV} {x y : AV} (hs : σ.Sub τ) (hx : x = .int .i64 q.1) (hy : y = .int .i64 q.2) :
    ∃ s0 : Store, s0.Sub τ ∧ NR σ q (.tup [.agg [.int .i64 kind, .bool dot, .bool set, .sl k1 fr, .sl k2 tl, .sl k3 kids], x, y]) s0 :=
  ⟨σ, hs, ⟨⟨kind, dot, set, k1, fr, k2, tl, k3, kids⟩, by rw [hx, hy]; rfl⟩, rfl⟩
def ndO (kind : Int) (set : Bool) (k1 : SK) (fr : List AV) (k2 : SK) (tl : List AV) (k3 : SK) (kids : List AV) : Ob := .arr 178 [.agg [.int .i64 kind, .bool false, .bool set, .sl k1 fr, .sl k2 tl, .sl k3 kids]]
section
variable (l : List UInt8)
theorem rPart_le {i : Nat} (hi : i ≤ l.length) : i ≤ (rPart l i).1 ∧ (rPart l i).1 ≤ l.length ∧ ((rPart l i).2 = 0 → i < (rPart l i).1) := by
  obtain ⟨a1, a2, a3⟩ := rNumber_le l hi
  unfold rPart
  simp only
  by_cases h1 : (rNumber l i).2.2 ≠ 0
  · rw [if_pos h1]; exact ⟨Nat.le_refl _, hi, fun h => absurd h h1⟩
  rw [if_neg h1]
  have a4 := a3 (Decidable.of_not_not h1)
  by_cases h2 : isB l (rNumber l i).2.1 45 = true
  · rw [if_pos h2]
    have h3 := isB_lt l h2
    have h4 := skipB_le l (rNumber l i).2.1
    obtain ⟨b1, b2, b3⟩ := rNumber_le l (i := skipB l (rNumber l i).2.1 + 1) h3
    by_cases h5 : (rNumber l (skipB l (rNumber l i).2.1 + 1)).2.2 ≠ 0
    · rw [if_pos h5]; exact ⟨Nat.le_refl _, hi, fun h => absurd h h5⟩
    rw [if_neg h5]
    by_cases h6 : (rNumber l (skipB l (rNumber l i).2.1 + 1)).1 < (rNumber l i).1
    · rw [if_pos h6]; exact ⟨Nat.le_refl _, hi, fun h => by simp at h⟩
    · rw [if_neg h6]; simp only; exact ⟨by omega, by omega, fun _ => by omega⟩
  · rw [if_neg h2]; exact ⟨a1, a2, fun _ => a4⟩
theorem rSet_le : ∀ (n i : Nat), i ≤ l.length → (rSet l n i).1 ≤ l.length ∧ i ≤ (rSet l n i).1
  | 0, i, hi => ⟨hi, Nat.le_refl _⟩
  | n + 1, i, hi => by
    obtain ⟨a1, a2, a3⟩ := rPart_le l hi
    rw [rSet]
    by_cases h1 : isB l i 93 = true
    · have := isB_lt l h1
      have := skipB_le l i
      rw [if_pos h1]; simp only; omega
    rw [if_neg h1]
    by_cases h2 : (rPart l i).2 ≠ 0
    · rw [if_pos h2]; exact ⟨a2, a1⟩
    · rw [if_neg h2]
      have := rSet_le n (rPart l i).1 a2
      omega
def setG (b : Bool) (n i : Nat) : Nat × Int := if b = true then rSet1 l n i else rSet l (n + 1) i
theorem setG_stop {n i : Nat} (h : isB l i 93 = true) : setG l false n i = (skipB l i + 1, 0) := by
  rw [setG, if_neg (by simp), rSet, if_pos h]
theorem setG_bad {b : Bool} {n i : Nat} (hb : b = true ∨ isB l i 93 = false) (h : (rPart l i).2 ≠ 0) : setG l b n i = rPart l i := by
  unfold setG rSet1
  cases b with
  | true => rw [if_pos rfl, if_pos h]
  | false =>
    have h1 : ¬ isB l i 93 = true := by rcases hb with h | h
                                        · cases h
                                        · rw [h]; simp
    rw [if_neg (by simp), rSet, if_neg h1, if_pos h]
theorem setG_go {b : Bool} {n i k : Nat} (hb : b = true ∨ isB l i 93 = false) (h : rPart l i = (k, 0)) : setG l b (n + 1) i = setG l false n k := by
  unfold setG rSet1
  have h2 : ¬ (rPart l i).2 ≠ 0 := by rw [h]; simp
  cases b with
  | true => rw [if_pos rfl, if_neg h2, if_neg (by simp), h]
  | false =>
    have h1 : ¬ isB l i 93 = true := by rcases hb with h | h
                                        · cases h
                                        · rw [h]; simp
    rw [if_neg (by simp), if_neg (by simp), rSet, if_neg h1, if_neg h2, h]
end
structure SetL where
  b : Bool
  fuel : Nat
  i : Nat
  k1 : SK
  fr : List AV
  k2 : SK
  tl : List AV
  τ : Store
def SetK (σ τ : Store) (q r : Nat) (b : Bool) (k1 : SK) (fr : List AV) (k2 : SK) (tl : List AV) : Prop :=
  (b = true ∧ k1 = .nil ∧ fr = [] ∧ k2 = .nil ∧ tl = []) ∨ (b = false ∧ 0 < fr.length ∧ ∃ t u, k1 = .tip t ∧ k2 = .tip u ∧ τ t = some (.tip fr.length 3 1) ∧ τ u = some (.tip tl.length 3 1) ∧ u ≠ t ∧ t ≠ q ∧ t ≠ r ∧ u ≠ q ∧ u ≠ r ∧ σ t = none ∧ σ u = none)
set_option maxRecDepth 100000
set_option maxHeartbeats 4000000
attribute [local irreducible] PCall W
section
variable (s : ByteArray) (hs : s.size ≤ 1000)
include hs
theorem rset_spec (i : Nat) (hi : i ≤ (B s).length) (σ : Store) : PCall Tryz.prog 203 [.str s, .int .i64 i] σ (NR σ (rSet1 (B s) ((B s).length + 2) i)) := by
  have hl := length_B s
  refine PCall_w [.cell 4 178, .tmp 5, .tmp 6] 77 Tryz.func203 (by rfl) rfl rfl rfl rfl ?_
  repeat' first |refine s1 ?_|refine gS ?_|refine wT rfl ?_|refine wF rfl ?_|refine wt rfl ?_|refine wf rfl ?_|(refine wC rfl (fun h=>?_) (fun h=>?_)<;>(try contradiction))|((first|refine rd ?_|refine ry [] c0 fun nu _ _=>?_);simp -dsimp (disch:=omega) only[go_sem])|refine e0 (by decide) ?_|(refine And.intro ?_ ?_;omega)|refine And.intro (of_eq_true PutAt_put) ?_|refine gT ?_|refine gF ?_|(refine gI (fun h=>?_) (fun h=>?_)<;>(try contradiction)<;>(try refine rd ?_)<;>(try simp -dsimp (disch:=omega) only[go_sem,h]))|refine Exists.intro _ (Exists.intro _ (And.intro (And.intro rfl rfl) ?_)) |fail
  intro r hr
  repeat' first |refine s1 ?_|refine gS ?_|refine wT rfl ?_|refine wF rfl ?_|refine wt rfl ?_|refine wf rfl ?_|(refine wC rfl (fun h=>?_) (fun h=>?_)<;>(try contradiction))|((first|refine rd ?_|refine ry [] c0 fun nu _ _=>?_);simp -dsimp (disch:=omega) only[go_sem])|refine e0 (by decide) ?_|(refine And.intro ?_ ?_;omega)|refine And.intro (of_eq_true PutAt_put) ?_|refine gT ?_|refine gF ?_|(refine gI (fun h=>?_) (fun h=>?_)<;>(try contradiction)<;>(try refine rd ?_)<;>(try simp -dsimp (disch:=omega) only[go_sem,h]))|refine Exists.intro _ (Exists.intro _ (And.intro (And.intro rfl rfl) ?_)) |fail
  intro q hq
  have hqr := alloc_ne hq
  rw [put_oth hqr] at hq
  have sw := put_swap hqr
  have ot := put_oth hqr
  simp only [sw]
  repeat' first |refine s1 ?_|refine gS ?_|refine wT rfl ?_|refine wF rfl ?_|refine wt rfl ?_|refine wf rfl ?_|(refine wC rfl (fun h=>?_) (fun h=>?_)<;>(try contradiction))|((first|refine rd ?_|refine ry [] c0 fun nu _ _=>?_);simp -dsimp (disch:=omega) only[go_sem,sw, ot])|refine e0 (by decide) ?_|(refine And.intro ?_ ?_;omega)|refine And.intro (of_eq_true PutAt_put) ?_|refine gT ?_|refine gF ?_|(refine gI (fun h=>?_) (fun h=>?_)<;>(try contradiction)<;>(try refine rd ?_)<;>(try simp -dsimp (disch:=omega) only[go_sem,h,sw, ot]))|refine Exists.intro _ (Exists.intro _ (And.intro (And.intro rfl rfl) ?_)) |fail
  refine W_loop_st (fun x : SetL => [(0, .str s), (1, .int .i64 x.i), (4, .ptr r 0 0), (7, .ptr q 0 0)]) (fun x => (x.τ.put q (ndO 0 true x.k1 x.fr x.k2 x.tl .nil [])).put r (ndO 0 false .nil [] .nil [] .nil []))
    (fun x => x.i ≤ (B s).length ∧ setG (B s) x.b x.fuel x.i = rSet1 (B s) ((B s).length + 2) i ∧ x.fr.length + x.fuel = (B s).length + 2 ∧ x.tl.length = x.fr.length ∧ (B s).length < x.i + x.fuel ∧ rowsOk 1 x.fr = true ∧ rowsOk 1 x.tl = true ∧ σ.Sub x.τ ∧ SetK σ x.τ q r x.b x.k1 x.fr x.k2 x.tl) (fun x => x.fuel)
    ⟨true, (B s).length + 2, i, .nil, [], .nil, [], σ⟩ ⟨hi, rfl, by simp, rfl, by simp only; omega, rfl, rfl, Store.Sub.refl _, .inl ⟨rfl, rfl, rfl, rfl, rfl⟩⟩ (Env.Sub_of_has (by simp [Env.Has, Env.get, Env.putO])) (by simp only [ndO]; exact Store.Sub.refl _) ?_
  rintro ⟨b, fuel, p, k1, fr, k2, tl, τ⟩ ⟨i1, i2, i3, i4, i5, i6, i7, i8, i9⟩
  simp only at i1 i2 i3 i4 i5 i6 i7 i8 i9 ⊢
  obtain ⟨f, rfl⟩ : ∃ f, fuel = f + 1 := ⟨fuel - 1, by omega⟩
  have fin : ∀ x y, σ.Sub ((τ.put q y).put r x) := fun x y => Sub_put (Sub_put i8 hq _) hr _
  have hb1 : b = decide ((fr.length : Int) = 0) := by
    rcases i9 with ⟨rfl, _, rfl, _⟩ | ⟨rfl, h, _⟩
    · rfl
    · rw [decide_eq_false]; omega
  have his := ris_spec s hs p (by omega) 93
  have hsk := rskip_spec s hs p (by omega)
  by_cases hend : b = false ∧ isB (B s) p 93 = true
  · obtain ⟨hb2, he⟩ := hend
    have hlt := isB_lt (B s) he
    rw [hb2, setG_stop (B s) he] at i2
    rw [← i2]
    rw [he] at his
    rw [hb2] at hb1
    have hb3 : decide ((fr.length : Int) = 0) = false := hb1.symm
    simp only [ndO] at fin ⊢
    repeat' first |refine s1 ?_|refine gS ?_|refine wT rfl ?_|refine wF rfl ?_|refine wt rfl ?_|refine wf rfl ?_|(refine wC rfl (fun h=>?_) (fun h=>?_)<;>(try contradiction))|((first|refine rd ?_|refine ry (id:=16) [] (cw [0] [5] [] [] []) fun nu _ _=>?_|refine ry [] c0 fun nu _ _=>?_);simp -dsimp (disch:=omega) only[go_sem,hb3, ot])|refine e0 (by decide) ?_|(refine And.intro ?_ ?_;omega)|refine And.intro (of_eq_true PutAt_put) ?_|refine gT ?_|refine gF ?_|(refine gI (fun h=>?_) (fun h=>?_)<;>(try contradiction)<;>(try refine rd ?_)<;>(try simp -dsimp (disch:=omega) only[go_sem,h,hb3, ot]))|refine Exists.intro _ (Exists.intro _ (And.intro (And.intro rfl rfl) ?_)) |refine us (his) ?_ |refine us (hsk) ?_ |fail
    exact NR_end (fin _ _) (by simp) rfl
  · have hb2 : b = true ∨ isB (B s) p 93 = false := by
      cases b with
      | true => exact .inl rfl
      | false => exact .inr (by cases h : isB (B s) p 93 with
        | true => exact absurd ⟨rfl, h⟩ hend
        | false => rfl)
    have hbad := setG_bad (n := f + 1) (B s) hb2
    have hgo : ∀ {k}, _ := fun {k} => setG_go (n := f) (k := k) (B s) hb2
    obtain ⟨N, hN⟩ : ∃ N, ndO 0 true k1 fr k2 tl .nil [] = N := ⟨_, rfl⟩
    obtain ⟨M, hM⟩ : ∃ M, ndO 0 false .nil [] .nil [] .nil [] = M := ⟨_, rfl⟩
    have hNq : ((τ.put q N).put r M) q = some N := by rw [put_oth hqr, put_same]
    refine W_mid [(0, .str s), (1, .int .i64 p), (4, .ptr r 0 0), (7, .ptr q 0 0)] ((τ.put q N).put r M) ?_ ?_
    · rw [← hN, ← hM]
      simp only [ndO]
      rcases hb2 with hb2 | hb2
      · rw [hb2] at hb1
        have hb3 : decide ((fr.length : Int) = 0) = true := hb1.symm
        repeat' first |refine s1 ?_|refine gS ?_|refine wT rfl ?_|refine wF rfl ?_|refine wt rfl ?_|refine wf rfl ?_|(refine wC rfl (fun h=>?_) (fun h=>?_)<;>(try contradiction))|((first|refine rd ?_|refine ry (id:=2) [] (cq [1]) fun nu _ _=>?_|refine ry [] c0 fun nu _ _=>?_);simp -dsimp (disch:=omega) only[go_sem,hb3, ot])|refine e0 (by decide) ?_|(refine And.intro ?_ ?_;omega)|refine And.intro (of_eq_true PutAt_put) ?_|refine gT ?_|refine gF ?_|(refine gI (fun h=>?_) (fun h=>?_)<;>(try contradiction)<;>(try refine rd ?_)<;>(try simp -dsimp (disch:=omega) only[go_sem,h,hb3, ot]))|refine Exists.intro _ (Exists.intro _ (And.intro (And.intro rfl rfl) ?_)) |fail
        exact ⟨Env.Sub_of_has (by simp [Env.Has, Env.get, Env.putO]), Store.Sub.refl _⟩
      · rw [hb2] at his
        cases hb3 : decide ((fr.length : Int) = 0) with
        | true =>
          repeat' first |refine s1 ?_|refine gS ?_|refine wT rfl ?_|refine wF rfl ?_|refine wt rfl ?_|refine wf rfl ?_|(refine wC rfl (fun h=>?_) (fun h=>?_)<;>(try contradiction))|((first|refine rd ?_|refine ry (id:=2) [] (cq [1]) fun nu _ _=>?_|refine ry [] c0 fun nu _ _=>?_);simp -dsimp (disch:=omega) only[go_sem,hb3, ot])|refine e0 (by decide) ?_|(refine And.intro ?_ ?_;omega)|refine And.intro (of_eq_true PutAt_put) ?_|refine gT ?_|refine gF ?_|(refine gI (fun h=>?_) (fun h=>?_)<;>(try contradiction)<;>(try refine rd ?_)<;>(try simp -dsimp (disch:=omega) only[go_sem,h,hb3, ot]))|refine Exists.intro _ (Exists.intro _ (And.intro (And.intro rfl rfl) ?_)) |fail
          exact ⟨Env.Sub_of_has (by simp [Env.Has, Env.get, Env.putO]), Store.Sub.refl _⟩
        | false =>
          repeat' first |refine s1 ?_|refine gS ?_|refine wT rfl ?_|refine wF rfl ?_|refine wt rfl ?_|refine wf rfl ?_|(refine wC rfl (fun h=>?_) (fun h=>?_)<;>(try contradiction))|((first|refine rd ?_|refine ry (id:=2) [] (cq [1]) fun nu _ _=>?_|refine ry [] c0 fun nu _ _=>?_);simp -dsimp (disch:=omega) only[go_sem,hb3, ot])|refine e0 (by decide) ?_|(refine And.intro ?_ ?_;omega)|refine And.intro (of_eq_true PutAt_put) ?_|refine gT ?_|refine gF ?_|(refine gI (fun h=>?_) (fun h=>?_)<;>(try contradiction)<;>(try refine rd ?_)<;>(try simp -dsimp (disch:=omega) only[go_sem,h,hb3, ot]))|refine Exists.intro _ (Exists.intro _ (And.intro (And.intro rfl rfl) ?_)) |refine us (his) ?_ |fail
          exact ⟨Env.Sub_of_has (by simp [Env.Has, Env.get, Env.putO]), Store.Sub.refl _⟩
    have hn1 := rnumber_spec s hs p (by omega)
    obtain ⟨a1, a2, a3⟩ := rNumber_le (B s) i1
    have hP := rPart.eq_1 (B s) p
    obtain ⟨x, k, e, hx⟩ : ∃ x k e, rNumber (B s) p = (x, k, e) := ⟨_, _, _, rfl⟩
    simp only [hx] at hn1 a1 a2 a3 hP
    by_cases he : e = 0
    · subst he
      rw [if_neg (by simp)] at hP
      have hk := ris_spec s hs k (by omega) 45
      have hk2 := rskip_spec s hs k (by omega)
      repeat' first |((fail_if_success (first|show W _ _ (Code.seq (Code.region 7 _ _) _) _ _ _|show W _ _ (Code.seq (Code.seq (Code.region 7 _ _) _) _) _ _ _));refine s1 ?_)|refine gS ?_|refine wT rfl ?_|refine wF rfl ?_|refine wt rfl ?_|refine wf rfl ?_|(refine wC rfl (fun h=>?_) (fun h=>?_)<;>(try contradiction))|((fail_if_success (first|show W _ _ (Code.region 7 _ _) _ _ _));(first|refine rd ?_|refine ry [] c0 fun nu _ _=>?_);simp -dsimp (disch:=omega) only[go_sem])|refine e0 (by decide) ?_|(refine And.intro ?_ ?_;omega)|refine And.intro (of_eq_true PutAt_put) ?_|refine gT ?_|refine gF ?_|(refine gI (fun h=>?_) (fun h=>?_)<;>(try contradiction)<;>(try refine rd ?_)<;>(try simp -dsimp (disch:=omega) only[go_sem,h]))|refine Exists.intro _ (Exists.intro _ (And.intro (And.intro rfl rfl) ?_)) |refine us (hn1) ?_ |fail
      refine W_midE (fun a : Int × Nat => [(0, .str s), (1, .int .i64 p), (4, .ptr r 0 0), (7, .ptr q 0 0), (8, .int .i64 x), (11, .int .i64 a.1), (9, .int .i64 a.2)]) (fun _ => (τ.put q N).put r M) (fun a => rPart (B s) p = (a.2, 0) ∧ a.2 ≤ (B s).length ∧ p < a.2) ?_ ?_
      · cases hm : isB (B s) k 45 with
        | false =>
          rw [hm] at hk hP
          rw [if_neg (by simp)] at hP
          repeat' first |refine s1 ?_|refine gS ?_|refine wT rfl ?_|refine wF rfl ?_|refine wt rfl ?_|refine wf rfl ?_|(refine wC rfl (fun h=>?_) (fun h=>?_)<;>(try contradiction))|((first|refine rd ?_|refine ry [] c0 fun nu _ _=>?_);simp -dsimp (disch:=omega) only[go_sem])|refine e0 (by decide) ?_|(refine And.intro ?_ ?_;omega)|refine And.intro (of_eq_true PutAt_put) ?_|refine gT ?_|refine gF ?_|(refine gI (fun h=>?_) (fun h=>?_)<;>(try contradiction)<;>(try refine rd ?_)<;>(try simp -dsimp (disch:=omega) only[go_sem,h]))|refine Exists.intro _ (Exists.intro _ (And.intro (And.intro rfl rfl) ?_)) |refine us (hk) ?_ |fail
          exact ⟨(x, k), ⟨hP, a2, a3 rfl⟩, Env.Sub_of_has (by simp [Env.Has, Env.get, Env.putO]), Store.Sub.refl _⟩
        | true =>
          have h3 := isB_lt (B s) hm
          have h4 := skipB_le (B s) k
          obtain ⟨b1, b2, b3⟩ := rNumber_le (B s) (i := skipB (B s) k + 1) h3
          have hn2 := rnumber_spec s hs (skipB (B s) k + 1) (by omega)
          rw [hm] at hk hP
          rw [if_pos rfl] at hP
          obtain ⟨y, k', e', hy⟩ : ∃ a b c, rNumber (B s) (skipB (B s) k + 1) = (a, b, c) := ⟨_, _, _, rfl⟩
          simp only [hy] at hn2 b1 b2 b3 hP
          have hcast : ((skipB (B s) k : Int) + 1) = ((skipB (B s) k + 1 : Nat) : Int) := by omega
          by_cases he' : e' = 0
          · subst he'
            rw [if_neg (by simp)] at hP
            by_cases hyx : y < x
            · rw [if_pos hyx] at hP
              have i2' := (hbad (by rw [hP]; simp)).symm.trans i2
              rw [hP] at i2'
              rw [← i2', ← hN, ← hM]
              simp only [ndO]
              repeat' first |refine s1 ?_|refine gS ?_|refine wT rfl ?_|refine wF rfl ?_|refine wt rfl ?_|refine wf rfl ?_|(refine wC rfl (fun h=>?_) (fun h=>?_)<;>(try contradiction))|((first|refine rd ?_|refine ry (id:=12) [] (cw [0] [3] [] [] []) fun nu _ _=>?_|refine ry [] c0 fun nu _ _=>?_);simp -dsimp (disch:=omega) only[go_sem,ot, hcast])|refine e0 (by decide) ?_|(refine And.intro ?_ ?_;omega)|refine And.intro (of_eq_true PutAt_put) ?_|refine gT ?_|refine gF ?_|(refine gI (fun h=>?_) (fun h=>?_)<;>(try contradiction)<;>(try refine rd ?_)<;>(try simp -dsimp (disch:=omega) only[go_sem,h,ot, hcast]))|refine Exists.intro _ (Exists.intro _ (And.intro (And.intro rfl rfl) ?_)) |refine us (hk) ?_ |refine us (hk2) ?_ |refine us (hn2) ?_ |fail
              exact NR_end (fin _ _) (by simp) rfl
            · rw [if_neg hyx] at hP
              repeat' first |refine s1 ?_|refine gS ?_|refine wT rfl ?_|refine wF rfl ?_|refine wt rfl ?_|refine wf rfl ?_|(refine wC rfl (fun h=>?_) (fun h=>?_)<;>(try contradiction))|((first|refine rd ?_|refine ry [] c0 fun nu _ _=>?_);simp -dsimp (disch:=omega) only[go_sem,hcast])|refine e0 (by decide) ?_|(refine And.intro ?_ ?_;omega)|refine And.intro (of_eq_true PutAt_put) ?_|refine gT ?_|refine gF ?_|(refine gI (fun h=>?_) (fun h=>?_)<;>(try contradiction)<;>(try refine rd ?_)<;>(try simp -dsimp (disch:=omega) only[go_sem,h,hcast]))|refine Exists.intro _ (Exists.intro _ (And.intro (And.intro rfl rfl) ?_)) |refine us (hk) ?_ |refine us (hk2) ?_ |refine us (hn2) ?_ |fail
              exact ⟨(y, k'), ⟨hP, b2, by have := b3 rfl; simp only; omega⟩, Env.Sub_of_has (by simp [Env.Has, Env.get, Env.putO]), Store.Sub.refl _⟩
          · rw [if_pos he'] at hP
            have i2' := (hbad (by rw [hP]; exact he')).symm.trans i2
            rw [hP] at i2'
            rw [← i2', ← hN, ← hM]
            simp only [ndO]
            repeat' first |refine s1 ?_|refine gS ?_|refine wT rfl ?_|refine wF rfl ?_|refine wt rfl ?_|refine wf rfl ?_|(refine wC rfl (fun h=>?_) (fun h=>?_)<;>(try contradiction))|((first|refine rd ?_|refine ry (id:=10) [] (cw [0] [3] [] [] []) fun nu _ _=>?_|refine ry [] c0 fun nu _ _=>?_);simp -dsimp (disch:=omega) only[go_sem,ot, hcast])|refine e0 (by decide) ?_|(refine And.intro ?_ ?_;omega)|refine And.intro (of_eq_true PutAt_put) ?_|refine gT ?_|refine gF ?_|(refine gI (fun h=>?_) (fun h=>?_)<;>(try contradiction)<;>(try refine rd ?_)<;>(try simp -dsimp (disch:=omega) only[go_sem,h,ot, hcast]))|refine Exists.intro _ (Exists.intro _ (And.intro (And.intro rfl rfl) ?_)) |refine us (hk) ?_ |refine us (hk2) ?_ |refine us (hn2) ?_ |fail
            exact NR_end (fin _ _) (by simp) rfl
      · rintro ⟨y, k'⟩ ⟨hP2, hk3, hk4⟩
        simp only at hP2 hk3 hk4
        have i2' := (hgo hP2).symm.trans i2
        rw [← hN, ← hM]
        simp only [ndO]
        rcases i9 with ⟨rfl, rfl, rfl, rfl, rfl⟩ | ⟨rfl, j1, t, u, rfl, rfl, jt, ju, hut, htq, htr, huq, hur, hst, hsu⟩
        · skip
          repeat' first |refine s1 ?_|refine gS ?_|refine wT rfl ?_|refine wF rfl ?_|refine wt rfl ?_|refine wf rfl ?_|(refine wC rfl (fun h=>?_) (fun h=>?_)<;>(try contradiction))|((first|refine rd ?_|refine ry [] c0 fun nu _ _=>?_);simp -dsimp (disch:=omega) only[go_sem,ot])|refine e0 (by decide) ?_|(refine And.intro ?_ ?_;omega)|refine And.intro (of_eq_true PutAt_put) ?_|refine gT ?_|refine gF ?_|(refine gI (fun h=>?_) (fun h=>?_)<;>(try contradiction)<;>(try refine rd ?_)<;>(try simp -dsimp (disch:=omega) only[go_sem,h,ot]))|refine Exists.intro _ (Exists.intro _ (And.intro (And.intro rfl rfl) ?_)) |fail
          intro c hc
          have c1 := alloc_ne hc
          rw [put_oth c1] at hc
          have c2 := alloc_ne hc
          rw [put_oth c2] at hc
          simp -dsimp (disch:=omega) only[go_sem,ot, sw, put_swap c1, put_swap c2]
          repeat' first |refine s1 ?_|refine gS ?_|refine wT rfl ?_|refine wF rfl ?_|refine wt rfl ?_|refine wf rfl ?_|(refine wC rfl (fun h=>?_) (fun h=>?_)<;>(try contradiction))|((first|refine rd ?_|refine ry [] c0 fun nu _ _=>?_);simp -dsimp (disch:=omega) only[go_sem,ot, sw, put_swap c1, put_swap c2])|refine e0 (by decide) ?_|(refine And.intro ?_ ?_;omega)|refine And.intro (of_eq_true PutAt_put) ?_|refine gT ?_|refine gF ?_|(refine gI (fun h=>?_) (fun h=>?_)<;>(try contradiction)<;>(try refine rd ?_)<;>(try simp -dsimp (disch:=omega) only[go_sem,h,ot, sw, put_swap c1, put_swap c2]))|refine Exists.intro _ (Exists.intro _ (And.intro (And.intro rfl rfl) ?_)) |fail
          intro d hd
          have d1 := alloc_ne hd
          rw [put_oth d1] at hd
          have d2 := alloc_ne hd
          rw [put_oth d2] at hd
          have d3 := alloc_ne hd
          rw [put_oth d3] at hd
          simp -dsimp (disch:=omega) only[go_sem,ot, sw, put_swap d1, put_swap d2]
          repeat' first |refine s1 ?_|refine gS ?_|refine wT rfl ?_|refine wF rfl ?_|refine wt rfl ?_|refine wf rfl ?_|(refine wC rfl (fun h=>?_) (fun h=>?_)<;>(try contradiction))|((first|refine rd ?_|refine ry [] c0 fun nu _ _=>?_);simp -dsimp (disch:=omega) only[go_sem,ot, sw, put_swap d1, put_swap d2])|refine e0 (by decide) ?_|(refine And.intro ?_ ?_;omega)|refine And.intro (of_eq_true PutAt_put) ?_|refine gT ?_|refine gF ?_|(refine gI (fun h=>?_) (fun h=>?_)<;>(try contradiction)<;>(try refine rd ?_)<;>(try simp -dsimp (disch:=omega) only[go_sem,h,ot, sw, put_swap d1, put_swap d2]))|refine Exists.intro _ (Exists.intro _ (And.intro (And.intro rfl rfl) ?_)) |fail
          refine ⟨⟨false, f, k', .tip c, [] ++ [.int .i64 x], .tip d, [] ++ [.int .i64 y], (τ.put c (.tip 1 3 1)).put d (.tip 1 3 1)⟩, by simp, ⟨hk3, i2', by simp at i3 ⊢; omega, by simp, by simp only; omega, rfl, rfl, fun z w hw => ?_, .inr ⟨rfl, by simp, c, d, rfl, rfl, ?_, put_same _ _ _, d3, c2, c1, d2, d1, ?_, ?_⟩⟩, Env.Sub_of_has (by simp [Env.Has, Env.get, Env.putO]), Store.Sub.refl _⟩
          · exact keep_new (keep_new i8 (Sub_fresh i8 hc)) (Sub_fresh i8 hd) z w hw
          · simp only; rw [put_oth (fun e => d3 e.symm), put_same]; rfl
          · exact Sub_fresh i8 hc
          · exact Sub_fresh i8 hd
        · have htu : t ≠ u := fun e => hut e.symm
          repeat' first |refine s1 ?_|refine gS ?_|refine wT rfl ?_|refine wF rfl ?_|refine wt rfl ?_|refine wf rfl ?_|(refine wC rfl (fun h=>?_) (fun h=>?_)<;>(try contradiction))|((first|refine rd ?_|refine ry [] c0 fun nu _ _=>?_);simp -dsimp (disch:=omega) only[go_sem,ot, sw, put_oth htq, put_oth htr, put_oth huq, put_oth hur, put_swap htq, put_swap htr, put_swap huq, put_swap hur, jt, ju, put_oth hut, i6, i7])|refine e0 (by decide) ?_|(refine And.intro ?_ ?_;omega)|refine And.intro (of_eq_true PutAt_put) ?_|refine gT ?_|refine gF ?_|(refine gI (fun h=>?_) (fun h=>?_)<;>(try contradiction)<;>(try refine rd ?_)<;>(try simp -dsimp (disch:=omega) only[go_sem,h,ot, sw, put_oth htq, put_oth htr, put_oth huq, put_oth hur, put_swap htq, put_swap htr, put_swap huq, put_swap hur, jt, ju, put_oth hut, i6, i7]))|refine Exists.intro _ (Exists.intro _ (And.intro (And.intro rfl rfl) ?_)) |fail
          refine ⟨⟨false, f, k', .tip t, fr ++ [.int .i64 x], .tip u, tl ++ [.int .i64 y], (τ.put t (.tip (fr ++ [AV.int .i64 x]).length 3 1)).put u (.tip (tl ++ [AV.int .i64 y]).length 3 1)⟩, by simp, ⟨hk3, i2', by simp at i3 ⊢; omega, by simp [i4], by simp only; omega, by simp only [rowsOk_append, i6]; rfl, by simp only [rowsOk_append, i7]; rfl, fun z w hw => ?_, .inr ⟨rfl, by simp, t, u, rfl, rfl, ?_, put_same _ _ _, hut, htq, htr, huq, hur, hst, hsu⟩⟩, Env.Sub_of_has (by simp [Env.Has, Env.get, Env.putO]), by simp only [List.length_append, List.length_cons, List.length_nil]; exact Store.Sub.refl _⟩
          · exact keep_new (keep_new i8 hst) hsu z w hw
          · simp only; rw [put_oth htu, put_same]
    · rw [if_pos he] at hP
      have i2' := (hbad (by rw [hP]; exact he)).symm.trans i2
      rw [hP] at i2'
      rw [← i2', ← hN, ← hM]
      simp only [ndO]
      repeat' first |refine s1 ?_|refine gS ?_|refine wT rfl ?_|refine wF rfl ?_|refine wt rfl ?_|refine wf rfl ?_|(refine wC rfl (fun h=>?_) (fun h=>?_)<;>(try contradiction))|((first|refine rd ?_|refine ry (id:=5) [] (cw [0] [3] [] [] []) fun nu _ _=>?_|refine ry [] c0 fun nu _ _=>?_);simp -dsimp (disch:=omega) only[go_sem,ot])|refine e0 (by decide) ?_|(refine And.intro ?_ ?_;omega)|refine And.intro (of_eq_true PutAt_put) ?_|refine gT ?_|refine gF ?_|(refine gI (fun h=>?_) (fun h=>?_)<;>(try contradiction)<;>(try refine rd ?_)<;>(try simp -dsimp (disch:=omega) only[go_sem,h,ot]))|refine Exists.intro _ (Exists.intro _ (And.intro (And.intro rfl rfl) ?_)) |refine us (hn1) ?_ |fail
      exact NR_end (fin _ _) (by simp) rfl
end
end Go.Proofs.YtaealcimocpnnaaGreat
namespace Go.Proofs.YtaealcimocpnnaaGreat
open Go.Kern Go.RowKit
section
variable (l : List UInt8)
theorem isB_le {i : Nat} {c : Int} (h : isB l i c = true) : i < skipB l i + 1 ∧ skipB l i + 1 ≤ l.length := by
  have := isB_lt l h
  have := skipB_le l i
  omega
theorem rSet1_le (n i : Nat) (hi : i ≤ l.length) : (rSet1 l n i).1 ≤ l.length ∧ i ≤ (rSet1 l n i).1 := by
  obtain ⟨a1, a2, a3⟩ := rPart_le l hi
  unfold rSet1
  by_cases h2 : (rPart l i).2 ≠ 0
  · rw [if_pos h2]; exact ⟨a2, a1⟩
  · rw [if_neg h2]
    have := rSet_le l n (rPart l i).1 a2
    omega
theorem rPost_le {k : Nat} (hk : k ≤ l.length) : rPost l k ≤ l.length ∧ k ≤ rPost l k := by
  unfold rPost
  split
  · rename_i h
    rcases h with h | h | h
    · have := isB_le l h; omega
    · have := isB_le l h; omega
    · have := isB_le l h; omega
  · omega
def ChLe (ch : Nat → Nat × Int) : Prop := ∀ i, i ≤ l.length → (ch i).1 ≤ l.length ∧ i ≤ (ch i).1
variable {ch : Nat → Nat × Int} (hch : ChLe l ch)
include hch
theorem rAtom_le (i : Nat) (hi : i ≤ l.length) : (rAtom l ch i).1 ≤ l.length ∧ i ≤ (rAtom l ch i).1 ∧ ((rAtom l ch i).2 = 0 → i < (rAtom l ch i).1) := by
  unfold rAtom
  by_cases h1 : isB l i 46 = true
  · have := isB_le l h1
    rw [if_pos h1]; simp only; omega
  rw [if_neg h1]
  by_cases h2 : isB l i 91 = true
  · have h3 := isB_le l h2
    have := rSet1_le l (l.length + 2) (skipB l i + 1) h3.2
    rw [if_pos h2]; omega
  rw [if_neg h2]
  by_cases h3 : isB l i 40 = true
  · have h4 := isB_le l h3
    have h5 := hch (skipB l i + 1) h4.2
    rw [if_pos h3]
    by_cases h6 : (ch (skipB l i + 1)).2 ≠ 0
    · rw [if_pos h6]; omega
    rw [if_neg h6]
    by_cases h7 : isB l (ch (skipB l i + 1)).1 41 = true
    · have := isB_le l h7
      rw [if_pos h7]; simp only; omega
    · rw [if_neg h7]; simp only; omega
  rw [if_neg h3]
  have := rNumber_le l hi
  exact ⟨this.2.1, this.1, this.2.2⟩
theorem rRow_le : ∀ (n i : Nat), i ≤ l.length → (rRow l ch n i).1 ≤ l.length ∧ i ≤ (rRow l ch n i).1
  | 0, i, hi => ⟨hi, Nat.le_refl _⟩
  | n + 1, i, hi => by
    have h0 := skipB_len l hi
    have h1 := skipB_le l i
    have h2 := rAtom_le l hch (skipB l i) h0
    have h3 := rPost_le l h2.1
    rw [rRow]
    split
    · split
      · omega
      · have := rRow_le n _ h3.1
        omega
    · exact ⟨h0, h1⟩
theorem rAlt_le : ∀ (n i : Nat), i ≤ l.length → (rAlt l ch n i).1 ≤ l.length ∧ i ≤ (rAlt l ch n i).1
  | 0, i, hi => ⟨hi, Nat.le_refl _⟩
  | n + 1, i, hi => by
    have h0 := rRow_le l hch (l.length + 2) i hi
    rw [rAlt]
    split
    · exact h0
    · split
      · rename_i h
        have h1 := isB_le l h
        have := rAlt_le n _ h1.2
        omega
      · exact h0
end
theorem rChoice_le (l : List UInt8) : ∀ n, ChLe l (rChoice l n)
  | 0 => fun i hi => ⟨hi, Nat.le_refl _⟩
  | n + 1 => fun i hi => rAlt_le l (rChoice_le l n) (l.length + 2) i hi
set_option maxRecDepth 100000
set_option maxHeartbeats 4000000
attribute [local irreducible] PCall W
section
variable (s : ByteArray) (hs : s.size ≤ 1000)
include hs
def RCh (n : Nat) : Prop := ∀ i, i ≤ (B s).length → ∀ σ, PCall Tryz.prog 161 [.str s, .int .i64 i, .int .i64 (9 - n)] σ (NR σ (rChoice (B s) n i))
theorem ratom_spec (n : Nat) (hn : n ≤ 8) (hch : RCh s n) (i : Nat) (hi : i ≤ (B s).length) (σ : Store) : PCall Tryz.prog 185 [.str s, .int .i64 i, .int .i64 (8 - n)] σ (NR σ (rAtom (B s) (rChoice (B s) n) i)) := by
  have hl := length_B s
  have h46 := ris_spec s hs i (by omega) 46
  have h91 := ris_spec s hs i (by omega) 91
  have h40 := ris_spec s hs i (by omega) 40
  have hsk := rskip_spec s hs i (by omega)
  have hc1 : ((skipB (B s) i : Int) + 1) = ((skipB (B s) i + 1 : Nat) : Int) := by omega
  unfold rAtom
  cases e46 : isB (B s) i 46 with
  | true =>
    have hlt := isB_le (B s) e46
    rw [e46] at h46
    rw [if_pos rfl]
    refine PCall_w [.cell 6 178, .tmp 7, .tmp 8] 82 Tryz.func185 (by rfl) rfl rfl rfl rfl ?_
    repeat' first |refine s1 ?_|refine gS ?_|refine wT rfl ?_|refine wF rfl ?_|refine wt rfl ?_|refine wf rfl ?_|(refine wC rfl (fun h=>?_) (fun h=>?_)<;>(try contradiction))|((first|refine rd ?_|refine ry [] c0 fun nu _ _=>?_);simp -dsimp (disch:=omega) only[go_sem])|refine e0 (by decide) ?_|(refine And.intro ?_ ?_;omega)|refine And.intro (of_eq_true PutAt_put) ?_|refine gT ?_|refine gF ?_|(refine gI (fun h=>?_) (fun h=>?_)<;>(try contradiction)<;>(try refine rd ?_)<;>(try simp -dsimp (disch:=omega) only[go_sem,h]))|refine Exists.intro _ (Exists.intro _ (And.intro (And.intro rfl rfl) ?_)) |fail
    intro r hr
    repeat' first |refine s1 ?_|refine gS ?_|refine wT rfl ?_|refine wF rfl ?_|refine wt rfl ?_|refine wf rfl ?_|(refine wC rfl (fun h=>?_) (fun h=>?_)<;>(try contradiction))|((first|refine rd ?_|refine ry [] c0 fun nu _ _=>?_);simp -dsimp (disch:=omega) only[go_sem,hc1])|refine e0 (by decide) ?_|(refine And.intro ?_ ?_;omega)|refine And.intro (of_eq_true PutAt_put) ?_|refine gT ?_|refine gF ?_|(refine gI (fun h=>?_) (fun h=>?_)<;>(try contradiction)<;>(try refine rd ?_)<;>(try simp -dsimp (disch:=omega) only[go_sem,h,hc1]))|refine Exists.intro _ (Exists.intro _ (And.intro (And.intro rfl rfl) ?_)) |refine us (h46) ?_ |refine us (hsk) ?_ |fail
    exact NR_end (Sub_new hr) (by first | rfl | simp) rfl
  | false =>
  rw [if_neg (by simp)]
  rw [e46] at h46
  cases e91 : isB (B s) i 91 with
  | true =>
    have hlt := isB_le (B s) e91
    rw [e91] at h91
    rw [if_pos rfl]
    have hset := rset_spec s hs (skipB (B s) i + 1) hlt.2
    refine PCall_w [.cell 6 178, .tmp 7, .tmp 8] 82 Tryz.func185 (by rfl) rfl rfl rfl rfl ?_
    repeat' first |refine s1 ?_|refine gS ?_|refine wT rfl ?_|refine wF rfl ?_|refine wt rfl ?_|refine wf rfl ?_|(refine wC rfl (fun h=>?_) (fun h=>?_)<;>(try contradiction))|((first|refine rd ?_|refine ry [] c0 fun nu _ _=>?_);simp -dsimp (disch:=omega) only[go_sem])|refine e0 (by decide) ?_|(refine And.intro ?_ ?_;omega)|refine And.intro (of_eq_true PutAt_put) ?_|refine gT ?_|refine gF ?_|(refine gI (fun h=>?_) (fun h=>?_)<;>(try contradiction)<;>(try refine rd ?_)<;>(try simp -dsimp (disch:=omega) only[go_sem,h]))|refine Exists.intro _ (Exists.intro _ (And.intro (And.intro rfl rfl) ?_)) |fail
    intro r hr
    repeat' first |refine s1 ?_|refine gS ?_|refine wT rfl ?_|refine wF rfl ?_|refine wt rfl ?_|refine wf rfl ?_|(refine wC rfl (fun h=>?_) (fun h=>?_)<;>(try contradiction))|((first|refine rd ?_|refine ry [] c0 fun nu _ _=>?_);simp -dsimp (disch:=omega) only[go_sem,hc1, eNd])|refine e0 (by decide) ?_|(refine And.intro ?_ ?_;omega)|refine And.intro (of_eq_true PutAt_put) ?_|refine gT ?_|refine gF ?_|(refine gI (fun h=>?_) (fun h=>?_)<;>(try contradiction)<;>(try refine rd ?_)<;>(try simp -dsimp (disch:=omega) only[go_sem,h,hc1, eNd]))|refine Exists.intro _ (Exists.intro _ (And.intro (And.intro rfl rfl) ?_)) |refine us (h46) ?_ |refine us (h91) ?_ |refine us (hsk) ?_ |(refine PCall_use (hset _) ?_;rintro _ _ ⟨⟨v,rfl⟩,rfl⟩) |fail
    exact NR_end (Sub_new hr) rfl rfl
  | false =>
  rw [if_neg (by simp)]
  rw [e91] at h91
  cases e40 : isB (B s) i 40 with
  | true =>
    have hlt := isB_le (B s) e40
    rw [e40] at h40
    rw [if_pos rfl]
    have hcc := hch (skipB (B s) i + 1) hlt.2
    have hle := rChoice_le (B s) n (skipB (B s) i + 1) hlt.2
    have hd : ((8 : Int) - n + 1) = 9 - n := by omega
    obtain ⟨⟨k, e⟩, hx⟩ : ∃ x, rChoice (B s) n (skipB (B s) i + 1) = x := ⟨_, rfl⟩
    rw [hx] at hcc hle ⊢
    simp only at hle ⊢
    have h41 := ris_spec s hs k (by omega) 41
    have hsk2 := rskip_spec s hs k (by omega)
    have hc2 : ((skipB (B s) k : Int) + 1) = ((skipB (B s) k + 1 : Nat) : Int) := by omega
    refine PCall_w [.cell 6 178, .tmp 7, .tmp 8] 82 Tryz.func185 (by rfl) rfl rfl rfl rfl ?_
    repeat' first |refine s1 ?_|refine gS ?_|refine wT rfl ?_|refine wF rfl ?_|refine wt rfl ?_|refine wf rfl ?_|(refine wC rfl (fun h=>?_) (fun h=>?_)<;>(try contradiction))|((first|refine rd ?_|refine ry [] c0 fun nu _ _=>?_);simp -dsimp (disch:=omega) only[go_sem])|refine e0 (by decide) ?_|(refine And.intro ?_ ?_;omega)|refine And.intro (of_eq_true PutAt_put) ?_|refine gT ?_|refine gF ?_|(refine gI (fun h=>?_) (fun h=>?_)<;>(try contradiction)<;>(try refine rd ?_)<;>(try simp -dsimp (disch:=omega) only[go_sem,h]))|refine Exists.intro _ (Exists.intro _ (And.intro (And.intro rfl rfl) ?_)) |fail
    intro r hr
    repeat' first |((fail_if_success (first|show W _ _ (Code.seq (Code.region 6 _ _) _) _ _ _|show W _ _ (Code.seq (Code.seq (Code.region 6 _ _) _) _) _ _ _));refine s1 ?_)|refine gS ?_|refine wT rfl ?_|refine wF rfl ?_|refine wt rfl ?_|refine wf rfl ?_|(refine wC rfl (fun h=>?_) (fun h=>?_)<;>(try contradiction))|((fail_if_success (first|show W _ _ (Code.region 6 _ _) _ _ _));(first|refine rd ?_|refine ry [] c0 fun nu _ _=>?_);simp -dsimp (disch:=omega) only[go_sem])|refine e0 (by decide) ?_|(refine And.intro ?_ ?_;omega)|refine And.intro (of_eq_true PutAt_put) ?_|refine gT ?_|refine gF ?_|(refine gI (fun h=>?_) (fun h=>?_)<;>(try contradiction)<;>(try refine rd ?_)<;>(try simp -dsimp (disch:=omega) only[go_sem,h]))|refine Exists.intro _ (Exists.intro _ (And.intro (And.intro rfl rfl) ?_)) |refine us (h46) ?_ |refine us (h91) ?_ |refine us (h40) ?_ |fail
    repeat' first |((fail_if_success (first|show W _ _ (Code.seq (Code.region 7 _ _) _) _ _ _|show W _ _ (Code.seq (Code.seq (Code.region 7 _ _) _) _) _ _ _));refine s1 ?_)|refine gS ?_|refine wT rfl ?_|refine wF rfl ?_|refine wt rfl ?_|refine wf rfl ?_|(refine wC rfl (fun h=>?_) (fun h=>?_)<;>(try contradiction))|((fail_if_success (first|show W _ _ (Code.region 7 _ _) _ _ _));(first|refine rd ?_|refine ry [] c0 fun nu _ _=>?_);simp -dsimp (disch:=omega) only[go_sem,hc1, hd, eNd])|refine e0 (by decide) ?_|(refine And.intro ?_ ?_;omega)|refine And.intro (of_eq_true PutAt_put) ?_|refine gT ?_|refine gF ?_|(refine gI (fun h=>?_) (fun h=>?_)<;>(try contradiction)<;>(try refine rd ?_)<;>(try simp -dsimp (disch:=omega) only[go_sem,h,hc1, hd, eNd]))|refine Exists.intro _ (Exists.intro _ (And.intro (And.intro rfl rfl) ?_)) |refine us (hsk) ?_ |(refine PCall_use (hcc _) ?_;rintro _ _ ⟨⟨v,rfl⟩,rfl⟩) |fail
    intro q hq
    have hqr := alloc_ne hq
    rw [put_oth hqr] at hq
    have sw := put_swap hqr
    have ot := put_oth hqr
    have fin : ∀ x y, σ.Sub ((σ.put q y).put r x) := fun x y => Sub_put (Sub_put (Store.Sub.refl σ) hq _) hr _
    simp only [sw]
    by_cases he : e = 0
    · subst he
      rw [if_neg (by simp)]
      cases e41 : isB (B s) k 41 with
      | true =>
        have hlt2 := isB_le (B s) e41
        rw [e41] at h41
        rw [if_pos rfl]
        repeat' first |refine s1 ?_|refine gS ?_|refine wT rfl ?_|refine wF rfl ?_|refine wt rfl ?_|refine wf rfl ?_|(refine wC rfl (fun h=>?_) (fun h=>?_)<;>(try contradiction))|((first|refine rd ?_|refine ry (id:=11) [] (cw [0] [5] [] [] []) fun nu _ _=>?_|refine ry [] c0 fun nu _ _=>?_);simp -dsimp (disch:=omega) only[go_sem,sw, ot, hc2])|refine e0 (by decide) ?_|(refine And.intro ?_ ?_;omega)|refine And.intro (of_eq_true PutAt_put) ?_|refine gT ?_|refine gF ?_|(refine gI (fun h=>?_) (fun h=>?_)<;>(try contradiction)<;>(try refine rd ?_)<;>(try simp -dsimp (disch:=omega) only[go_sem,h,sw, ot, hc2]))|refine Exists.intro _ (Exists.intro _ (And.intro (And.intro rfl rfl) ?_)) |refine us (h41) ?_ |refine us (hsk2) ?_ |fail
        exact NR_end (fin _ _) (by first | rfl | simp) rfl
      | false =>
        rw [e41] at h41
        rw [if_neg (by simp)]
        repeat' first |refine s1 ?_|refine gS ?_|refine wT rfl ?_|refine wF rfl ?_|refine wt rfl ?_|refine wf rfl ?_|(refine wC rfl (fun h=>?_) (fun h=>?_)<;>(try contradiction))|((first|refine rd ?_|refine ry [] c0 fun nu _ _=>?_);simp -dsimp (disch:=omega) only[go_sem,sw, ot, hc2])|refine e0 (by decide) ?_|(refine And.intro ?_ ?_;omega)|refine And.intro (of_eq_true PutAt_put) ?_|refine gT ?_|refine gF ?_|(refine gI (fun h=>?_) (fun h=>?_)<;>(try contradiction)<;>(try refine rd ?_)<;>(try simp -dsimp (disch:=omega) only[go_sem,h,sw, ot, hc2]))|refine Exists.intro _ (Exists.intro _ (And.intro (And.intro rfl rfl) ?_)) |refine us (h41) ?_ |refine us (hsk2) ?_ |fail
        exact NR_end (fin _ _) rfl rfl
    · rw [if_pos he]
      repeat' first |refine s1 ?_|refine gS ?_|refine wT rfl ?_|refine wF rfl ?_|refine wt rfl ?_|refine wf rfl ?_|(refine wC rfl (fun h=>?_) (fun h=>?_)<;>(try contradiction))|((first|refine rd ?_|refine ry [] c0 fun nu _ _=>?_);simp -dsimp (disch:=omega) only[go_sem,sw, ot])|refine e0 (by decide) ?_|(refine And.intro ?_ ?_;omega)|refine And.intro (of_eq_true PutAt_put) ?_|refine gT ?_|refine gF ?_|(refine gI (fun h=>?_) (fun h=>?_)<;>(try contradiction)<;>(try refine rd ?_)<;>(try simp -dsimp (disch:=omega) only[go_sem,h,sw, ot]))|refine Exists.intro _ (Exists.intro _ (And.intro (And.intro rfl rfl) ?_)) |fail
      exact NR_end (fin _ _) rfl rfl
  | false =>
  rw [if_neg (by simp)]
  rw [e40] at h40
  have hnum := rnumber_spec s hs i (by omega)
  refine PCall_w [.cell 6 178, .tmp 7, .tmp 8] 82 Tryz.func185 (by rfl) rfl rfl rfl rfl ?_
  repeat' first |refine s1 ?_|refine gS ?_|refine wT rfl ?_|refine wF rfl ?_|refine wt rfl ?_|refine wf rfl ?_|(refine wC rfl (fun h=>?_) (fun h=>?_)<;>(try contradiction))|((first|refine rd ?_|refine ry [] c0 fun nu _ _=>?_);simp -dsimp (disch:=omega) only[go_sem])|refine e0 (by decide) ?_|(refine And.intro ?_ ?_;omega)|refine And.intro (of_eq_true PutAt_put) ?_|refine gT ?_|refine gF ?_|(refine gI (fun h=>?_) (fun h=>?_)<;>(try contradiction)<;>(try refine rd ?_)<;>(try simp -dsimp (disch:=omega) only[go_sem,h]))|refine Exists.intro _ (Exists.intro _ (And.intro (And.intro rfl rfl) ?_)) |fail
  intro r hr
  repeat' first |refine s1 ?_|refine gS ?_|refine wT rfl ?_|refine wF rfl ?_|refine wt rfl ?_|refine wf rfl ?_|(refine wC rfl (fun h=>?_) (fun h=>?_)<;>(try contradiction))|((first|refine rd ?_|refine ry [] c0 fun nu _ _=>?_);simp -dsimp (disch:=omega) only[go_sem])|refine e0 (by decide) ?_|(refine And.intro ?_ ?_;omega)|refine And.intro (of_eq_true PutAt_put) ?_|refine gT ?_|refine gF ?_|(refine gI (fun h=>?_) (fun h=>?_)<;>(try contradiction)<;>(try refine rd ?_)<;>(try simp -dsimp (disch:=omega) only[go_sem,h]))|refine Exists.intro _ (Exists.intro _ (And.intro (And.intro rfl rfl) ?_)) |refine us (h46) ?_ |refine us (h91) ?_ |refine us (h40) ?_ |refine us (hnum) ?_ |fail
  exact NR_end (Sub_new hr) rfl rfl
end
end Go.Proofs.YtaealcimocpnnaaGreat
namespace Go.Proofs.YtaealcimocpnnaaGreat
open Go.Kern Go.RowKit
structure ChL where
  fuel : Nat
  i : Nat
  k : SK
  rows : List AV
  τ : Store
def KidsOk (σ τ : Store) (o : Nat) (k : SK) (rows : List AV) : Prop := (k = .nil ∧ rows = []) ∨ ∃ t, k = .tip t ∧ τ t = some (.tip rows.length 178 6) ∧ t ≠ o ∧ σ t = none
theorem put_eta {σ : Store} {o : Nat} {x : Ob} (h : σ o = some x) : σ.put o x = σ := by
  funext c
  simp only [Store.put]
  split
  · rename_i e; rw [e, h]
  · rfl
def eO (v : Nd) : Ob := .arr 178 [eNd v]
set_option maxRecDepth 100000
set_option maxHeartbeats 4000000
attribute [local irreducible] PCall W
section
variable (s : ByteArray) (hs : s.size ≤ 1000)
include hs
theorem rchoice_zero : RCh s 0 := by
  intro i hi σ
  have hl := length_B s
  refine PCall_w [.cell 6 178, .tmp 7, .tmp 8] 111 Tryz.func161 (by rfl) rfl rfl rfl rfl ?_
  repeat' first |refine s1 ?_|refine gS ?_|refine wT rfl ?_|refine wF rfl ?_|refine wt rfl ?_|refine wf rfl ?_|(refine wC rfl (fun h=>?_) (fun h=>?_)<;>(try contradiction))|((first|refine rd ?_|refine ry [] c0 fun nu _ _=>?_);simp -dsimp (disch:=omega) only[go_sem])|refine e0 (by decide) ?_|(refine And.intro ?_ ?_;omega)|refine And.intro (of_eq_true PutAt_put) ?_|refine gT ?_|refine gF ?_|(refine gI (fun h=>?_) (fun h=>?_)<;>(try contradiction)<;>(try refine rd ?_)<;>(try simp -dsimp (disch:=omega) only[go_sem,h]))|refine Exists.intro _ (Exists.intro _ (And.intro (And.intro rfl rfl) ?_)) |fail
  intro r hr
  repeat' first |refine s1 ?_|refine gS ?_|refine wT rfl ?_|refine wF rfl ?_|refine wt rfl ?_|refine wf rfl ?_|(refine wC rfl (fun h=>?_) (fun h=>?_)<;>(try contradiction))|((first|refine rd ?_|refine ry [] c0 fun nu _ _=>?_);simp -dsimp (disch:=omega) only[go_sem])|refine e0 (by decide) ?_|(refine And.intro ?_ ?_;omega)|refine And.intro (of_eq_true PutAt_put) ?_|refine gT ?_|refine gF ?_|(refine gI (fun h=>?_) (fun h=>?_)<;>(try contradiction)<;>(try refine rd ?_)<;>(try simp -dsimp (disch:=omega) only[go_sem,h]))|refine Exists.intro _ (Exists.intro _ (And.intro (And.intro rfl rfl) ?_)) |fail
  intro q hq
  have hqr := alloc_ne hq
  rw [put_oth hqr] at hq
  have sw := put_swap hqr
  have ot := put_oth hqr
  simp only [sw]
  repeat' first |refine s1 ?_|refine gS ?_|refine wT rfl ?_|refine wF rfl ?_|refine wt rfl ?_|refine wf rfl ?_|(refine wC rfl (fun h=>?_) (fun h=>?_)<;>(try contradiction))|((first|refine rd ?_|refine ry [] c0 fun nu _ _=>?_);simp -dsimp (disch:=omega) only[go_sem,sw, ot])|refine e0 (by decide) ?_|(refine And.intro ?_ ?_;omega)|refine And.intro (of_eq_true PutAt_put) ?_|refine gT ?_|refine gF ?_|(refine gI (fun h=>?_) (fun h=>?_)<;>(try contradiction)<;>(try refine rd ?_)<;>(try simp -dsimp (disch:=omega) only[go_sem,h,sw, ot]))|refine Exists.intro _ (Exists.intro _ (And.intro (And.intro rfl rfl) ?_)) |fail
  exact NR_end (Sub_put (Sub_put (Store.Sub.refl σ) hq _) hr _) rfl rfl
theorem rchoice_spec (n : Nat) (hn : n ≤ 7) (hch : RCh s n) : RCh s (n + 1) := by
  intro i hi σ
  have hl := length_B s
  have hd : (9 - ((n + 1 : Nat) : Int)) = 8 - n := by omega
  rw [hd, rChoice]
  obtain ⟨ch, hchE⟩ : ∃ f, rChoice (B s) n = f := ⟨_, rfl⟩
  have hle := rChoice_le (B s) n
  have hat := ratom_spec s hs n (by omega) hch
  rw [hchE] at hle hat ⊢
  refine PCall_w [.cell 6 178, .tmp 7, .tmp 8] 111 Tryz.func161 (by rfl) rfl rfl rfl rfl ?_
  repeat' first |refine s1 ?_|refine gS ?_|refine wT rfl ?_|refine wF rfl ?_|refine wt rfl ?_|refine wf rfl ?_|(refine wC rfl (fun h=>?_) (fun h=>?_)<;>(try contradiction))|((first|refine rd ?_|refine ry [] c0 fun nu _ _=>?_);simp -dsimp (disch:=omega) only[go_sem])|refine e0 (by decide) ?_|(refine And.intro ?_ ?_;omega)|refine And.intro (of_eq_true PutAt_put) ?_|refine gT ?_|refine gF ?_|(refine gI (fun h=>?_) (fun h=>?_)<;>(try contradiction)<;>(try refine rd ?_)<;>(try simp -dsimp (disch:=omega) only[go_sem,h]))|refine Exists.intro _ (Exists.intro _ (And.intro (And.intro rfl rfl) ?_)) |fail
  intro r hr
  repeat' first |refine s1 ?_|refine gS ?_|refine wT rfl ?_|refine wF rfl ?_|refine wt rfl ?_|refine wf rfl ?_|(refine wC rfl (fun h=>?_) (fun h=>?_)<;>(try contradiction))|((first|refine rd ?_|refine ry [] c0 fun nu _ _=>?_);simp -dsimp (disch:=omega) only[go_sem])|refine e0 (by decide) ?_|(refine And.intro ?_ ?_;omega)|refine And.intro (of_eq_true PutAt_put) ?_|refine gT ?_|refine gF ?_|(refine gI (fun h=>?_) (fun h=>?_)<;>(try contradiction)<;>(try refine rd ?_)<;>(try simp -dsimp (disch:=omega) only[go_sem,h]))|refine Exists.intro _ (Exists.intro _ (And.intro (And.intro rfl rfl) ?_)) |fail
  intro q hq
  have hqr := alloc_ne hq
  rw [put_oth hqr] at hq
  obtain ⟨M, hM⟩ : ∃ M, ndO 0 false .nil [] .nil [] .nil [] = M := ⟨_, rfl⟩
  simp only [ndO] at hM
  rw [hM]
  obtain ⟨σ1, hσ1⟩ : ∃ t, σ.put r M = t := ⟨_, rfl⟩
  rw [hσ1]
  have hs1 : σ.Sub σ1 := by rw [← hσ1]; exact Sub_new hr
  have hr1 : σ1 r = some M := by rw [← hσ1]; exact put_same _ _ _
  have hq1 : σ1 q = none := by rw [← hσ1, put_oth hqr]; exact hq
  repeat' first |refine s1 ?_|refine gS ?_|refine wT rfl ?_|refine wF rfl ?_|refine wt rfl ?_|refine wf rfl ?_|(refine wC rfl (fun h=>?_) (fun h=>?_)<;>(try contradiction))|((first|refine rd ?_|refine ry [] c0 fun nu _ _=>?_);simp -dsimp (disch:=omega) only[go_sem])|refine e0 (by decide) ?_|(refine And.intro ?_ ?_;omega)|refine And.intro (of_eq_true PutAt_put) ?_|refine gT ?_|refine gF ?_|(refine gI (fun h=>?_) (fun h=>?_)<;>(try contradiction)<;>(try refine rd ?_)<;>(try simp -dsimp (disch:=omega) only[go_sem,h]))|refine Exists.intro _ (Exists.intro _ (And.intro (And.intro rfl rfl) ?_)) |fail
  refine W_loop_st (fun x : ChL => [(0, .str s), (1, .int .i64 x.i), (2, .int .i64 (8 - n)), (6, .ptr r 0 0), (9, .ptr q 0 0)]) (fun x => x.τ.put q (ndO 2 false .nil [] .nil [] x.k x.rows))
    (fun x => x.i ≤ (B s).length ∧ rAlt (B s) ch x.fuel x.i = rAlt (B s) ch ((B s).length + 2) i ∧ x.rows.length + x.fuel = (B s).length + 2 ∧ (B s).length < x.i + x.fuel ∧ rowsOk 6 x.rows = true ∧ σ1.Sub x.τ ∧ KidsOk σ1 x.τ q x.k x.rows) (fun x => x.fuel)
    ⟨(B s).length + 2, i, .nil, [], σ1⟩ ⟨hi, rfl, by simp, by simp only; omega, rfl, Store.Sub.refl _, .inl ⟨rfl, rfl⟩⟩ (Env.Sub_of_has (by simp [Env.Has, Env.get])) (by simp only [ndO]; exact Store.Sub.refl _) ?_
  rintro ⟨fuel, p, k, rows, τ⟩ ⟨i1, i2, i3, i4, i5, i6, i7⟩
  simp only at i1 i2 i3 i4 i5 i6 i7 ⊢
  rw [← i2]
  obtain ⟨f, rfl⟩ : ∃ f, fuel = f + 1 := ⟨fuel - 1, by omega⟩
  obtain ⟨C, hC⟩ : ∃ C, ndO 2 false .nil [] .nil [] k rows = C := ⟨_, rfl⟩
  rw [hC]
  obtain ⟨τ1, hτ1⟩ : ∃ t, τ.put q C = t := ⟨_, rfl⟩
  rw [hτ1]
  have k1 : σ1.Sub τ1 := by rw [← hτ1]; exact Sub_put i6 hq1 _
  have hq2 : τ1 q = some C := by rw [← hτ1]; exact put_same _ _ _
  have hr2 : τ1 r = some M := k1 _ _ hr1
  repeat' first |refine s1 ?_|refine gS ?_|refine wT rfl ?_|refine wF rfl ?_|refine wt rfl ?_|refine wf rfl ?_|(refine wC rfl (fun h=>?_) (fun h=>?_)<;>(try contradiction))|((first|refine rd ?_|refine ry [] c0 fun nu _ _=>?_);simp -dsimp (disch:=omega) only[go_sem])|refine e0 (by decide) ?_|(refine And.intro ?_ ?_;omega)|refine And.intro (of_eq_true PutAt_put) ?_|refine gT ?_|refine gF ?_|(refine gI (fun h=>?_) (fun h=>?_)<;>(try contradiction)<;>(try refine rd ?_)<;>(try simp -dsimp (disch:=omega) only[go_sem,h]))|refine Exists.intro _ (Exists.intro _ (And.intro (And.intro rfl rfl) ?_)) |fail
  intro w hw
  have hwq : w ≠ q := fun e => by rw [e, hq2] at hw; cases hw
  have hwr : w ≠ r := fun e => by rw [e, hr2] at hw; cases hw
  repeat' first |refine s1 ?_|refine gS ?_|refine wT rfl ?_|refine wF rfl ?_|refine wt rfl ?_|refine wf rfl ?_|(refine wC rfl (fun h=>?_) (fun h=>?_)<;>(try contradiction))|((first|refine rd ?_|refine ry [] c0 fun nu _ _=>?_);simp -dsimp (disch:=omega) only[go_sem])|refine e0 (by decide) ?_|(refine And.intro ?_ ?_;omega)|refine And.intro (of_eq_true PutAt_put) ?_|refine gT ?_|refine gF ?_|(refine gI (fun h=>?_) (fun h=>?_)<;>(try contradiction)<;>(try refine rd ?_)<;>(try simp -dsimp (disch:=omega) only[go_sem,h]))|refine Exists.intro _ (Exists.intro _ (And.intro (And.intro rfl rfl) ?_)) |fail
  refine W_loop_st (fun y : ChL => [(0, .str s), (1, .int .i64 y.i), (2, .int .i64 (8 - n)), (6, .ptr r 0 0), (9, .ptr q 0 0), (10, .ptr w 0 0)]) (fun y => y.τ.put w (ndO 1 false .nil [] .nil [] y.k y.rows))
    (fun y => y.i ≤ (B s).length ∧ rRow (B s) ch y.fuel y.i = rRow (B s) ch ((B s).length + 2) p ∧ y.rows.length + y.fuel = (B s).length + 2 ∧ (B s).length < y.i + y.fuel ∧ rowsOk 6 y.rows = true ∧ τ1.Sub y.τ ∧ KidsOk τ1 y.τ w y.k y.rows) (fun y => y.fuel)
    ⟨(B s).length + 2, p, .nil, [], τ1⟩ ⟨i1, rfl, by simp, by simp only; omega, rfl, Store.Sub.refl _, .inl ⟨rfl, rfl⟩⟩ (Env.Sub_of_has (by simp [Env.Has, Env.get])) (by simp only [ndO]; exact Store.Sub.refl _) ?_
  rintro ⟨g, p', k', rows', τ'⟩ ⟨j1, j2, j3, j4, j5, j6, j7⟩
  simp only at j1 j2 j3 j4 j5 j6 j7 ⊢
  obtain ⟨g, rfl⟩ : ∃ f, g = f + 1 := ⟨g - 1, by omega⟩
  have hq3 := j6 _ _ hq2
  have hr3 := j6 _ _ hr2
  have k3 : σ.Sub τ' := fun c y h => j6 _ _ (k1 _ _ (hs1 _ _ h))
  have hsk := rskip_spec s hs p' (by omega)
  have sk1 := skipB_len (B s) j1
  have sk2 := skipB_le (B s) p'
  rw [rRow] at j2
  obtain ⟨a, ha⟩ : ∃ a, skipB (B s) p' = a := ⟨_, rfl⟩
  rw [ha] at hsk sk1 sk2 j2
  obtain ⟨R, hR⟩ : ∃ R, ndO 1 false .nil [] .nil [] k' rows' = R := ⟨_, rfl⟩
  rw [hR]
  have kw : ∀ Y : Ob, σ.Sub (τ'.put w Y) := fun Y => Sub_put k3 (by
    cases e : σ w with
    | none => rfl
    | some y => rw [k1 _ _ (hs1 _ _ e)] at hw; cases hw) Y
  repeat' first |((fail_if_success (first|show W _ _ (Code.seq (Code.region 6 _ _) _) _ _ _|show W _ _ (Code.seq (Code.seq (Code.region 6 _ _) _) _) _ _ _));refine s1 ?_)|refine gS ?_|refine wT rfl ?_|refine wF rfl ?_|refine wt rfl ?_|refine wf rfl ?_|(refine wC rfl (fun h=>?_) (fun h=>?_)<;>(try contradiction))|((fail_if_success (first|show W _ _ (Code.region 6 _ _) _ _ _));(first|refine rd ?_|refine ry [] c0 fun nu _ _=>?_);simp -dsimp (disch:=omega) only[go_sem])|refine e0 (by decide) ?_|(refine And.intro ?_ ?_;omega)|refine And.intro (of_eq_true PutAt_put) ?_|refine gT ?_|refine gF ?_|(refine gI (fun h=>?_) (fun h=>?_)<;>(try contradiction)<;>(try refine rd ?_)<;>(try simp -dsimp (disch:=omega) only[go_sem,h]))|refine Exists.intro _ (Exists.intro _ (And.intro (And.intro rfl rfl) ?_)) |refine us (hsk) ?_ |fail
  refine W_seq (W_mid [(57, .bool (!beginsZ (chr (B s) a))), (0, .str s), (1, .int .i64 a), (2, .int .i64 (8 - n)), (6, .ptr r 0 0), (9, .ptr q 0 0), (10, .ptr w 0 0)] (τ'.put w R) ?_ ?_)
  · by_cases hlt : a < (B s).length
    · have hchr : chr (B s) a = ((B s).getD a default).toNat := if_pos hlt
      obtain ⟨x, hx⟩ : ∃ x, (B s).getD a default = x := ⟨_, rfl⟩
      rw [hx] at hchr
      have h255 := x.toNat_lt
      have hcase : ((x.toNat : Int) = 46 ∧ beginsZ (x.toNat : Int) = true) ∨ (¬ (x.toNat : Int) = 46 ∧ (x.toNat : Int) = 91 ∧ beginsZ (x.toNat : Int) = true) ∨ (¬ (x.toNat : Int) = 46 ∧ ¬ (x.toNat : Int) = 91 ∧ (x.toNat : Int) = 40 ∧ beginsZ (x.toNat : Int) = true) ∨
          (¬ (x.toNat : Int) = 46 ∧ ¬ (x.toNat : Int) = 91 ∧ ¬ (x.toNat : Int) = 40 ∧ (x.toNat : Int) < 48 ∧ beginsZ (x.toNat : Int) = false) ∨ (¬ (x.toNat : Int) = 46 ∧ ¬ (x.toNat : Int) = 91 ∧ ¬ (x.toNat : Int) = 40 ∧ ¬ (x.toNat : Int) < 48 ∧ 57 < (x.toNat : Int) ∧ beginsZ (x.toNat : Int) = false) ∨ (¬ (x.toNat : Int) = 46 ∧ ¬ (x.toNat : Int) = 91 ∧ ¬ (x.toNat : Int) = 40 ∧ ¬ (x.toNat : Int) < 48 ∧ ¬ 57 < (x.toNat : Int) ∧ beginsZ (x.toNat : Int) = true) := by
        obtain ⟨z, hz⟩ : ∃ z : Int, (x.toNat : Int) = z := ⟨_, rfl⟩
        rw [hz]
        simp only [beginsZ, digitZ, Bool.or_eq_true, Bool.or_eq_false_iff, Bool.and_eq_true, Bool.and_eq_false_iff, decide_eq_true_eq, decide_eq_false_iff_not]
        omega
      rw [hchr]
      rcases hcase with ⟨c1, cb⟩ | ⟨c1, c2, cb⟩ | ⟨c1, c2, c3, cb⟩ | ⟨c1, c2, c3, c4, cb⟩ | ⟨c1, c2, c3, c4, c5, cb⟩ | ⟨c1, c2, c3, c4, c5, cb⟩
      all_goals
        rw [cb]
        repeat' first |refine s1 ?_|refine gS ?_|refine wT rfl ?_|refine wF rfl ?_|refine wt rfl ?_|refine wf rfl ?_|(refine wC rfl (fun h=>?_) (fun h=>?_)<;>(try contradiction))|((first|refine rd ?_|refine ry [] c0 fun nu _ _=>?_);simp -dsimp (disch:=omega) only[go_sem,hx])|refine e0 (by decide) ?_|(refine And.intro ?_ ?_;omega)|refine And.intro (of_eq_true PutAt_put) ?_|refine gT ?_|refine gF ?_|(refine gI (fun h=>?_) (fun h=>?_)<;>(try contradiction)<;>(try refine rd ?_)<;>(try simp -dsimp (disch:=omega) only[go_sem,h,hx]))|refine Exists.intro _ (Exists.intro _ (And.intro (And.intro rfl rfl) ?_)) |fail
        exact ⟨Env.Sub_of_has (by simp [Env.Has, Env.get, Env.putO]), Store.Sub.refl _⟩
    · have hchr : chr (B s) a = 0 := if_neg hlt
      have hal : a = (B s).length := by omega
      have cb : beginsZ 0 = false := rfl
      rw [hchr, cb]
      subst hal
      repeat' first |refine s1 ?_|refine gS ?_|refine wT rfl ?_|refine wF rfl ?_|refine wt rfl ?_|refine wf rfl ?_|(refine wC rfl (fun h=>?_) (fun h=>?_)<;>(try contradiction))|((first|refine rd ?_|refine ry [] c0 fun nu _ _=>?_);simp -dsimp (disch:=omega) only[go_sem])|refine e0 (by decide) ?_|(refine And.intro ?_ ?_;omega)|refine And.intro (of_eq_true PutAt_put) ?_|refine gT ?_|refine gF ?_|(refine gI (fun h=>?_) (fun h=>?_)<;>(try contradiction)<;>(try refine rd ?_)<;>(try simp -dsimp (disch:=omega) only[go_sem,h]))|refine Exists.intro _ (Exists.intro _ (And.intro (And.intro rfl rfl) ?_)) |fail
      exact ⟨Env.Sub_of_has (by simp [Env.Has, Env.get, Env.putO]), Store.Sub.refl _⟩
  cases hbz : beginsZ (chr (B s) a) with
  | true =>
    rw [hbz] at j2
    rw [if_pos rfl] at j2
    have hat1 := hat a sk1
    have hal := rAtom_le (B s) hle a sk1
    obtain ⟨⟨k4, e⟩, hx⟩ : ∃ x, rAtom (B s) ch a = x := ⟨_, rfl⟩
    rw [hx] at hat1 hal j2
    simp only at hal j2
    repeat' first |refine s1 ?_|refine gS ?_|refine wT rfl ?_|refine wF rfl ?_|refine wt rfl ?_|refine wf rfl ?_|(refine wC rfl (fun h=>?_) (fun h=>?_)<;>(try contradiction))|((first|refine rd ?_|refine ry [] c0 fun nu _ _=>?_);simp -dsimp (disch:=omega) only[go_sem,eNd])|refine e0 (by decide) ?_|(refine And.intro ?_ ?_;omega)|refine And.intro (of_eq_true PutAt_put) ?_|refine gT ?_|refine gF ?_|(refine gI (fun h=>?_) (fun h=>?_)<;>(try contradiction)<;>(try refine rd ?_)<;>(try simp -dsimp (disch:=omega) only[go_sem,h,eNd]))|refine Exists.intro _ (Exists.intro _ (And.intro (And.intro rfl rfl) ?_)) |(refine PCall_use (hat1 _) ?_;rintro _ _ ⟨⟨v,rfl⟩,rfl⟩) |fail
    intro m hm
    have hmw := alloc_ne hm
    rw [put_oth hmw] at hm
    have sw := put_swap hmw
    have ot := put_oth hmw
    have hmσ := none_of k3 hm
    have hqm : q ≠ m := fun e => by rw [← e, hq3] at hm; cases hm
    have hqw : q ≠ w := fun e => hwq e.symm
    simp only [sw]
    by_cases he : e = 0
    · subst he
      rw [if_neg (by simp)] at j2
      have hak := hal.2.2 rfl
      have hpl := rPost_le (B s) hal.1
      repeat' first |((fail_if_success (first|show W _ _ (Code.seq (Code.region 10 _ _) _) _ _ _|show W _ _ (Code.seq (Code.seq (Code.region 10 _ _) _) _) _ _ _));refine s1 ?_)|refine gS ?_|refine wT rfl ?_|refine wF rfl ?_|refine wt rfl ?_|refine wf rfl ?_|(refine wC rfl (fun h=>?_) (fun h=>?_)<;>(try contradiction))|((fail_if_success (first|show W _ _ (Code.region 10 _ _) _ _ _));(first|refine rd ?_|refine ry [] c0 fun nu _ _=>?_);simp -dsimp (disch:=omega) only[go_sem,ot])|refine e0 (by decide) ?_|(refine And.intro ?_ ?_;omega)|refine And.intro (of_eq_true PutAt_put) ?_|refine gT ?_|refine gF ?_|(refine gI (fun h=>?_) (fun h=>?_)<;>(try contradiction)<;>(try refine rd ?_)<;>(try simp -dsimp (disch:=omega) only[go_sem,h,ot]))|refine Exists.intro _ (Exists.intro _ (And.intro (And.intro rfl rfl) ?_)) |fail
      refine W_midE (fun _ : Nd => [(0, .str s), (2, .int .i64 (8 - n)), (6, .ptr r 0 0), (9, .ptr q 0 0), (10, .ptr w 0 0), (11, .ptr m 0 0), (12, .int .i64 (rPost (B s) k4))]) (fun v => (τ'.put m (eO v)).put w R) (fun _ => True) ?_ ?_
      · have h42 := ris_spec s hs k4 (by omega) 42
        have h43 := ris_spec s hs k4 (by omega) 43
        have h63 := ris_spec s hs k4 (by omega) 63
        have hsk4 := rskip_spec s hs k4 (by omega)
        have hc4 : ((skipB (B s) k4 : Int) + 1) = ((skipB (B s) k4 + 1 : Nat) : Int) := by omega
        have hsl4 := skipB_len (B s) hal.1
        have gsz : ((#[32, 32, 32, 42, 43, 63] : Array UInt8).size : Int) = 6 := rfl
        have gx3 : (((#[32, 32, 32, 42, 43, 63] : Array UInt8).getD 3 0).toNat : Int) = 42 := rfl
        have gx4 : (((#[32, 32, 32, 42, 43, 63] : Array UInt8).getD 4 0).toNat : Int) = 43 := rfl
        have gx5 : (((#[32, 32, 32, 42, 43, 63] : Array UInt8).getD 5 0).toNat : Int) = 63 := rfl
        obtain ⟨b1, hb1⟩ : ∃ b, isB (B s) k4 42 = b := ⟨_, rfl⟩
        obtain ⟨b2, hb2⟩ : ∃ b, isB (B s) k4 43 = b := ⟨_, rfl⟩
        obtain ⟨b3, hb3⟩ : ∃ b, isB (B s) k4 63 = b := ⟨_, rfl⟩
        unfold rPost
        rw [hb1, hb2, hb3]
        rw [hb1] at h42
        rw [hb2] at h43
        rw [hb3] at h63
        repeat' first |refine s1 ?_|refine gS ?_|refine wT rfl ?_|refine wF rfl ?_|refine wt rfl ?_|refine wf rfl ?_|(refine wC rfl (fun h=>?_) (fun h=>?_)<;>(try contradiction))|((first|refine rd ?_|refine ry [] c0 fun nu _ _=>?_);simp -dsimp (disch:=omega) only[go_sem])|refine e0 (by decide) ?_|(refine And.intro ?_ ?_;omega)|refine And.intro (of_eq_true PutAt_put) ?_|refine gT ?_|refine gF ?_|(refine gI (fun h=>?_) (fun h=>?_)<;>(try contradiction)<;>(try refine rd ?_)<;>(try simp -dsimp (disch:=omega) only[go_sem,h]))|refine Exists.intro _ (Exists.intro _ (And.intro (And.intro rfl rfl) ?_)) |fail
        refine W_loop_st (fun j : Nat => [(0, .str s), (2, .int .i64 (8 - n)), (6, .ptr r 0 0), (9, .ptr q 0 0), (10, .ptr w 0 0), (11, .ptr m 0 0), (12, .int .i64 k4), (14, .int .i64 j)]) (fun _ => (τ'.put m (eO v)).put w R) (fun j => (j = 3 ∨ j = 4 ∧ b1 = false ∨ j = 5 ∧ b1 = false ∧ b2 = false ∨ j = 6 ∧ b1 = false ∧ b2 = false ∧ b3 = false)) (fun j => 6 - j) 3 (.inl rfl) (Env.Sub_of_has (by simp [Env.Has, Env.get, Env.putO])) (by simp only [eO, eNd]; exact Store.Sub.refl _) ?_
        simp only [eO, eNd]
        rintro j (rfl | ⟨rfl, rfl⟩ | ⟨rfl, rfl, rfl⟩ | ⟨rfl, rfl, rfl, rfl⟩)
        · cases b1 with
          | true =>
            have hlt := isB_le (B s) hb1
            repeat' first |refine s1 ?_|refine gS ?_|refine wT rfl ?_|refine wF rfl ?_|refine wt rfl ?_|refine wf rfl ?_|(refine wC rfl (fun h=>?_) (fun h=>?_)<;>(try contradiction))|((first|refine rd ?_|refine ry [] c0 fun nu _ _=>?_);simp -dsimp (disch:=omega) only[go_sem,hc4, ot, sw, gsz, gx3])|refine e0 (by decide) ?_|(refine And.intro ?_ ?_;omega)|refine And.intro (of_eq_true PutAt_put) ?_|refine gT ?_|refine gF ?_|(refine gI (fun h=>?_) (fun h=>?_)<;>(try contradiction)<;>(try refine rd ?_)<;>(try simp -dsimp (disch:=omega) only[go_sem,h,hc4, ot, sw, gsz, gx3]))|refine Exists.intro _ (Exists.intro _ (And.intro (And.intro rfl rfl) ?_)) |refine us (h42) ?_ |refine us (hsk4) ?_ |fail
            exact ⟨⟨3, false, false, .nil, [], .nil, [], _, _⟩, trivial, Env.Sub_of_has (by simp [Env.Has, Env.get, Env.putO]), Store.Sub.refl _⟩
          | false =>
            repeat' first |refine s1 ?_|refine gS ?_|refine wT rfl ?_|refine wF rfl ?_|refine wt rfl ?_|refine wf rfl ?_|(refine wC rfl (fun h=>?_) (fun h=>?_)<;>(try contradiction))|((first|refine rd ?_|refine ry [] c0 fun nu _ _=>?_);simp -dsimp (disch:=omega) only[go_sem,gsz, gx3])|refine e0 (by decide) ?_|(refine And.intro ?_ ?_;omega)|refine And.intro (of_eq_true PutAt_put) ?_|refine gT ?_|refine gF ?_|(refine gI (fun h=>?_) (fun h=>?_)<;>(try contradiction)<;>(try refine rd ?_)<;>(try simp -dsimp (disch:=omega) only[go_sem,h,gsz, gx3]))|refine Exists.intro _ (Exists.intro _ (And.intro (And.intro rfl rfl) ?_)) |refine us (h42) ?_ |fail
            exact ⟨4, by decide, .inr (.inl ⟨rfl, rfl⟩), Env.Sub_of_has (by simp [Env.Has, Env.get, Env.putO]), Store.Sub.refl _⟩
        · cases b2 with
          | true =>
            have hlt := isB_le (B s) hb2
            repeat' first |refine s1 ?_|refine gS ?_|refine wT rfl ?_|refine wF rfl ?_|refine wt rfl ?_|refine wf rfl ?_|(refine wC rfl (fun h=>?_) (fun h=>?_)<;>(try contradiction))|((first|refine rd ?_|refine ry [] c0 fun nu _ _=>?_);simp -dsimp (disch:=omega) only[go_sem,hc4, ot, sw, gsz, gx4])|refine e0 (by decide) ?_|(refine And.intro ?_ ?_;omega)|refine And.intro (of_eq_true PutAt_put) ?_|refine gT ?_|refine gF ?_|(refine gI (fun h=>?_) (fun h=>?_)<;>(try contradiction)<;>(try refine rd ?_)<;>(try simp -dsimp (disch:=omega) only[go_sem,h,hc4, ot, sw, gsz, gx4]))|refine Exists.intro _ (Exists.intro _ (And.intro (And.intro rfl rfl) ?_)) |refine us (h43) ?_ |refine us (hsk4) ?_ |fail
            exact ⟨⟨4, false, false, .nil, [], .nil, [], _, _⟩, trivial, Env.Sub_of_has (by simp [Env.Has, Env.get, Env.putO]), Store.Sub.refl _⟩
          | false =>
            repeat' first |refine s1 ?_|refine gS ?_|refine wT rfl ?_|refine wF rfl ?_|refine wt rfl ?_|refine wf rfl ?_|(refine wC rfl (fun h=>?_) (fun h=>?_)<;>(try contradiction))|((first|refine rd ?_|refine ry [] c0 fun nu _ _=>?_);simp -dsimp (disch:=omega) only[go_sem,gsz, gx4])|refine e0 (by decide) ?_|(refine And.intro ?_ ?_;omega)|refine And.intro (of_eq_true PutAt_put) ?_|refine gT ?_|refine gF ?_|(refine gI (fun h=>?_) (fun h=>?_)<;>(try contradiction)<;>(try refine rd ?_)<;>(try simp -dsimp (disch:=omega) only[go_sem,h,gsz, gx4]))|refine Exists.intro _ (Exists.intro _ (And.intro (And.intro rfl rfl) ?_)) |refine us (h43) ?_ |fail
            exact ⟨5, by decide, .inr (.inr (.inl ⟨rfl, rfl, rfl⟩)), Env.Sub_of_has (by simp [Env.Has, Env.get, Env.putO]), Store.Sub.refl _⟩
        · cases b3 with
          | true =>
            have hlt := isB_le (B s) hb3
            repeat' first |refine s1 ?_|refine gS ?_|refine wT rfl ?_|refine wF rfl ?_|refine wt rfl ?_|refine wf rfl ?_|(refine wC rfl (fun h=>?_) (fun h=>?_)<;>(try contradiction))|((first|refine rd ?_|refine ry [] c0 fun nu _ _=>?_);simp -dsimp (disch:=omega) only[go_sem,hc4, ot, sw, gsz, gx5])|refine e0 (by decide) ?_|(refine And.intro ?_ ?_;omega)|refine And.intro (of_eq_true PutAt_put) ?_|refine gT ?_|refine gF ?_|(refine gI (fun h=>?_) (fun h=>?_)<;>(try contradiction)<;>(try refine rd ?_)<;>(try simp -dsimp (disch:=omega) only[go_sem,h,hc4, ot, sw, gsz, gx5]))|refine Exists.intro _ (Exists.intro _ (And.intro (And.intro rfl rfl) ?_)) |refine us (h63) ?_ |refine us (hsk4) ?_ |fail
            exact ⟨⟨5, false, false, .nil, [], .nil, [], _, _⟩, trivial, Env.Sub_of_has (by simp [Env.Has, Env.get, Env.putO]), Store.Sub.refl _⟩
          | false =>
            repeat' first |refine s1 ?_|refine gS ?_|refine wT rfl ?_|refine wF rfl ?_|refine wt rfl ?_|refine wf rfl ?_|(refine wC rfl (fun h=>?_) (fun h=>?_)<;>(try contradiction))|((first|refine rd ?_|refine ry [] c0 fun nu _ _=>?_);simp -dsimp (disch:=omega) only[go_sem,gsz, gx5])|refine e0 (by decide) ?_|(refine And.intro ?_ ?_;omega)|refine And.intro (of_eq_true PutAt_put) ?_|refine gT ?_|refine gF ?_|(refine gI (fun h=>?_) (fun h=>?_)<;>(try contradiction)<;>(try refine rd ?_)<;>(try simp -dsimp (disch:=omega) only[go_sem,h,gsz, gx5]))|refine Exists.intro _ (Exists.intro _ (And.intro (And.intro rfl rfl) ?_)) |refine us (h63) ?_ |fail
            exact ⟨6, by decide, .inr (.inr (.inr ⟨rfl, rfl, rfl, rfl⟩)), Env.Sub_of_has (by simp [Env.Has, Env.get, Env.putO]), Store.Sub.refl _⟩
        · skip
          repeat' first |refine s1 ?_|refine gS ?_|refine wT rfl ?_|refine wF rfl ?_|refine wt rfl ?_|refine wf rfl ?_|(refine wC rfl (fun h=>?_) (fun h=>?_)<;>(try contradiction))|((first|refine rd ?_|refine ry [] c0 fun nu _ _=>?_);simp -dsimp (disch:=omega) only[go_sem])|refine e0 (by decide) ?_|(refine And.intro ?_ ?_;omega)|refine And.intro (of_eq_true PutAt_put) ?_|refine gT ?_|refine gF ?_|(refine gI (fun h=>?_) (fun h=>?_)<;>(try contradiction)<;>(try refine rd ?_)<;>(try simp -dsimp (disch:=omega) only[go_sem,h]))|refine Exists.intro _ (Exists.intro _ (And.intro (And.intro rfl rfl) ?_)) |fail
          exact ⟨v, trivial, Env.Sub_of_has (by simp [Env.Has, Env.get, Env.putO]), Store.Sub.refl _⟩
      · rintro v _
        rw [← hR]
        simp only [ndO, eO, eNd]
        rcases j7 with ⟨rfl, rfl⟩ | ⟨t, rfl, jt, htw, hts⟩
        · skip
          repeat' first |refine s1 ?_|refine gS ?_|refine wT rfl ?_|refine wF rfl ?_|refine wt rfl ?_|refine wf rfl ?_|(refine wC rfl (fun h=>?_) (fun h=>?_)<;>(try contradiction))|((first|refine rd ?_|refine ry [] c0 fun nu _ _=>?_);simp -dsimp (disch:=omega) only[go_sem,ot])|refine e0 (by decide) ?_|(refine And.intro ?_ ?_;omega)|refine And.intro (of_eq_true PutAt_put) ?_|refine gT ?_|refine gF ?_|(refine gI (fun h=>?_) (fun h=>?_)<;>(try contradiction)<;>(try refine rd ?_)<;>(try simp -dsimp (disch:=omega) only[go_sem,h,ot]))|refine Exists.intro _ (Exists.intro _ (And.intro (And.intro rfl rfl) ?_)) |fail
          intro t ht
          have t1 := alloc_ne ht
          rw [put_oth t1] at ht
          have t2 := alloc_ne ht
          rw [put_oth t2] at ht
          simp -dsimp (disch:=omega) only[go_sem,ot, sw, put_swap t1, put_swap t2]
          repeat' first |refine s1 ?_|refine gS ?_|refine wT rfl ?_|refine wF rfl ?_|refine wt rfl ?_|refine wf rfl ?_|(refine wC rfl (fun h=>?_) (fun h=>?_)<;>(try contradiction))|((first|refine rd ?_|refine ry [] c0 fun nu _ _=>?_);simp -dsimp (disch:=omega) only[go_sem,ot, sw, put_swap t1, put_swap t2])|refine e0 (by decide) ?_|(refine And.intro ?_ ?_;omega)|refine And.intro (of_eq_true PutAt_put) ?_|refine gT ?_|refine gF ?_|(refine gI (fun h=>?_) (fun h=>?_)<;>(try contradiction)<;>(try refine rd ?_)<;>(try simp -dsimp (disch:=omega) only[go_sem,h,ot, sw, put_swap t1, put_swap t2]))|refine Exists.intro _ (Exists.intro _ (And.intro (And.intro rfl rfl) ?_)) |fail
          refine ⟨⟨g, rPost (B s) k4, .tip t, [] ++ [eNd v], (τ'.put m (eO v)).put t (.tip 1 178 6)⟩, by simp, ⟨hpl.1, j2, by simp at j3 ⊢; omega, by simp only; omega, rfl, keep_new (keep_new j6 (none_of j6 hm)) (none_of j6 ht), .inr ⟨t, rfl, put_same _ _ _, t1, none_of j6 ht⟩⟩, Env.Sub_of_has (by simp [Env.Has, Env.get, Env.putO]), by simp only [ndO, eNd, eO, List.nil_append]; first | exact Store.Sub.refl _ | (rw [← put_swap t2]; exact Store.Sub.refl _)⟩
        · have htm : t ≠ m := fun e => by rw [e, hm] at jt; cases jt
          repeat' first |refine s1 ?_|refine gS ?_|refine wT rfl ?_|refine wF rfl ?_|refine wt rfl ?_|refine wf rfl ?_|(refine wC rfl (fun h=>?_) (fun h=>?_)<;>(try contradiction))|((first|refine rd ?_|refine ry [] c0 fun nu _ _=>?_);simp -dsimp (disch:=omega) only[go_sem,ot, sw, put_oth htw, put_oth htm, put_swap htw, put_swap htm, jt, j5])|refine e0 (by decide) ?_|(refine And.intro ?_ ?_;omega)|refine And.intro (of_eq_true PutAt_put) ?_|refine gT ?_|refine gF ?_|(refine gI (fun h=>?_) (fun h=>?_)<;>(try contradiction)<;>(try refine rd ?_)<;>(try simp -dsimp (disch:=omega) only[go_sem,h,ot, sw, put_oth htw, put_oth htm, put_swap htw, put_swap htm, jt, j5]))|refine Exists.intro _ (Exists.intro _ (And.intro (And.intro rfl rfl) ?_)) |fail
          refine ⟨⟨g, rPost (B s) k4, .tip t, rows' ++ [eNd v], (τ'.put m (eO v)).put t (.tip (rows' ++ [eNd v]).length 178 6)⟩, by simp, ⟨hpl.1, j2, by simp at j3 ⊢; omega, by simp only; omega, by simp only [rowsOk_append, j5]; rfl, keep_new (keep_new j6 (none_of j6 hm)) hts, .inr ⟨t, rfl, put_same _ _ _, htw, hts⟩⟩, Env.Sub_of_has (by simp [Env.Has, Env.get, Env.putO]), by simp only [ndO, eNd, eO, List.length_append, List.length_cons, List.length_nil]; first | exact Store.Sub.refl _ | (rw [← put_swap htm]; exact Store.Sub.refl _)⟩
    · rw [if_pos he] at j2
      have haf : rAlt (B s) ch (f + 1) p = (k4, e) := by rw [rAlt, ← j2, if_pos he]
      rw [haf, ← hR]
      rw [← hC] at hq3
      rw [← hM] at hr3
      have hrm : r ≠ m := fun e => by rw [← e, hr3] at hm; cases hm
      have hrw : r ≠ w := fun e => hwr e.symm
      simp only [ndO] at hq3 ⊢
      repeat' first |refine s1 ?_|refine gS ?_|refine wT rfl ?_|refine wF rfl ?_|refine wt rfl ?_|refine wf rfl ?_|(refine wC rfl (fun h=>?_) (fun h=>?_)<;>(try contradiction))|((first|refine rd ?_|refine ry [] c0 fun nu _ _=>?_);simp -dsimp (disch:=omega) only[go_sem,ot, hq3, put_oth hqm, put_oth hqw, put_oth hrm, put_oth hrw, hr3])|refine e0 (by decide) ?_|(refine And.intro ?_ ?_;omega)|refine And.intro (of_eq_true PutAt_put) ?_|refine gT ?_|refine gF ?_|(refine gI (fun h=>?_) (fun h=>?_)<;>(try contradiction)<;>(try refine rd ?_)<;>(try simp -dsimp (disch:=omega) only[go_sem,h,ot, hq3, put_oth hqm, put_oth hqw, put_oth hrm, put_oth hrw, hr3]))|refine Exists.intro _ (Exists.intro _ (And.intro (And.intro rfl rfl) ?_)) |fail
      exact NR_end (keep_new (keep_new (keep_new k3 hmσ) (none_of (fun c y h => k1 _ _ (hs1 _ _ h)) hw)) hr) rfl rfl
  | false =>
    rw [hbz] at j2
    rw [if_neg (by simp)] at j2
    have haf : rAlt (B s) ch (f + 1) p = if isB (B s) a 124 = true then rAlt (B s) ch f (skipB (B s) a + 1) else (a, 0) := by rw [rAlt, ← j2, if_neg (by simp)]
    rw [← hR]
    rw [← hC] at hq3
    have hqw : q ≠ w := fun e => hwq e.symm
    have h124 := ris_spec s hs a (by omega) 124
    have hska := rskip_spec s hs a (by omega)
    have hca : ((skipB (B s) a : Int) + 1) = ((skipB (B s) a + 1 : Nat) : Int) := by omega
    have ot := fun σ x => put_oth (σ := σ) (x := x) hqw
    have k4 : σ1.Sub (τ'.put w R) := keep_new (fun c y h => j6 _ _ (k1 _ _ h)) (none_of k1 hw)
    simp only [ndO] at hq3 hR ⊢
    rw [hR]
    have hrq : r ≠ q := fun e => hqr e.symm
    have hrw : r ≠ w := fun e => hwr e.symm
    have k4s : σ1.Sub τ' := fun c y h => j6 _ _ (k1 _ _ h)
    have hpa : p ≤ a := by have := (rRow_le (B s) hle ((B s).length + 2) p i1).2; rw [← j2] at this; exact this
    have hsa := skipB_le (B s) a
    rw [← hM] at hr3
    rcases i7 with ⟨rfl, rfl⟩ | ⟨t, rfl, jt, htq, hts⟩
    · skip
      rw [← hR]
      repeat' first |((fail_if_success (first|show W _ _ (Code.seq (Code.region 19 _ _) _) _ _ _|show W _ _ (Code.seq (Code.seq (Code.region 19 _ _) _) _) _ _ _));refine s1 ?_)|refine gS ?_|refine wT rfl ?_|refine wF rfl ?_|refine wt rfl ?_|refine wf rfl ?_|(refine wC rfl (fun h=>?_) (fun h=>?_)<;>(try contradiction))|((fail_if_success (first|show W _ _ (Code.region 19 _ _) _ _ _));(first|refine rd ?_|refine ry [] c0 fun nu _ _=>?_);simp -dsimp (disch:=omega) only[go_sem,ot, hq3])|refine e0 (by decide) ?_|(refine And.intro ?_ ?_;omega)|refine And.intro (of_eq_true PutAt_put) ?_|refine gT ?_|refine gF ?_|(refine gI (fun h=>?_) (fun h=>?_)<;>(try contradiction)<;>(try refine rd ?_)<;>(try simp -dsimp (disch:=omega) only[go_sem,h,ot, hq3]))|refine Exists.intro _ (Exists.intro _ (And.intro (And.intro rfl rfl) ?_)) |fail
      intro t ht
      have htw := alloc_ne ht
      rw [put_oth htw] at ht
      have hqt : q ≠ t := fun e => by rw [← e, hq3] at ht; cases ht
      have hrt : r ≠ t := fun e => by rw [← e, hr3] at ht; cases ht
      simp -dsimp (disch:=omega) only[go_sem,ot, hq3, put_oth hqt]
      cases h12 : isB (B s) a 124 with
      | true =>
        have hlt := isB_le (B s) h12
        rw [h12] at h124
        rw [h12, if_pos rfl] at haf
        repeat' first |refine s1 ?_|refine gS ?_|refine wT rfl ?_|refine wF rfl ?_|refine wt rfl ?_|refine wf rfl ?_|(refine wC rfl (fun h=>?_) (fun h=>?_)<;>(try contradiction))|((first|refine rd ?_|refine ry [] c0 fun nu _ _=>?_);simp -dsimp (disch:=omega) only[go_sem,hca, ot, hq3, put_oth hqt, put_oth hrw, put_oth hrt, put_oth hrq, hr3])|refine e0 (by decide) ?_|(refine And.intro ?_ ?_;omega)|refine And.intro (of_eq_true PutAt_put) ?_|refine gT ?_|refine gF ?_|(refine gI (fun h=>?_) (fun h=>?_)<;>(try contradiction)<;>(try refine rd ?_)<;>(try simp -dsimp (disch:=omega) only[go_sem,h,hca, ot, hq3, put_oth hqt, put_oth hrw, put_oth hrt, put_oth hrq, hr3]))|refine Exists.intro _ (Exists.intro _ (And.intro (And.intro rfl rfl) ?_)) |refine us (h124) ?_ |refine us (hska) ?_ |fail
        refine ⟨⟨f, skipB (B s) a + 1, .tip t, [] ++ [AV.agg [.int .i64 1, .bool false, .bool false, .sl .nil [], .sl .nil [], .sl k' rows']], (τ'.put w R).put t (.tip 1 178 6)⟩, by simp, ⟨hlt.2, haf.symm, by simp at i3 ⊢; omega, by simp only; omega, rfl, keep_new k4 (none_of k4s ht), .inr ⟨t, rfl, put_same _ _ _, fun e => hqt e.symm, none_of k4s ht⟩⟩, Env.Sub_of_has (by simp [Env.Has, Env.get, Env.putO]), ?_⟩
        rw [← hR]
        exact Store.Sub.refl _
      | false =>
        rw [h12] at h124
        rw [h12, if_neg (by simp)] at haf
        rw [haf]
        repeat' first |refine s1 ?_|refine gS ?_|refine wT rfl ?_|refine wF rfl ?_|refine wt rfl ?_|refine wf rfl ?_|(refine wC rfl (fun h=>?_) (fun h=>?_)<;>(try contradiction))|((first|refine rd ?_|refine ry [] c0 fun nu _ _=>?_);simp -dsimp (disch:=omega) only[go_sem,hca, ot, hq3, put_oth hqt, put_oth hrw, put_oth hrt, put_oth hrq, hr3])|refine e0 (by decide) ?_|(refine And.intro ?_ ?_;omega)|refine And.intro (of_eq_true PutAt_put) ?_|refine gT ?_|refine gF ?_|(refine gI (fun h=>?_) (fun h=>?_)<;>(try contradiction)<;>(try refine rd ?_)<;>(try simp -dsimp (disch:=omega) only[go_sem,h,hca, ot, hq3, put_oth hqt, put_oth hrw, put_oth hrt, put_oth hrq, hr3]))|refine Exists.intro _ (Exists.intro _ (And.intro (And.intro rfl rfl) ?_)) |refine us (h124) ?_ |refine us (hska) ?_ |fail
        exact NR_end (keep_new (keep_new (keep_new (keep_new k3 (none_of (fun c y h => k1 _ _ (hs1 _ _ h)) hw)) (none_of k3 ht)) hq) hr) rfl rfl
    · have htw : t ≠ w := fun e => by
        have := j6 _ _ (show τ1 t = some _ by rw [← hτ1, put_oth htq]; exact jt)
        rw [← hτ1, ← e, put_oth htq, jt] at hw; cases hw
      have jt2 : τ' t = _ := j6 _ _ (show τ1 t = some _ by rw [← hτ1, put_oth htq]; exact jt)
      have hqt : q ≠ t := fun e => htq e.symm
      have hrt : r ≠ t := fun e => by rw [← e, hr1] at hts; cases hts
      rw [← hR]
      cases h12 : isB (B s) a 124 with
      | true =>
        have hlt := isB_le (B s) h12
        rw [h12] at h124
        rw [h12, if_pos rfl] at haf
        repeat' first |refine s1 ?_|refine gS ?_|refine wT rfl ?_|refine wF rfl ?_|refine wt rfl ?_|refine wf rfl ?_|(refine wC rfl (fun h=>?_) (fun h=>?_)<;>(try contradiction))|((first|refine rd ?_|refine ry [] c0 fun nu _ _=>?_);simp -dsimp (disch:=omega) only[go_sem,hca, ot, hq3, put_oth hqt, put_oth hrw, put_oth hrt, put_oth hrq, hr3, put_oth htw, jt2, i5])|refine e0 (by decide) ?_|(refine And.intro ?_ ?_;omega)|refine And.intro (of_eq_true PutAt_put) ?_|refine gT ?_|refine gF ?_|(refine gI (fun h=>?_) (fun h=>?_)<;>(try contradiction)<;>(try refine rd ?_)<;>(try simp -dsimp (disch:=omega) only[go_sem,h,hca, ot, hq3, put_oth hqt, put_oth hrw, put_oth hrt, put_oth hrq, hr3, put_oth htw, jt2, i5]))|refine Exists.intro _ (Exists.intro _ (And.intro (And.intro rfl rfl) ?_)) |refine us (h124) ?_ |refine us (hska) ?_ |fail
        refine ⟨⟨f, skipB (B s) a + 1, .tip t, rows ++ [AV.agg [.int .i64 1, .bool false, .bool false, .sl .nil [], .sl .nil [], .sl k' rows']], (τ'.put w R).put t (.tip (rows ++ [AV.agg [.int .i64 1, .bool false, .bool false, .sl .nil [], .sl .nil [], .sl k' rows']]).length 178 6)⟩, by simp, ⟨hlt.2, haf.symm, by simp at i3 ⊢; omega, by simp only; omega, by simp only [rowsOk_append, i5]; rfl, keep_new k4 hts, .inr ⟨t, rfl, put_same _ _ _, htq, hts⟩⟩, Env.Sub_of_has (by simp [Env.Has, Env.get, Env.putO]), ?_⟩
        rw [← hR]; simp only [List.length_append, List.length_cons, List.length_nil]
        exact Store.Sub.refl _
      | false =>
        rw [h12] at h124
        rw [h12, if_neg (by simp)] at haf
        rw [haf]
        repeat' first |refine s1 ?_|refine gS ?_|refine wT rfl ?_|refine wF rfl ?_|refine wt rfl ?_|refine wf rfl ?_|(refine wC rfl (fun h=>?_) (fun h=>?_)<;>(try contradiction))|((first|refine rd ?_|refine ry [] c0 fun nu _ _=>?_);simp -dsimp (disch:=omega) only[go_sem,hca, ot, hq3, put_oth hqt, put_oth hrw, put_oth hrt, put_oth hrq, hr3, put_oth htw, jt2, i5])|refine e0 (by decide) ?_|(refine And.intro ?_ ?_;omega)|refine And.intro (of_eq_true PutAt_put) ?_|refine gT ?_|refine gF ?_|(refine gI (fun h=>?_) (fun h=>?_)<;>(try contradiction)<;>(try refine rd ?_)<;>(try simp -dsimp (disch:=omega) only[go_sem,h,hca, ot, hq3, put_oth hqt, put_oth hrw, put_oth hrt, put_oth hrq, hr3, put_oth htw, jt2, i5]))|refine Exists.intro _ (Exists.intro _ (And.intro (And.intro rfl rfl) ?_)) |refine us (h124) ?_ |refine us (hska) ?_ |fail
        exact NR_end (keep_new (keep_new (keep_new (keep_new k3 (none_of (fun c y h => k1 _ _ (hs1 _ _ h)) hw)) (none_of hs1 hts)) hq) hr) rfl rfl
end
theorem rchoice_all (s : ByteArray) (hs : s.size ≤ 1000) : ∀ n, n ≤ 8 → RCh s n
  | 0, _ => rchoice_zero s hs
  | n + 1, h => rchoice_spec s hs n (by omega) (rchoice_all s hs n (by omega))
end Go.Proofs.YtaealcimocpnnaaGreat
namespace Go.Proofs.YtaealcimocpnnaaGreat
open Go.Kern Go.RowKit
structure Xv where
  f : Bool
  l : Bool
  v : Nd
def eXv (x : Xv) : AV := .agg [.bool x.f, .bool x.l, .int .i64 x.v.kind, .bool x.v.dot, .bool x.v.set, .sl x.v.k1 x.v.fr, .sl x.v.k2 x.v.tl, .sl x.v.k3 x.v.kids]
theorem PE_end {σ τ : Store} {e : Int} {f l : Bool} {kind : Int} {dot set : Bool} {k1 k2 k3 : SK} {fr tl kids : List AV} {y : AV} (hs : σ.Sub τ) (hy : y = .int .i64 e) : ∃ s0 : Store, s0.Sub τ ∧ (∃ z : Xv, (.tup [.agg [.bool f, .bool l, .int .i64 kind, .bool dot, .bool set, .sl k1 fr, .sl k2 tl, .sl k3 kids], y] : AV) = .tup [eXv z, .int .i64 e]) ∧ s0 = σ := ⟨σ, hs, ⟨⟨f, l, ⟨kind, dot, set, k1, fr, k2, tl, k3, kids⟩⟩, by rw [hy]; rfl⟩, rfl⟩
def xO (f l : Bool) (v : Nd) : Ob := .arr 180 [.agg [.bool f, .bool l, .int .i64 v.kind, .bool v.dot, .bool v.set, .sl v.k1 v.fr, .sl v.k2 v.tl, .sl v.k3 v.kids]]
def nd0 : Nd := ⟨0, false, false, .nil, [], .nil, [], .nil, []⟩
set_option maxRecDepth 100000
set_option maxHeartbeats 4000000
attribute [local irreducible] PCall W
section
variable (s : ByteArray) (hs : s.size ≤ 1000)
include hs
theorem rparse_spec (σ : Store) : PCall Tryz.prog 123 [.str s] σ (fun r t => (∃ x, r = .tup [eXv x, .int .i64 (rParse (B s))]) ∧ t = σ) := by
  have hl := length_B s
  unfold rParse
  by_cases hlong : 64 < (B s).length
  · rw [if_pos hlong]
    refine PCall_w [.cell 2 180, .tmp 3] 51 Tryz.func123 (by rfl) rfl rfl rfl rfl ?_
    repeat' first |refine s1 ?_|refine gS ?_|refine wT rfl ?_|refine wF rfl ?_|refine wt rfl ?_|refine wf rfl ?_|(refine wC rfl (fun h=>?_) (fun h=>?_)<;>(try contradiction))|((first|refine rd ?_|refine ry [] c0 fun nu _ _=>?_);simp -dsimp (disch:=omega) only[go_sem])|refine e0 (by decide) ?_|(refine And.intro ?_ ?_;omega)|refine And.intro (of_eq_true PutAt_put) ?_|refine gT ?_|refine gF ?_|(refine gI (fun h=>?_) (fun h=>?_)<;>(try contradiction)<;>(try refine rd ?_)<;>(try simp -dsimp (disch:=omega) only[go_sem,h]))|refine Exists.intro _ (Exists.intro _ (And.intro (And.intro rfl rfl) ?_)) |fail
    intro r hr
    repeat' first |refine s1 ?_|refine gS ?_|refine wT rfl ?_|refine wF rfl ?_|refine wt rfl ?_|refine wf rfl ?_|(refine wC rfl (fun h=>?_) (fun h=>?_)<;>(try contradiction))|((first|refine rd ?_|refine ry [] c0 fun nu _ _=>?_);simp -dsimp (disch:=omega) only[go_sem])|refine e0 (by decide) ?_|(refine And.intro ?_ ?_;omega)|refine And.intro (of_eq_true PutAt_put) ?_|refine gT ?_|refine gF ?_|(refine gI (fun h=>?_) (fun h=>?_)<;>(try contradiction)<;>(try refine rd ?_)<;>(try simp -dsimp (disch:=omega) only[go_sem,h]))|refine Exists.intro _ (Exists.intro _ (And.intro (And.intro rfl rfl) ?_)) |fail
    intro q hq
    have hqr := alloc_ne hq
    rw [put_oth hqr] at hq
    have sw := put_swap hqr
    have ot := put_oth hqr
    simp only [sw]
    repeat' first |refine s1 ?_|refine gS ?_|refine wT rfl ?_|refine wF rfl ?_|refine wt rfl ?_|refine wf rfl ?_|(refine wC rfl (fun h=>?_) (fun h=>?_)<;>(try contradiction))|((first|refine rd ?_|refine ry [] c0 fun nu _ _=>?_);simp -dsimp (disch:=omega) only[go_sem,sw, ot])|refine e0 (by decide) ?_|(refine And.intro ?_ ?_;omega)|refine And.intro (of_eq_true PutAt_put) ?_|refine gT ?_|refine gF ?_|(refine gI (fun h=>?_) (fun h=>?_)<;>(try contradiction)<;>(try refine rd ?_)<;>(try simp -dsimp (disch:=omega) only[go_sem,h,sw, ot]))|refine Exists.intro _ (Exists.intro _ (And.intro (And.intro rfl rfl) ?_)) |fail
    exact PE_end (Sub_put (Sub_put (Store.Sub.refl σ) hq _) hr _) rfl
  rw [if_neg hlong]
  have h94 := ris_spec s hs 0 (by omega) 94
  have hs0 := rskip_spec s hs 0 (by omega)
  have hc0 : ((skipB (B s) 0 : Int) + 1) = ((skipB (B s) 0 + 1 : Nat) : Int) := by omega
  obtain ⟨i0, hi0⟩ : ∃ i, (if isB (B s) 0 94 = true then skipB (B s) 0 + 1 else 0) = i := ⟨_, rfl⟩
  have hle0 : i0 ≤ (B s).length := by
    rw [← hi0]
    split
    · rename_i h; exact (isB_le (B s) h).2
    · omega
  have hch := rchoice_all s hs 8 (by omega) i0 hle0
  have hcl := rChoice_le (B s) 8 i0 hle0
  rw [hi0]
  obtain ⟨⟨k, e⟩, hx⟩ : ∃ x, rChoice (B s) 8 i0 = x := ⟨_, rfl⟩
  rw [hx] at hch hcl ⊢
  simp only at hcl ⊢
  have h98 : ((9 : Int) - (8 : Nat)) = 1 := by omega
  rw [h98] at hch
  have h36 := ris_spec s hs k (by omega) 36
  have hsk := rskip_spec s hs k (by omega)
  have hck : ((skipB (B s) k : Int) + 1) = ((skipB (B s) k + 1 : Nat) : Int) := by omega
  obtain ⟨k2, hk2⟩ : ∃ i, (if isB (B s) k 36 = true then skipB (B s) k + 1 else k) = i := ⟨_, rfl⟩
  have hle2 : k2 ≤ (B s).length := by
    rw [← hk2]
    split
    · rename_i h; exact (isB_le (B s) h).2
    · omega
  have hsk2 := rskip_spec s hs k2 (by omega)
  have hsl2 := skipB_len (B s) hle2
  rw [hk2]
  refine PCall_w [.cell 2 180, .tmp 3] 51 Tryz.func123 (by rfl) rfl rfl rfl rfl ?_
  repeat' first |refine s1 ?_|refine gS ?_|refine wT rfl ?_|refine wF rfl ?_|refine wt rfl ?_|refine wf rfl ?_|(refine wC rfl (fun h=>?_) (fun h=>?_)<;>(try contradiction))|((first|refine rd ?_|refine ry [] c0 fun nu _ _=>?_);simp -dsimp (disch:=omega) only[go_sem])|refine e0 (by decide) ?_|(refine And.intro ?_ ?_;omega)|refine And.intro (of_eq_true PutAt_put) ?_|refine gT ?_|refine gF ?_|(refine gI (fun h=>?_) (fun h=>?_)<;>(try contradiction)<;>(try refine rd ?_)<;>(try simp -dsimp (disch:=omega) only[go_sem,h]))|refine Exists.intro _ (Exists.intro _ (And.intro (And.intro rfl rfl) ?_)) |fail
  intro r hr
  repeat' first |refine s1 ?_|refine gS ?_|refine wT rfl ?_|refine wF rfl ?_|refine wt rfl ?_|refine wf rfl ?_|(refine wC rfl (fun h=>?_) (fun h=>?_)<;>(try contradiction))|((first|refine rd ?_|refine ry [] c0 fun nu _ _=>?_);simp -dsimp (disch:=omega) only[go_sem])|refine e0 (by decide) ?_|(refine And.intro ?_ ?_;omega)|refine And.intro (of_eq_true PutAt_put) ?_|refine gT ?_|refine gF ?_|(refine gI (fun h=>?_) (fun h=>?_)<;>(try contradiction)<;>(try refine rd ?_)<;>(try simp -dsimp (disch:=omega) only[go_sem,h]))|refine Exists.intro _ (Exists.intro _ (And.intro (And.intro rfl rfl) ?_)) |fail
  intro q hq
  have hqr := alloc_ne hq
  rw [put_oth hqr] at hq
  have sw := put_swap hqr
  have ot := put_oth hqr
  obtain ⟨M, hM⟩ : ∃ M, Ob.arr 180 [.agg [.bool false, .bool false, .int .i64 0, .bool false, .bool false, .sl .nil [], .sl .nil [], .sl .nil []]] = M := ⟨_, rfl⟩
  simp only [sw]
  repeat' first |((fail_if_success (first|show W _ _ (Code.seq (Code.region 5 _ _) _) _ _ _|show W _ _ (Code.seq (Code.seq (Code.region 5 _ _) _) _) _ _ _));refine s1 ?_)|refine gS ?_|refine wT rfl ?_|refine wF rfl ?_|refine wt rfl ?_|refine wf rfl ?_|(refine wC rfl (fun h=>?_) (fun h=>?_)<;>(try contradiction))|((fail_if_success (first|show W _ _ (Code.region 5 _ _) _ _ _));(first|refine rd ?_|refine ry [] c0 fun nu _ _=>?_);simp -dsimp (disch:=omega) only[go_sem,sw, ot])|refine e0 (by decide) ?_|(refine And.intro ?_ ?_;omega)|refine And.intro (of_eq_true PutAt_put) ?_|refine gT ?_|refine gF ?_|(refine gI (fun h=>?_) (fun h=>?_)<;>(try contradiction)<;>(try refine rd ?_)<;>(try simp -dsimp (disch:=omega) only[go_sem,h,sw, ot]))|refine Exists.intro _ (Exists.intro _ (And.intro (And.intro rfl rfl) ?_)) |fail
  refine W_midE (fun _ : Bool => [(0, .str s), (2, .ptr r 0 0), (4, .ptr q 0 0), (5, .int .i64 i0)]) (fun b => (σ.put q (xO b false nd0)).put r M) (fun _ => True) ?_ ?_
  · cases e94 : isB (B s) 0 94 with
    | true =>
      have hlt := isB_le (B s) e94
      rw [e94] at h94 hi0
      rw [if_pos rfl] at hi0
      repeat' first |refine s1 ?_|refine gS ?_|refine wT rfl ?_|refine wF rfl ?_|refine wt rfl ?_|refine wf rfl ?_|(refine wC rfl (fun h=>?_) (fun h=>?_)<;>(try contradiction))|((first|refine rd ?_|refine ry [] c0 fun nu _ _=>?_);simp -dsimp (disch:=omega) only[go_sem,sw, ot, hc0])|refine e0 (by decide) ?_|(refine And.intro ?_ ?_;omega)|refine And.intro (of_eq_true PutAt_put) ?_|refine gT ?_|refine gF ?_|(refine gI (fun h=>?_) (fun h=>?_)<;>(try contradiction)<;>(try refine rd ?_)<;>(try simp -dsimp (disch:=omega) only[go_sem,h,sw, ot, hc0]))|refine Exists.intro _ (Exists.intro _ (And.intro (And.intro rfl rfl) ?_)) |refine us (h94) ?_ |refine us (hs0) ?_ |fail
      exact ⟨true, trivial, Env.Sub_of_has (by simp [Env.Has, Env.get, Env.putO, hi0]), by rw [← hM]; exact Store.Sub.refl _⟩
    | false =>
      rw [e94] at h94 hi0
      rw [if_neg (by simp)] at hi0
      subst hi0
      repeat' first |refine s1 ?_|refine gS ?_|refine wT rfl ?_|refine wF rfl ?_|refine wt rfl ?_|refine wf rfl ?_|(refine wC rfl (fun h=>?_) (fun h=>?_)<;>(try contradiction))|((first|refine rd ?_|refine ry [] c0 fun nu _ _=>?_);simp -dsimp (disch:=omega) only[go_sem,sw, ot])|refine e0 (by decide) ?_|(refine And.intro ?_ ?_;omega)|refine And.intro (of_eq_true PutAt_put) ?_|refine gT ?_|refine gF ?_|(refine gI (fun h=>?_) (fun h=>?_)<;>(try contradiction)<;>(try refine rd ?_)<;>(try simp -dsimp (disch:=omega) only[go_sem,h,sw, ot]))|refine Exists.intro _ (Exists.intro _ (And.intro (And.intro rfl rfl) ?_)) |refine us (h94) ?_ |fail
      exact ⟨false, trivial, Env.Sub_of_has (by simp [Env.Has, Env.get, Env.putO]), by rw [← hM]; exact Store.Sub.refl _⟩
  rintro f _
  have fin : ∀ (m : Nat) (hm : σ m = none) x y z, σ.Sub (((σ.put m z).put q y).put r x) := fun m hm x y z => keep_new (keep_new (keep_new (fun _ _ h => h) hm) hq) hr
  repeat' first |refine s1 ?_|refine gS ?_|refine wT rfl ?_|refine wF rfl ?_|refine wt rfl ?_|refine wf rfl ?_|(refine wC rfl (fun h=>?_) (fun h=>?_)<;>(try contradiction))|((first|refine rd ?_|refine ry [] c0 fun nu _ _=>?_);simp -dsimp (disch:=omega) only[go_sem,eNd])|refine e0 (by decide) ?_|(refine And.intro ?_ ?_;omega)|refine And.intro (of_eq_true PutAt_put) ?_|refine gT ?_|refine gF ?_|(refine gI (fun h=>?_) (fun h=>?_)<;>(try contradiction)<;>(try refine rd ?_)<;>(try simp -dsimp (disch:=omega) only[go_sem,h,eNd]))|refine Exists.intro _ (Exists.intro _ (And.intro (And.intro rfl rfl) ?_)) |(refine PCall_use (hch _) ?_;rintro _ _ ⟨⟨v,rfl⟩,rfl⟩) |fail
  intro m hm
  have mr := alloc_ne hm
  rw [put_oth mr] at hm
  have mq := alloc_ne hm
  rw [put_oth mq] at hm
  simp only [put_swap mr, put_swap mq]
  have rm : r ≠ m := fun e => mr e.symm
  have qm : q ≠ m := fun e => mq e.symm
  by_cases he : e = 0
  · subst he
    rw [if_neg (by simp)]
    simp only [xO, nd0]
    repeat' first |((fail_if_success (first|show W _ _ (Code.seq (Code.region 12 _ _) _) _ _ _|show W _ _ (Code.seq (Code.seq (Code.region 12 _ _) _) _) _ _ _));refine s1 ?_)|refine gS ?_|refine wT rfl ?_|refine wF rfl ?_|refine wt rfl ?_|refine wf rfl ?_|(refine wC rfl (fun h=>?_) (fun h=>?_)<;>(try contradiction))|((fail_if_success (first|show W _ _ (Code.region 12 _ _) _ _ _));(first|refine rd ?_|refine ry [] c0 fun nu _ _=>?_);simp -dsimp (disch:=omega) only[go_sem,sw, ot, put_oth mr, put_oth mq])|refine e0 (by decide) ?_|(refine And.intro ?_ ?_;omega)|refine And.intro (of_eq_true PutAt_put) ?_|refine gT ?_|refine gF ?_|(refine gI (fun h=>?_) (fun h=>?_)<;>(try contradiction)<;>(try refine rd ?_)<;>(try simp -dsimp (disch:=omega) only[go_sem,h,sw, ot, put_oth mr, put_oth mq]))|refine Exists.intro _ (Exists.intro _ (And.intro (And.intro rfl rfl) ?_)) |fail
    refine W_midE (fun _ : Bool => [(0, .str s), (2, .ptr r 0 0), (4, .ptr q 0 0), (7, .int .i64 k2)]) (fun b => ((σ.put m (eO v)).put q (xO f b v)).put r M) (fun _ => True) ?_ ?_
    · cases e36 : isB (B s) k 36 with
      | true =>
        have hlt := isB_le (B s) e36
        rw [e36] at h36 hk2
        rw [if_pos rfl] at hk2
        repeat' first |refine s1 ?_|refine gS ?_|refine wT rfl ?_|refine wF rfl ?_|refine wt rfl ?_|refine wf rfl ?_|(refine wC rfl (fun h=>?_) (fun h=>?_)<;>(try contradiction))|((first|refine rd ?_|refine ry [] c0 fun nu _ _=>?_);simp -dsimp (disch:=omega) only[go_sem,sw, ot, hck])|refine e0 (by decide) ?_|(refine And.intro ?_ ?_;omega)|refine And.intro (of_eq_true PutAt_put) ?_|refine gT ?_|refine gF ?_|(refine gI (fun h=>?_) (fun h=>?_)<;>(try contradiction)<;>(try refine rd ?_)<;>(try simp -dsimp (disch:=omega) only[go_sem,h,sw, ot, hck]))|refine Exists.intro _ (Exists.intro _ (And.intro (And.intro rfl rfl) ?_)) |refine us (h36) ?_ |refine us (hsk) ?_ |fail
        exact ⟨true, trivial, Env.Sub_of_has (by simp [Env.Has, Env.get, Env.putO, hk2]), Store.Sub.refl _⟩
      | false =>
        rw [e36] at h36 hk2
        rw [if_neg (by simp)] at hk2
        repeat' first |refine s1 ?_|refine gS ?_|refine wT rfl ?_|refine wF rfl ?_|refine wt rfl ?_|refine wf rfl ?_|(refine wC rfl (fun h=>?_) (fun h=>?_)<;>(try contradiction))|((first|refine rd ?_|refine ry [] c0 fun nu _ _=>?_);simp -dsimp (disch:=omega) only[go_sem,sw, ot])|refine e0 (by decide) ?_|(refine And.intro ?_ ?_;omega)|refine And.intro (of_eq_true PutAt_put) ?_|refine gT ?_|refine gF ?_|(refine gI (fun h=>?_) (fun h=>?_)<;>(try contradiction)<;>(try refine rd ?_)<;>(try simp -dsimp (disch:=omega) only[go_sem,h,sw, ot]))|refine Exists.intro _ (Exists.intro _ (And.intro (And.intro rfl rfl) ?_)) |refine us (h36) ?_ |fail
        exact ⟨false, trivial, Env.Sub_of_has (by simp [Env.Has, Env.get, Env.putO, hk2]), Store.Sub.refl _⟩
    · rintro b _
      rw [← hM]
      simp only [xO]
      by_cases hend : skipB (B s) k2 = (B s).length
      · rw [if_pos hend]
        repeat' first |refine s1 ?_|refine gS ?_|refine wT rfl ?_|refine wF rfl ?_|refine wt rfl ?_|refine wf rfl ?_|(refine wC rfl (fun h=>?_) (fun h=>?_)<;>(try contradiction))|((first|refine rd ?_|refine ry [] c0 fun nu _ _=>?_);simp -dsimp (disch:=omega) only[go_sem,sw, ot, hend])|refine e0 (by decide) ?_|(refine And.intro ?_ ?_;omega)|refine And.intro (of_eq_true PutAt_put) ?_|refine gT ?_|refine gF ?_|(refine gI (fun h=>?_) (fun h=>?_)<;>(try contradiction)<;>(try refine rd ?_)<;>(try simp -dsimp (disch:=omega) only[go_sem,h,sw, ot, hend]))|refine Exists.intro _ (Exists.intro _ (And.intro (And.intro rfl rfl) ?_)) |refine us (hsk2) ?_ |fail
        exact PE_end (fin m hm _ _ _) rfl
      · rw [if_neg hend]
        repeat' first |refine s1 ?_|refine gS ?_|refine wT rfl ?_|refine wF rfl ?_|refine wt rfl ?_|refine wf rfl ?_|(refine wC rfl (fun h=>?_) (fun h=>?_)<;>(try contradiction))|((first|refine rd ?_|refine ry [] c0 fun nu _ _=>?_);simp -dsimp (disch:=omega) only[go_sem,sw, ot])|refine e0 (by decide) ?_|(refine And.intro ?_ ?_;omega)|refine And.intro (of_eq_true PutAt_put) ?_|refine gT ?_|refine gF ?_|(refine gI (fun h=>?_) (fun h=>?_)<;>(try contradiction)<;>(try refine rd ?_)<;>(try simp -dsimp (disch:=omega) only[go_sem,h,sw, ot]))|refine Exists.intro _ (Exists.intro _ (And.intro (And.intro rfl rfl) ?_)) |refine us (hsk2) ?_ |fail
        exact PE_end (fin m hm _ _ _) rfl
  · rw [if_pos he, ← hM]
    repeat' first |refine s1 ?_|refine gS ?_|refine wT rfl ?_|refine wF rfl ?_|refine wt rfl ?_|refine wf rfl ?_|(refine wC rfl (fun h=>?_) (fun h=>?_)<;>(try contradiction))|((first|refine rd ?_|refine ry [] c0 fun nu _ _=>?_);simp -dsimp (disch:=omega) only[go_sem,sw, ot])|refine e0 (by decide) ?_|(refine And.intro ?_ ?_;omega)|refine And.intro (of_eq_true PutAt_put) ?_|refine gT ?_|refine gF ?_|(refine gI (fun h=>?_) (fun h=>?_)<;>(try contradiction)<;>(try refine rd ?_)<;>(try simp -dsimp (disch:=omega) only[go_sem,h,sw, ot]))|refine Exists.intro _ (Exists.intro _ (And.intro (And.intro rfl rfl) ?_)) |fail
    exact PE_end (fin m hm _ _ _) rfl
end
end Go.Proofs.YtaealcimocpnnaaGreat
namespace Go.Proofs.YtaealcimocpnnaaGreat
open Go.Kern Go.RowKit
theorem each_loop {α : Type} [Inhabited α] (m : Nat) (q : α → Bool) (l : List α) : (l.length ≤ m ∧ l.all q = true) ↔ eachP m q l = true := by
  simp [eachP]
set_option maxRecDepth 100000
set_option maxHeartbeats 4000000
attribute [local irreducible] PCall W
theorem rpath_spec (k : SK) (l : List Int) (hl : l.length < 4611686018427387904) : Pure Tryz.prog 67 [.sl k (ints l)] (.bool (eachP 16 (fun n => withinZ n 1 65535) l)) := by
  intro σ
  refine PCall_q [.tmp 2] 20 Tryz.func67 (by rfl) rfl rfl rfl rfl ?_
  repeat' first |refine s1 ?_|refine gS ?_|refine wT rfl ?_|refine wF rfl ?_|refine wt rfl ?_|refine wf rfl ?_|(refine wC rfl (fun h=>?_) (fun h=>?_)<;>(try contradiction))|((first|refine rd ?_|refine ry [] c0 fun nu _ _=>?_);simp -dsimp (disch:=omega) only[go_sem])|refine e0 (by decide) ?_|(refine And.intro ?_ ?_;omega)|refine And.intro (of_eq_true PutAt_put) ?_|refine gT ?_|refine gF ?_|(refine gI (fun h=>?_) (fun h=>?_)<;>(try contradiction)<;>(try refine rd ?_)<;>(try simp -dsimp (disch:=omega) only[go_sem,h]))|refine Exists.intro _ (Exists.intro _ (And.intro (And.intro rfl rfl) ?_)) |fail
  refine W_loop_st (fun i : Nat => [(0, .sl k (ints l)), (3, .int .i64 i)]) (fun _ => σ) (fun i => i ≤ l.length ∧ i ≤ 16 ∧ l.all (fun n => withinZ n 1 65535) = (l.drop i).all (fun n => withinZ n 1 65535)) (fun i => l.length - i) 0 ⟨Nat.zero_le _, by omega, rfl⟩ (Env.Sub_of_has (by simp [Env.Has, Env.get])) (Store.Sub.refl _) ?_
  rintro i ⟨hi, h16, hor⟩
  by_cases hlt : i < l.length
  · have ho := all_drop (fun n => withinZ n 1 65535) hlt
    by_cases h6 : i < 16
    · have hc := ras_spec (l.getD i default)
      by_cases hq : withinZ (l.getD i default) 1 65535 = true
      · rw [hq] at hc
        repeat' first |refine s1 ?_|refine gS ?_|refine wT rfl ?_|refine wF rfl ?_|refine wt rfl ?_|refine wf rfl ?_|(refine wC rfl (fun h=>?_) (fun h=>?_)<;>(try contradiction))|((first|refine rd ?_|refine ry [] c0 fun nu _ _=>?_);simp -dsimp (disch:=omega) only[go_sem])|refine e0 (by decide) ?_|(refine And.intro ?_ ?_;omega)|refine And.intro (of_eq_true PutAt_put) ?_|refine gT ?_|refine gF ?_|(refine gI (fun h=>?_) (fun h=>?_)<;>(try contradiction)<;>(try refine rd ?_)<;>(try simp -dsimp (disch:=omega) only[go_sem,h]))|refine Exists.intro _ (Exists.intro _ (And.intro (And.intro rfl rfl) ?_)) |refine us (hc) ?_ |fail
        exact ⟨i + 1, by omega, ⟨by omega, by omega, by rw [hor, ho]; simp only [hq, Bool.true_and]⟩, Env.Sub_of_has (by simp [Env.Has, Env.get]), Store.Sub.refl _⟩
      · have hq' : withinZ (l.getD i default) 1 65535 = false := by simpa using hq
        have hr : eachP 16 (fun n => withinZ n 1 65535) l = false := by
          rw [eachP, hor, ho]; simp only [hq', Bool.false_and, Bool.and_false]
        rw [hq'] at hc
        rw [hr]
        repeat' first |refine s1 ?_|refine gS ?_|refine wT rfl ?_|refine wF rfl ?_|refine wt rfl ?_|refine wf rfl ?_|(refine wC rfl (fun h=>?_) (fun h=>?_)<;>(try contradiction))|((first|refine rd ?_|refine ry [] c0 fun nu _ _=>?_);simp -dsimp (disch:=omega) only[go_sem])|refine e0 (by decide) ?_|(refine And.intro ?_ ?_;omega)|refine And.intro (of_eq_true PutAt_put) ?_|refine gT ?_|refine gF ?_|(refine gI (fun h=>?_) (fun h=>?_)<;>(try contradiction)<;>(try refine rd ?_)<;>(try simp -dsimp (disch:=omega) only[go_sem,h]))|refine Exists.intro _ (Exists.intro _ (And.intro (And.intro rfl rfl) ?_)) |refine us (hc) ?_ |fail
    · have hr : eachP 16 (fun n => withinZ n 1 65535) l = false := by
        rw [eachP, decide_eq_false (by omega), Bool.false_and]
      rw [hr]
      repeat' first |refine s1 ?_|refine gS ?_|refine wT rfl ?_|refine wF rfl ?_|refine wt rfl ?_|refine wf rfl ?_|(refine wC rfl (fun h=>?_) (fun h=>?_)<;>(try contradiction))|((first|refine rd ?_|refine ry [] c0 fun nu _ _=>?_);simp -dsimp (disch:=omega) only[go_sem])|refine e0 (by decide) ?_|(refine And.intro ?_ ?_;omega)|refine And.intro (of_eq_true PutAt_put) ?_|refine gT ?_|refine gF ?_|(refine gI (fun h=>?_) (fun h=>?_)<;>(try contradiction)<;>(try refine rd ?_)<;>(try simp -dsimp (disch:=omega) only[go_sem,h]))|refine Exists.intro _ (Exists.intro _ (And.intro (And.intro rfl rfl) ?_)) |fail
  · have hi' : i = l.length := by omega
    subst hi'
    have hr : eachP 16 (fun n => withinZ n 1 65535) l = true := by
      rw [eachP, hor, List.drop_length, decide_eq_true (by omega)]; rfl
    rw [hr]
    repeat' first |refine s1 ?_|refine gS ?_|refine wT rfl ?_|refine wF rfl ?_|refine wt rfl ?_|refine wf rfl ?_|(refine wC rfl (fun h=>?_) (fun h=>?_)<;>(try contradiction))|((first|refine rd ?_|refine ry [] c0 fun nu _ _=>?_);simp -dsimp (disch:=omega) only[go_sem])|refine e0 (by decide) ?_|(refine And.intro ?_ ?_;omega)|refine And.intro (of_eq_true PutAt_put) ?_|refine gT ?_|refine gF ?_|(refine gI (fun h=>?_) (fun h=>?_)<;>(try contradiction)<;>(try refine rd ?_)<;>(try simp -dsimp (disch:=omega) only[go_sem,h]))|refine Exists.intro _ (Exists.intro _ (And.intro (And.intro rfl rfl) ?_)) |fail
theorem rcomms_spec (k : SK) (l : List Com) (hl : l.length < 4611686018427387904) : Pure Tryz.prog 66 [.sl k (encL eCom l)] (.bool (eachP 8 comMay l)) := by
  intro σ
  refine PCall_q [.tmp 2] 20 Tryz.func66 (by rfl) rfl rfl rfl rfl ?_
  repeat' first |refine s1 ?_|refine gS ?_|refine wT rfl ?_|refine wF rfl ?_|refine wt rfl ?_|refine wf rfl ?_|(refine wC rfl (fun h=>?_) (fun h=>?_)<;>(try contradiction))|((first|refine rd ?_|refine ry [] c0 fun nu _ _=>?_);simp -dsimp (disch:=omega) only[go_sem])|refine e0 (by decide) ?_|(refine And.intro ?_ ?_;omega)|refine And.intro (of_eq_true PutAt_put) ?_|refine gT ?_|refine gF ?_|(refine gI (fun h=>?_) (fun h=>?_)<;>(try contradiction)<;>(try refine rd ?_)<;>(try simp -dsimp (disch:=omega) only[go_sem,h]))|refine Exists.intro _ (Exists.intro _ (And.intro (And.intro rfl rfl) ?_)) |fail
  refine W_loop_st (fun i : Nat => [(0, .sl k (encL eCom l)), (3, .int .i64 i)]) (fun _ => σ) (fun i => i ≤ l.length ∧ i ≤ 8 ∧ l.all comMay = (l.drop i).all comMay) (fun i => l.length - i) 0 ⟨Nat.zero_le _, by omega, rfl⟩ (Env.Sub_of_has (by simp [Env.Has, Env.get])) (Store.Sub.refl _) ?_
  rintro i ⟨hi, h16, hor⟩
  by_cases hlt : i < l.length
  · have ho := all_drop comMay hlt
    by_cases h6 : i < 8
    · have hc := rcomMay_spec (l.getD i default)
      by_cases hq : comMay (l.getD i default) = true
      · rw [hq] at hc
        repeat' first |refine s1 ?_|refine gS ?_|refine wT rfl ?_|refine wF rfl ?_|refine wt rfl ?_|refine wf rfl ?_|(refine wC rfl (fun h=>?_) (fun h=>?_)<;>(try contradiction))|((first|refine rd ?_|refine ry [] c0 fun nu _ _=>?_);simp -dsimp (disch:=omega) only[go_sem])|refine e0 (by decide) ?_|(refine And.intro ?_ ?_;omega)|refine And.intro (of_eq_true PutAt_put) ?_|refine gT ?_|refine gF ?_|(refine gI (fun h=>?_) (fun h=>?_)<;>(try contradiction)<;>(try refine rd ?_)<;>(try simp -dsimp (disch:=omega) only[go_sem,h]))|refine Exists.intro _ (Exists.intro _ (And.intro (And.intro rfl rfl) ?_)) |refine us (hc) ?_ |fail
        exact ⟨i + 1, by omega, ⟨by omega, by omega, by rw [hor, ho, hq, Bool.true_and]⟩, Env.Sub_of_has (by simp [Env.Has, Env.get]), Store.Sub.refl _⟩
      · have hq' : comMay (l.getD i default) = false := by simpa using hq
        have hr : eachP 8 comMay l = false := by
          rw [eachP, hor, ho, hq', Bool.false_and, Bool.and_false]
        rw [hq'] at hc
        rw [hr]
        repeat' first |refine s1 ?_|refine gS ?_|refine wT rfl ?_|refine wF rfl ?_|refine wt rfl ?_|refine wf rfl ?_|(refine wC rfl (fun h=>?_) (fun h=>?_)<;>(try contradiction))|((first|refine rd ?_|refine ry [] c0 fun nu _ _=>?_);simp -dsimp (disch:=omega) only[go_sem])|refine e0 (by decide) ?_|(refine And.intro ?_ ?_;omega)|refine And.intro (of_eq_true PutAt_put) ?_|refine gT ?_|refine gF ?_|(refine gI (fun h=>?_) (fun h=>?_)<;>(try contradiction)<;>(try refine rd ?_)<;>(try simp -dsimp (disch:=omega) only[go_sem,h]))|refine Exists.intro _ (Exists.intro _ (And.intro (And.intro rfl rfl) ?_)) |refine us (hc) ?_ |fail
    · have hr : eachP 8 comMay l = false := by
        rw [eachP, decide_eq_false (by omega), Bool.false_and]
      rw [hr]
      repeat' first |refine s1 ?_|refine gS ?_|refine wT rfl ?_|refine wF rfl ?_|refine wt rfl ?_|refine wf rfl ?_|(refine wC rfl (fun h=>?_) (fun h=>?_)<;>(try contradiction))|((first|refine rd ?_|refine ry [] c0 fun nu _ _=>?_);simp -dsimp (disch:=omega) only[go_sem])|refine e0 (by decide) ?_|(refine And.intro ?_ ?_;omega)|refine And.intro (of_eq_true PutAt_put) ?_|refine gT ?_|refine gF ?_|(refine gI (fun h=>?_) (fun h=>?_)<;>(try contradiction)<;>(try refine rd ?_)<;>(try simp -dsimp (disch:=omega) only[go_sem,h]))|refine Exists.intro _ (Exists.intro _ (And.intro (And.intro rfl rfl) ?_)) |fail
  · have hi' : i = l.length := by omega
    subst hi'
    have hr : eachP 8 comMay l = true := by
      rw [eachP, hor, List.drop_length, decide_eq_true (by omega)]; rfl
    rw [hr]
    repeat' first |refine s1 ?_|refine gS ?_|refine wT rfl ?_|refine wF rfl ?_|refine wt rfl ?_|refine wf rfl ?_|(refine wC rfl (fun h=>?_) (fun h=>?_)<;>(try contradiction))|((first|refine rd ?_|refine ry [] c0 fun nu _ _=>?_);simp -dsimp (disch:=omega) only[go_sem])|refine e0 (by decide) ?_|(refine And.intro ?_ ?_;omega)|refine And.intro (of_eq_true PutAt_put) ?_|refine gT ?_|refine gF ?_|(refine gI (fun h=>?_) (fun h=>?_)<;>(try contradiction)<;>(try refine rd ?_)<;>(try simp -dsimp (disch:=omega) only[go_sem,h]))|refine Exists.intro _ (Exists.intro _ (And.intro (And.intro rfl rfl) ?_)) |fail
theorem t2 : ((2 : Int) = 0) = False := eq_false (by decide)
theorem bit_spec (a : Int) (i : Nat) (h0 : 0 ≤ a) (h1 : a < 4294967296) (hi : i ≤ 31) : Pure Tryz.prog 124 [.int .u32 a, .int .i64 i] (.int .u32 (a / 2 ^ (31 - i) % 2)) := by
  intro σ
  refine PCall_q [.tmp 4] 13 Tryz.func124 (by rfl) rfl rfl rfl rfl ?_
  repeat' first |refine s1 ?_|refine gS ?_|refine wT rfl ?_|refine wF rfl ?_|refine wt rfl ?_|refine wf rfl ?_|(refine wC rfl (fun h=>?_) (fun h=>?_)<;>(try contradiction))|((first|refine rd ?_|refine ry [] c0 fun nu _ _=>?_);simp -dsimp (disch:=omega) only[go_sem])|refine e0 (by decide) ?_|(refine And.intro ?_ ?_;omega)|refine And.intro (of_eq_true PutAt_put) ?_|refine gT ?_|refine gF ?_|(refine gI (fun h=>?_) (fun h=>?_)<;>(try contradiction)<;>(try refine rd ?_)<;>(try simp -dsimp (disch:=omega) only[go_sem,h]))|refine Exists.intro _ (Exists.intro _ (And.intro (And.intro rfl rfl) ?_)) |fail
  refine W_loop_st (fun j : Nat => [(0, .int .u32 (a / 2 ^ (j - i))), (1, .int .i64 j)]) (fun _ => σ) (fun j => i ≤ j ∧ j ≤ 31) (fun j => 31 - j) i ⟨Nat.le_refl _, hi⟩ (Env.Sub_of_has (by simp [Env.Has, Env.get])) (Store.Sub.refl _) ?_
  rintro j ⟨hj, hj2⟩
  have hp : (0 : Int) < 2 ^ (j - i) := Int.pow_pos (by decide)
  have g0 : 0 ≤ a / 2 ^ (j - i) := Int.ediv_nonneg h0 (Int.le_of_lt hp)
  have g1 : a / 2 ^ (j - i) ≤ a := Int.ediv_le_self _ h0
  by_cases hlt : j < 31
  · have hq : (a / 2 ^ (j - i)).tdiv 2 = a / 2 ^ (j + 1 - i) := by
      rw [Int.tdiv_eq_ediv_of_nonneg g0, Int.ediv_ediv, if_neg (fun h => absurd h.1 (Int.not_lt.2 (Int.le_of_lt hp))), Int.sub_zero, show j + 1 - i = (j - i) + 1 by omega, Int.pow_succ]
    have w : IntKind.u32.wrap (a / 2 ^ (j + 1 - i)) = a / 2 ^ (j + 1 - i) := by
      have hp2 : (0 : Int) < 2 ^ (j + 1 - i) := Int.pow_pos (by decide)
      exact wr32 (Int.ediv_nonneg h0 (Int.le_of_lt hp2)) (by have := Int.ediv_le_self (2 ^ (j + 1 - i)) h0; omega)
    repeat' first |refine s1 ?_|refine gS ?_|refine wT rfl ?_|refine wF rfl ?_|refine wt rfl ?_|refine wf rfl ?_|(refine wC rfl (fun h=>?_) (fun h=>?_)<;>(try contradiction))|((first|refine rd ?_|refine ry [] c0 fun nu _ _=>?_);simp -dsimp (disch:=omega) only[go_sem,hq, w, t2])|refine e0 (by decide) ?_|(refine And.intro ?_ ?_;omega)|refine And.intro (of_eq_true PutAt_put) ?_|refine gT ?_|refine gF ?_|(refine gI (fun h=>?_) (fun h=>?_)<;>(try contradiction)<;>(try refine rd ?_)<;>(try simp -dsimp (disch:=omega) only[go_sem,h,hq, w, t2]))|refine Exists.intro _ (Exists.intro _ (And.intro (And.intro rfl rfl) ?_)) |fail
    exact ⟨j + 1, by omega, ⟨by omega, by omega⟩, Env.Sub_of_has (by simp [Env.Has, Env.get]), Store.Sub.refl _⟩
  · have hj' : j = 31 := by omega
    subst hj'
    have hr : (a / 2 ^ (31 - i)).tmod 2 = a / 2 ^ (31 - i) % 2 := Int.tmod_eq_emod_of_nonneg g0
    repeat' first |refine s1 ?_|refine gS ?_|refine wT rfl ?_|refine wF rfl ?_|refine wt rfl ?_|refine wf rfl ?_|(refine wC rfl (fun h=>?_) (fun h=>?_)<;>(try contradiction))|((first|refine rd ?_|refine ry [] c0 fun nu _ _=>?_);simp -dsimp (disch:=omega) only[go_sem,hr, t2])|refine e0 (by decide) ?_|(refine And.intro ?_ ?_;omega)|refine And.intro (of_eq_true PutAt_put) ?_|refine gT ?_|refine gF ?_|(refine gI (fun h=>?_) (fun h=>?_)<;>(try contradiction)<;>(try refine rd ?_)<;>(try simp -dsimp (disch:=omega) only[go_sem,h,hr, t2]))|refine Exists.intro _ (Exists.intro _ (And.intro (And.intro rfl rfl) ?_)) |fail
def lowB (a : Int) (b i : Nat) : Bool := decide (a.toNat / 2 ^ (32 - i) % 2 ^ (i - b) = 0)
theorem lowB_step (a : Int) (h0 : 0 ≤ a) {b i : Nat} (hb : b ≤ i) (hi : i < 32) : lowB a b (i + 1) = (lowB a b i && decide (a / 2 ^ (31 - i) % 2 = 0)) := by
  obtain ⟨n, hn⟩ : ∃ n, a.toNat / 2 ^ (31 - i) = n := ⟨_, rfl⟩
  have e1 : a.toNat / 2 ^ (32 - i) = n / 2 := by
    rw [show 32 - i = (31 - i) + 1 by omega, Nat.pow_succ, ← Nat.div_div_eq_div_mul, hn]
  have e2 : 32 - (i + 1) = 31 - i := by omega
  have e3 : i + 1 - b = (i - b) + 1 := by omega
  have e4 : a / 2 ^ (31 - i) % 2 = ((n % 2 : Nat) : Int) := by
    have : a = (a.toNat : Int) := by omega
    rw [this, ← hn]; norm_cast
  unfold lowB
  rw [e1, e2, e3, hn, Nat.pow_succ, Nat.mul_comm, Nat.mod_mul, e4]
  rw [Bool.eq_iff_iff]
  simp only [decide_eq_true_eq, Bool.and_eq_true]
  omega
theorem low_all (p : Pfx) (hp : p.Ok) (hb : 0 ≤ p.b ∧ p.b ≤ 32) : lowB p.a p.b.toNat 32 = decide (bits .andNot .u32 p.a (maskZ p.b) = 0) := by
  obtain ⟨h0, h1⟩ := hp
  obtain ⟨m, hm⟩ : ∃ m, p.b.toNat = m := ⟨_, rfl⟩
  have hmz : maskZ p.b = 4294967296 - 2 ^ (32 - m) := by
    unfold maskZ
    have hcase : ∀ k : Nat, k ≤ 32 → (if k = 0 then (0 : Int) else (4294967295 * 2 ^ (32 - k)) % 4294967296) = 4294967296 - 2 ^ (32 - k) := by decide
    have h := hcase m (by omega)
    by_cases hz : p.b = 0
    · rw [if_pos hz]
      rw [if_pos (by omega)] at h
      exact h
    · rw [if_neg hz]
      rw [if_neg (by omega)] at h
      rw [show min (32 - p.b).toNat 32 = 32 - m by omega, IntKind.wrap_u32']
      exact h
  have hpow : (2 : Int) ^ (32 - m) ≤ 4294967296 := by
    have : (2 : Nat) ^ (32 - m) ≤ 2 ^ 32 := Nat.pow_le_pow_right (by decide) (by omega)
    have h3 : ((2 ^ (32 - m) : Nat) : Int) ≤ ((2 ^ 32 : Nat) : Int) := by exact_mod_cast this
    simpa using h3
  have hpos : (0 : Int) < 2 ^ (32 - m) := Int.pow_pos (by decide)
  rw [hmz, u32_andNot _ _ h0 h1 (by omega) (by omega)]
  have e : 4294967295 - (4294967296 - (2 : Int) ^ (32 - m)).toNat = 2 ^ (32 - m) - 1 := by
    have : ((2 : Int) ^ (32 - m)) = ((2 ^ (32 - m) : Nat) : Int) := by norm_cast
    have h5 : 0 < 2 ^ (32 - m) := Nat.pow_pos (by decide)
    rw [this] at hpow ⊢
    omega
  rw [e, Nat.and_two_pow_sub_one_eq_mod]
  unfold lowB
  rw [hm, Nat.sub_self, Nat.pow_zero, Nat.div_one, Bool.eq_iff_iff]
  generalize p.a.toNat % 2 ^ (32 - m) = t
  simp only [decide_eq_true_eq]
  omega
theorem rpfx_spec (p : Pfx) (hp : p.Ok) : Pure Tryz.prog 69 [ePfx p] (.bool (pfxMay p)) := by
  intro σ
  refine PCall_q [.tmp 2] 23 Tryz.func69 (by rfl) rfl rfl rfl rfl ?_
  by_cases hb : 0 ≤ p.b ∧ p.b ≤ 32
  · have hm : pfxMay p = lowB p.a p.b.toNat 32 := by
      rw [low_all p hp hb, pfxMay, decide_eq_true hb.1, decide_eq_true hb.2]; rfl
    have hbn : p.b = (p.b.toNat : Int) := by omega
    rw [hm]
    repeat' first |refine s1 ?_|refine gS ?_|refine wT rfl ?_|refine wF rfl ?_|refine wt rfl ?_|refine wf rfl ?_|(refine wC rfl (fun h=>?_) (fun h=>?_)<;>(try contradiction))|((first|refine rd ?_|refine ry [] c0 fun nu _ _=>?_);simp -dsimp (disch:=omega) only[go_sem])|refine e0 (by decide) ?_|(refine And.intro ?_ ?_;omega)|refine And.intro (of_eq_true PutAt_put) ?_|refine gT ?_|refine gF ?_|(refine gI (fun h=>?_) (fun h=>?_)<;>(try contradiction)<;>(try refine rd ?_)<;>(try simp -dsimp (disch:=omega) only[go_sem,h]))|refine Exists.intro _ (Exists.intro _ (And.intro (And.intro rfl rfl) ?_)) |fail
    refine W_loop_st (fun i : Nat => [(1, .ip (ePfx p) 0), (3, .int .i64 i)]) (fun _ => σ) (fun i => p.b.toNat ≤ i ∧ i ≤ 32 ∧ lowB p.a p.b.toNat i = true) (fun i => 32 - i) p.b.toNat ⟨Nat.le_refl _, by omega, by simp [lowB, Nat.mod_one]⟩ (Env.Sub_of_has (by simp [Env.Has, Env.get, ePfx]; omega)) (Store.Sub.refl _) ?_
    rintro i ⟨hi, hi2, hor⟩
    by_cases hlt : i < 32
    · have hc := bit_spec p.a i hp.1 hp.2 (by omega)
      have hs := lowB_step p.a hp.1 hi hlt
      obtain ⟨v, hv⟩ : ∃ v, p.a / 2 ^ (31 - i) % 2 = v := ⟨_, rfl⟩
      rw [hv] at hc hs
      by_cases hz : v = 0
      · subst hz
        repeat' first |refine s1 ?_|refine gS ?_|refine wT rfl ?_|refine wF rfl ?_|refine wt rfl ?_|refine wf rfl ?_|(refine wC rfl (fun h=>?_) (fun h=>?_)<;>(try contradiction))|((first|refine rd ?_|refine ry [] c0 fun nu _ _=>?_);simp -dsimp (disch:=omega) only[go_sem])|refine e0 (by decide) ?_|(refine And.intro ?_ ?_;omega)|refine And.intro (of_eq_true PutAt_put) ?_|refine gT ?_|refine gF ?_|(refine gI (fun h=>?_) (fun h=>?_)<;>(try contradiction)<;>(try refine rd ?_)<;>(try simp -dsimp (disch:=omega) only[go_sem,h]))|refine Exists.intro _ (Exists.intro _ (And.intro (And.intro rfl rfl) ?_)) |refine us (hc) ?_ |fail
        exact ⟨i + 1, by omega, ⟨by omega, by omega, by rw [hs, hor]; rfl⟩, Env.Sub_of_has (by simp [Env.Has, Env.get, ePfx]), Store.Sub.refl _⟩
      · have hf : lowB p.a p.b.toNat 32 = false := by
          have h3 : lowB p.a p.b.toNat (i + 1) = false := by rw [hs, decide_eq_false hz, Bool.and_false]
          have up : ∀ k, i + 1 + k ≤ 32 → lowB p.a p.b.toNat (i + 1 + k) = false := by
            intro k
            induction k with
            | zero => exact fun _ => h3
            | succ k ih => intro hk; rw [show i + 1 + (k + 1) = (i + 1 + k) + 1 by omega, lowB_step p.a hp.1 (by omega) (by omega), ih (by omega), Bool.false_and]
          have := up (31 - i) (by omega)
          rw [show i + 1 + (31 - i) = 32 by omega] at this
          exact this
        rw [hf]
        repeat' first |refine s1 ?_|refine gS ?_|refine wT rfl ?_|refine wF rfl ?_|refine wt rfl ?_|refine wf rfl ?_|(refine wC rfl (fun h=>?_) (fun h=>?_)<;>(try contradiction))|((first|refine rd ?_|refine ry [] c0 fun nu _ _=>?_);simp -dsimp (disch:=omega) only[go_sem,hz])|refine e0 (by decide) ?_|(refine And.intro ?_ ?_;omega)|refine And.intro (of_eq_true PutAt_put) ?_|refine gT ?_|refine gF ?_|(refine gI (fun h=>?_) (fun h=>?_)<;>(try contradiction)<;>(try refine rd ?_)<;>(try simp -dsimp (disch:=omega) only[go_sem,h,hz]))|refine Exists.intro _ (Exists.intro _ (And.intro (And.intro rfl rfl) ?_)) |refine us (hc) ?_ |fail
    · have hi' : i = 32 := by omega
      subst hi'
      rw [hor]
      repeat' first |refine s1 ?_|refine gS ?_|refine wT rfl ?_|refine wF rfl ?_|refine wt rfl ?_|refine wf rfl ?_|(refine wC rfl (fun h=>?_) (fun h=>?_)<;>(try contradiction))|((first|refine rd ?_|refine ry [] c0 fun nu _ _=>?_);simp -dsimp (disch:=omega) only[go_sem])|refine e0 (by decide) ?_|(refine And.intro ?_ ?_;omega)|refine And.intro (of_eq_true PutAt_put) ?_|refine gT ?_|refine gF ?_|(refine gI (fun h=>?_) (fun h=>?_)<;>(try contradiction)<;>(try refine rd ?_)<;>(try simp -dsimp (disch:=omega) only[go_sem,h]))|refine Exists.intro _ (Exists.intro _ (And.intro (And.intro rfl rfl) ?_)) |fail
  · have hm : pfxMay p = false := by
      simp only [pfxMay]
      by_cases h0 : 0 ≤ p.b
      · rw [decide_eq_false (show ¬ p.b ≤ 32 by omega)]; simp
      · rw [decide_eq_false h0]; simp
    rw [hm]
    repeat' first |refine s1 ?_|refine gS ?_|refine wT rfl ?_|refine wF rfl ?_|refine wt rfl ?_|refine wf rfl ?_|(refine wC rfl (fun h=>?_) (fun h=>?_)<;>(try contradiction))|((first|refine rd ?_|refine ry [] c0 fun nu _ _=>?_);simp -dsimp (disch:=omega) only[go_sem])|refine e0 (by decide) ?_|(refine And.intro ?_ ?_;omega)|refine And.intro (of_eq_true PutAt_put) ?_|refine gT ?_|refine gF ?_|(refine gI (fun h=>?_) (fun h=>?_)<;>(try contradiction)<;>(try refine rd ?_)<;>(try simp -dsimp (disch:=omega) only[go_sem,h]))|refine Exists.intro _ (Exists.intro _ (And.intro (And.intro rfl rfl) ?_)) |fail
theorem rrng_spec (r : Rng) (hp : r.p.Ok) : Pure Tryz.prog 62 [eRng r] (.bool (rngMay r)) := by
  intro σ
  have h := rpfx_spec r.p hp
  refine PCall_q [.tmp 2] 26 Tryz.func62 (by rfl) rfl rfl rfl rfl ?_
  repeat' first |refine s1 ?_|refine gS ?_|refine wT rfl ?_|refine wF rfl ?_|refine wt rfl ?_|refine wf rfl ?_|(refine wC rfl (fun h=>?_) (fun h=>?_)<;>(try contradiction))|((first|refine rd ?_|refine ry [] c0 fun nu _ _=>?_);simp -dsimp (disch:=omega) only[go_sem])|refine e0 (by decide) ?_|(refine And.intro ?_ ?_;omega)|refine And.intro (of_eq_true PutAt_put) ?_|refine gT ?_|refine gF ?_|(refine gI (fun h=>?_) (fun h=>?_)<;>(try contradiction)<;>(try refine rd ?_)<;>(try simp -dsimp (disch:=omega) only[go_sem,h]))|refine Exists.intro _ (Exists.intro _ (And.intro (And.intro rfl rfl) ?_)) |refine us (h) ?_ |fail
  all_goals (simp_all [rngMay]; try omega)
theorem rwhy_spec (k : SK) (l : List Rng) (hl : l.length < 4611686018427387904) (hp : ∀ r, r ∈ l → r.p.Ok) : Pure Tryz.prog 24 [.sl k (encL eRng l)] (.int .i64 (rngsMay l)) := by
  intro σ
  refine PCall_q [.tmp 2] 19 Tryz.func24 (by rfl) rfl rfl rfl rfl ?_
  by_cases h16 : 16 < l.length
  · skip
    repeat' first |refine s1 ?_|refine gS ?_|refine wT rfl ?_|refine wF rfl ?_|refine wt rfl ?_|refine wf rfl ?_|(refine wC rfl (fun h=>?_) (fun h=>?_)<;>(try contradiction))|((first|refine rd ?_|refine ry [] c0 fun nu _ _=>?_);simp -dsimp (disch:=omega) only[go_sem])|refine e0 (by decide) ?_|(refine And.intro ?_ ?_;omega)|refine And.intro (of_eq_true PutAt_put) ?_|refine gT ?_|refine gF ?_|(refine gI (fun h=>?_) (fun h=>?_)<;>(try contradiction)<;>(try refine rd ?_)<;>(try simp -dsimp (disch:=omega) only[go_sem,h]))|refine Exists.intro _ (Exists.intro _ (And.intro (And.intro rfl rfl) ?_)) |fail
    simp [rngsMay, h16]
  repeat' first |refine s1 ?_|refine gS ?_|refine wT rfl ?_|refine wF rfl ?_|refine wt rfl ?_|refine wf rfl ?_|(refine wC rfl (fun h=>?_) (fun h=>?_)<;>(try contradiction))|((first|refine rd ?_|refine ry [] c0 fun nu _ _=>?_);simp -dsimp (disch:=omega) only[go_sem])|refine e0 (by decide) ?_|(refine And.intro ?_ ?_;omega)|refine And.intro (of_eq_true PutAt_put) ?_|refine gT ?_|refine gF ?_|(refine gI (fun h=>?_) (fun h=>?_)<;>(try contradiction)<;>(try refine rd ?_)<;>(try simp -dsimp (disch:=omega) only[go_sem,h]))|refine Exists.intro _ (Exists.intro _ (And.intro (And.intro rfl rfl) ?_)) |fail
  refine W_loop_st (fun i : Nat => [(0, .sl k (encL eRng l)), (3, .int .i64 i)]) (fun _ => σ) (fun i => i ≤ l.length ∧ l.all rngMay = (l.drop i).all rngMay) (fun i => l.length - i) 0 ⟨Nat.zero_le _, rfl⟩ (Env.Sub_of_has (by simp [Env.Has, Env.get])) (Store.Sub.refl _) ?_
  rintro i ⟨hi, hor⟩
  by_cases hlt : i < l.length
  · have ho := all_drop rngMay hlt
    have hc := rrng_spec (l.getD i default) (hp _ (mem_getD hlt))
    repeat' first |refine s1 ?_|refine gS ?_|refine wT rfl ?_|refine wF rfl ?_|refine wt rfl ?_|refine wf rfl ?_|(refine wC rfl (fun h=>?_) (fun h=>?_)<;>(try contradiction))|((first|refine rd ?_|refine ry [] c0 fun nu _ _=>?_);simp -dsimp (disch:=omega) only[go_sem])|refine e0 (by decide) ?_|(refine And.intro ?_ ?_;omega)|refine And.intro (of_eq_true PutAt_put) ?_|refine gT ?_|refine gF ?_|(refine gI (fun h=>?_) (fun h=>?_)<;>(try contradiction)<;>(try refine rd ?_)<;>(try simp -dsimp (disch:=omega) only[go_sem,h]))|refine Exists.intro _ (Exists.intro _ (And.intro (And.intro rfl rfl) ?_)) |refine us (hc) ?_ |fail
    · rw [rngsMay, if_neg h16, hor, ho, h]; rfl
    · exact ⟨i + 1, by omega, ⟨by omega, by rw [hor, ho, h]; rfl⟩, Env.Sub_of_has (by simp [Env.Has, Env.get]), Store.Sub.refl _⟩
  · have hi' : i = l.length := by omega
    subst hi'
    repeat' first |refine s1 ?_|refine gS ?_|refine wT rfl ?_|refine wF rfl ?_|refine wt rfl ?_|refine wf rfl ?_|(refine wC rfl (fun h=>?_) (fun h=>?_)<;>(try contradiction))|((first|refine rd ?_|refine ry [] c0 fun nu _ _=>?_);simp -dsimp (disch:=omega) only[go_sem])|refine e0 (by decide) ?_|(refine And.intro ?_ ?_;omega)|refine And.intro (of_eq_true PutAt_put) ?_|refine gT ?_|refine gF ?_|(refine gI (fun h=>?_) (fun h=>?_)<;>(try contradiction)<;>(try refine rd ?_)<;>(try simp -dsimp (disch:=omega) only[go_sem,h]))|refine Exists.intro _ (Exists.intro _ (And.intro (And.intro rfl rfl) ?_)) |fail
    rw [rngsMay, if_neg h16, hor, List.drop_length]; rfl
end Go.Proofs.YtaealcimocpnnaaGreat
namespace Go.Proofs.YtaealcimocpnnaaGreat
open Go.Kern Go.RowKit
set_option maxRecDepth 100000
set_option maxHeartbeats 4000000
attribute [local irreducible] PCall W
def pathB (s : ByteArray) : Bool := decide (s.size = 0) || (decide (parseE (B s) = 0) && quotableB s)
theorem rexpr_spec (s : ByteArray) (hs : s.size ≤ 1000) : Pure Tryz.prog 64 [.str s] (.bool (pathB s)) := by
  intro σ
  have hl := length_B s
  by_cases hz : s.size = 0
  · have hm := (empty_iff s).2 hz
    have hv : pathB s = true := by simp [pathB, hz]
    rw [hv]
    refine PCall_q [.tmp 2] 37 Tryz.func64 (by rfl) rfl rfl rfl rfl ?_
    repeat' first |refine s1 ?_|refine gS ?_|refine wT rfl ?_|refine wF rfl ?_|refine wt rfl ?_|refine wf rfl ?_|(refine wC rfl (fun h=>?_) (fun h=>?_)<;>(try contradiction))|((first|refine rd ?_|refine ry [] c0 fun nu _ _=>?_);simp -dsimp (disch:=omega) only[go_sem,hm])|refine e0 (by decide) ?_|(refine And.intro ?_ ?_;omega)|refine And.intro (of_eq_true PutAt_put) ?_|refine gT ?_|refine gF ?_|(refine gI (fun h=>?_) (fun h=>?_)<;>(try contradiction)<;>(try refine rd ?_)<;>(try simp -dsimp (disch:=omega) only[go_sem,h,hm]))|refine Exists.intro _ (Exists.intro _ (And.intro (And.intro rfl rfl) ?_)) |fail
  · have hm : ¬ s = ⟨#[]⟩ := fun k => hz ((empty_iff s).1 k)
    have hv : pathB s = (decide (parseE (B s) = 0) && quotableB s) := by simp [pathB, hz]
    have h1 := rparse_spec s hs σ
    rw [← parse_rel] at h1
    rw [hv]
    refine PCall_q [.tmp 2] 37 Tryz.func64 (by rfl) rfl rfl rfl rfl ?_
    repeat' first |refine s1 ?_|refine gS ?_|refine wT rfl ?_|refine wF rfl ?_|refine wt rfl ?_|refine wf rfl ?_|(refine wC rfl (fun h=>?_) (fun h=>?_)<;>(try contradiction))|((first|refine rd ?_|refine ry [] c0 fun nu _ _=>?_);simp -dsimp (disch:=omega) only[go_sem,hm])|refine e0 (by decide) ?_|(refine And.intro ?_ ?_;omega)|refine And.intro (of_eq_true PutAt_put) ?_|refine gT ?_|refine gF ?_|(refine gI (fun h=>?_) (fun h=>?_)<;>(try contradiction)<;>(try refine rd ?_)<;>(try simp -dsimp (disch:=omega) only[go_sem,h,hm]))|refine Exists.intro _ (Exists.intro _ (And.intro (And.intro rfl rfl) ?_)) |fail
    refine W_loop_st (fun i : Nat => [(0, .str s), (3, .int .i64 i)]) (fun _ => σ) (fun i => i ≤ (B s).length ∧ (B s).any quoteB = ((B s).drop i).any quoteB) (fun i => (B s).length - i) 0 ⟨Nat.zero_le _, rfl⟩ (Env.Sub_of_has (by simp [Env.Has, Env.get])) (Store.Sub.refl _) ?_
    rintro i ⟨hi, hor⟩
    by_cases hlt : i < (B s).length
    · have ho := any_drop quoteB hlt
      obtain ⟨x, hx⟩ : ∃ x, (B s).getD i default = x := ⟨_, rfl⟩
      rw [hx] at ho
      have hq : ((x.toNat : Int) < 32 ∧ quoteB x = true) ∨ (¬ (x.toNat : Int) < 32 ∧ 126 < (x.toNat : Int) ∧ quoteB x = true) ∨ (¬ (x.toNat : Int) < 32 ∧ ¬ 126 < (x.toNat : Int) ∧ (x.toNat : Int) = 34 ∧ quoteB x = true) ∨ (¬ (x.toNat : Int) < 32 ∧ ¬ 126 < (x.toNat : Int) ∧ ¬ (x.toNat : Int) = 34 ∧ quoteB x = false) := by
        simp only [quoteB, Bool.or_eq_true, Bool.or_eq_false_iff, decide_eq_true_eq, decide_eq_false_iff_not]
        omega
      have hbad : quoteB x = true → quotableB s = false := fun h => by rw [quotableB, hor, ho, h]; rfl
      rcases hq with ⟨c1, cb⟩ | ⟨c1, c2, cb⟩ | ⟨c1, c2, c3, cb⟩ | ⟨c1, c2, c3, cb⟩
      · rw [hbad cb, Bool.and_false]
        repeat' first |refine s1 ?_|refine gS ?_|refine wT rfl ?_|refine wF rfl ?_|refine wt rfl ?_|refine wf rfl ?_|(refine wC rfl (fun h=>?_) (fun h=>?_)<;>(try contradiction))|((first|refine rd ?_|refine ry [] c0 fun nu _ _=>?_);simp -dsimp (disch:=omega) only[go_sem,hx])|refine e0 (by decide) ?_|(refine And.intro ?_ ?_;omega)|refine And.intro (of_eq_true PutAt_put) ?_|refine gT ?_|refine gF ?_|(refine gI (fun h=>?_) (fun h=>?_)<;>(try contradiction)<;>(try refine rd ?_)<;>(try simp -dsimp (disch:=omega) only[go_sem,h,hx]))|refine Exists.intro _ (Exists.intro _ (And.intro (And.intro rfl rfl) ?_)) |fail
      · rw [hbad cb, Bool.and_false]
        repeat' first |refine s1 ?_|refine gS ?_|refine wT rfl ?_|refine wF rfl ?_|refine wt rfl ?_|refine wf rfl ?_|(refine wC rfl (fun h=>?_) (fun h=>?_)<;>(try contradiction))|((first|refine rd ?_|refine ry [] c0 fun nu _ _=>?_);simp -dsimp (disch:=omega) only[go_sem,hx])|refine e0 (by decide) ?_|(refine And.intro ?_ ?_;omega)|refine And.intro (of_eq_true PutAt_put) ?_|refine gT ?_|refine gF ?_|(refine gI (fun h=>?_) (fun h=>?_)<;>(try contradiction)<;>(try refine rd ?_)<;>(try simp -dsimp (disch:=omega) only[go_sem,h,hx]))|refine Exists.intro _ (Exists.intro _ (And.intro (And.intro rfl rfl) ?_)) |fail
      · rw [hbad cb, Bool.and_false]
        repeat' first |refine s1 ?_|refine gS ?_|refine wT rfl ?_|refine wF rfl ?_|refine wt rfl ?_|refine wf rfl ?_|(refine wC rfl (fun h=>?_) (fun h=>?_)<;>(try contradiction))|((first|refine rd ?_|refine ry [] c0 fun nu _ _=>?_);simp -dsimp (disch:=omega) only[go_sem,hx])|refine e0 (by decide) ?_|(refine And.intro ?_ ?_;omega)|refine And.intro (of_eq_true PutAt_put) ?_|refine gT ?_|refine gF ?_|(refine gI (fun h=>?_) (fun h=>?_)<;>(try contradiction)<;>(try refine rd ?_)<;>(try simp -dsimp (disch:=omega) only[go_sem,h,hx]))|refine Exists.intro _ (Exists.intro _ (And.intro (And.intro rfl rfl) ?_)) |fail
      · skip
        repeat' first |refine s1 ?_|refine gS ?_|refine wT rfl ?_|refine wF rfl ?_|refine wt rfl ?_|refine wf rfl ?_|(refine wC rfl (fun h=>?_) (fun h=>?_)<;>(try contradiction))|((first|refine rd ?_|refine ry [] c0 fun nu _ _=>?_);simp -dsimp (disch:=omega) only[go_sem,hx])|refine e0 (by decide) ?_|(refine And.intro ?_ ?_;omega)|refine And.intro (of_eq_true PutAt_put) ?_|refine gT ?_|refine gF ?_|(refine gI (fun h=>?_) (fun h=>?_)<;>(try contradiction)<;>(try refine rd ?_)<;>(try simp -dsimp (disch:=omega) only[go_sem,h,hx]))|refine Exists.intro _ (Exists.intro _ (And.intro (And.intro rfl rfl) ?_)) |fail
        exact ⟨i + 1, by omega, ⟨by omega, by rw [hor, ho, cb, Bool.false_or]⟩, Env.Sub_of_has (by simp [Env.Has, Env.get]), Store.Sub.refl _⟩
    · have hi' : i = (B s).length := by omega
      subst hi'
      have hr : quotableB s = true := by rw [quotableB, hor, List.drop_length]; rfl
      rw [hr, Bool.and_true]
      repeat' first |refine s1 ?_|refine gS ?_|refine wT rfl ?_|refine wF rfl ?_|refine wt rfl ?_|refine wf rfl ?_|(refine wC rfl (fun h=>?_) (fun h=>?_)<;>(try contradiction))|((first|refine rd ?_|refine ry [] c0 fun nu _ _=>?_);simp -dsimp (disch:=omega) only[go_sem,eXv])|refine e0 (by decide) ?_|(refine And.intro ?_ ?_;omega)|refine And.intro (of_eq_true PutAt_put) ?_|refine gT ?_|refine gF ?_|(refine gI (fun h=>?_) (fun h=>?_)<;>(try contradiction)<;>(try refine rd ?_)<;>(try simp -dsimp (disch:=omega) only[go_sem,h,eXv]))|refine Exists.intro _ (Exists.intro _ (And.intro (And.intro rfl rfl) ?_)) |(refine PCall_use (h1) ?_;rintro _ _ ⟨⟨v,rfl⟩,rfl⟩) |fail
      intro o ho
      repeat' first |refine s1 ?_|refine gS ?_|refine wT rfl ?_|refine wF rfl ?_|refine wt rfl ?_|refine wf rfl ?_|(refine wC rfl (fun h=>?_) (fun h=>?_)<;>(try contradiction))|((first|refine rd ?_|refine ry [] c0 fun nu _ _=>?_);simp -dsimp (disch:=omega) only[go_sem])|refine e0 (by decide) ?_|(refine And.intro ?_ ?_;omega)|refine And.intro (of_eq_true PutAt_put) ?_|refine gT ?_|refine gF ?_|(refine gI (fun h=>?_) (fun h=>?_)<;>(try contradiction)<;>(try refine rd ?_)<;>(try simp -dsimp (disch:=omega) only[go_sem,h]))|refine Exists.intro _ (Exists.intro _ (And.intro (And.intro rfl rfl) ?_)) |fail
      exact Sub_new ho
def ok1 (last : Int) (c : Cls) : Bool := withinZ c.n (last + 1) 65535 && (usedB c.m.list && (pathB c.m.path && ((decide (c.m.c.asn = 0) && decide (c.m.c.n = 0)) || comMay c.m.c)))
def ok2 (s : Chg) : Bool := withinZ s.pref (-1) 1048576 && (withinZ s.med (-1) 1048576 && withinZ s.origin (-1) 2)
def ok3 (s : Chg) : Bool := eachP 8 comMay s.add && (eachP 8 comMay s.del && eachP 16 (fun n => withinZ n 1 65535) s.pre)
theorem cls_oks (last : Int) (c : Cls) : clsMay last c = (ok1 last c && (ok2 c.s && ok3 c.s)) := by
  unfold clsMay matMay chgMay ok1 ok2 ok3 pathB
  obtain ⟨z, hz⟩ : ∃ z, ((decide (c.m.c.asn = 0) && decide (c.m.c.n = 0)) || comMay c.m.c) = z := ⟨_, rfl⟩
  rw [hz]
  simp only [Bool.and_assoc]
  cases usedB c.m.list <;> cases (decide (c.m.path.size = 0) || (decide (parseE (B c.m.path) = 0) && quotableB c.m.path)) <;> rfl
theorem within_F1 {n a b : Int} (h : n < a) : withinZ n a b = false := by simp [withinZ]; omega
theorem within_F2 {n a b : Int} (h : b < n) : withinZ n a b = false := by simp [withinZ]; omega
theorem within_T {n a b : Int} (h : a ≤ n) (k : n ≤ b) : withinZ n a b = true := by simp [withinZ]; omega
theorem rclause_spec (c : Cls) (hc : c.s.Fits) (hp : c.m.path.size ≤ 1000) (hm : c.m.list.size ≤ 1000) (last : Int) (h0 : 0 ≤ last) (h1 : last ≤ 65535) : Pure Tryz.prog 25 [eCls c, .int .i64 last] (.bool (clsMay last c)) := by
  intro σ
  have u1 := rused_spec c.m.list (by omega)
  have u2 := rexpr_spec c.m.path hp
  have u3 := rcomMay_spec c.m.c
  have v1 := rcomms_spec c.s.kA c.s.add hc.add
  have v2 := rcomms_spec c.s.kD c.s.del hc.del
  have v3 := rpath_spec c.s.kP c.s.pre hc.pre
  rw [cls_oks]
  refine PCall_q [.tmp 4] 85 Tryz.func25 (by rfl) rfl rfl rfl rfl ?_
  repeat' first |((fail_if_success (first|show W _ _ (Code.seq (Code.region 1 _ _) _) _ _ _|show W _ _ (Code.seq (Code.seq (Code.region 1 _ _) _) _) _ _ _));refine s1 ?_)|refine gS ?_|refine wT rfl ?_|refine wF rfl ?_|refine wt rfl ?_|refine wf rfl ?_|(refine wC rfl (fun h=>?_) (fun h=>?_)<;>(try contradiction))|((fail_if_success (first|show W _ _ (Code.region 1 _ _) _ _ _));(first|refine rd ?_|refine ry [] c0 fun nu _ _=>?_);simp -dsimp (disch:=omega) only[go_sem])|refine e0 (by decide) ?_|(refine And.intro ?_ ?_;omega)|refine And.intro (of_eq_true PutAt_put) ?_|refine gT ?_|refine gF ?_|(refine gI (fun h=>?_) (fun h=>?_)<;>(try contradiction)<;>(try refine rd ?_)<;>(try simp -dsimp (disch:=omega) only[go_sem,h]))|refine Exists.intro _ (Exists.intro _ (And.intro (And.intro rfl rfl) ?_)) |fail
  refine s1 ?_
  refine W_region_any (id := 1) [] ⟨[], [6, 7], [4, 5], [], [], [], 0⟩ mx (by kernel_rfl) ?_
  intro nu hA hB
  have n4 : σ (nu 4) = none := hA 4 (by simp)
  have n5 : σ (nu 5) = none := hA 5 (by simp)
  have hne : nu 5 ≠ nu 4 := fun e => absurd (hB 5 4 (by simp) (by simp) e) (by decide)
  have hp1 : ∀ (s : Store) (x : Ob), (s.put (nu 5) x) (nu 4) = s (nu 4) := fun s x => put_ne (Ne.symm hne)
  have hp2 : ∀ (s : Store) (x : Ob), (s.put (nu 4) x) (nu 5) = s (nu 5) := fun s x => put_ne hne
  simp -dsimp (disch:=omega) only[go_sem,hp1, hp2]
  repeat' first |((fail_if_success (first|show W _ _ (Code.seq (Code.region 2 _ _) _) _ _ _|show W _ _ (Code.seq (Code.seq (Code.region 2 _ _) _) _) _ _ _));refine s1 ?_)|refine gS ?_|refine wT rfl ?_|refine wF rfl ?_|refine wt rfl ?_|refine wf rfl ?_|(refine wC rfl (fun h=>?_) (fun h=>?_)<;>(try contradiction))|((fail_if_success (first|show W _ _ (Code.region 2 _ _) _ _ _));(first|refine rd ?_|refine ry [] c0 fun nu _ _=>?_);simp -dsimp (disch:=omega) only[go_sem,hp1, hp2])|refine e0 (by decide) ?_|(refine And.intro ?_ ?_;omega)|refine And.intro (of_eq_true PutAt_put) ?_|refine gT ?_|refine gF ?_|(refine gI (fun h=>?_) (fun h=>?_)<;>(try contradiction)<;>(try refine rd ?_)<;>(try simp -dsimp (disch:=omega) only[go_sem,h,hp1, hp2]))|refine Exists.intro _ (Exists.intro _ (And.intro (And.intro rfl rfl) ?_)) |fail
  refine W_freeze (o := nu 5) (e := 52) (rows := [eChg c.s]) (by simp only [put_same, hp1, hp2, eChg]) ?_
  refine W_freeze (o := nu 4) (e := 48) (rows := [eMat c.m]) (by simp only [Store.drop, if_neg (Ne.symm hne), put_same, hp1, hp2, eMat]) ?_
  refine W_weaken (ρ' := [(1, .int .i64 last), (2, .ip (eCls c) 0), (5, .ip (eMat c.m) 0), (6, .ip (eChg c.s) 0)]) (σ' := σ) (Env.Sub_of_has ?_) ?_ ?_
  · simp only [Env.Has, Env.frz_get, Env.get]
    simp [frz, hne, Ne.symm hne, eMat, eChg, eCls]
  · repeat' first | exact Store.Sub.refl _ | refine Sub_drop ?_ (by assumption) | refine Sub_put ?_ (by assumption) _
  clear hA hB n4 n5 hne hp1 hp2
  refine W_seq (W_mid [(43, .bool (!ok1 last c)), (2, .ip (eCls c) 0), (5, .ip (eMat c.m) 0), (6, .ip (eChg c.s) 0)] σ ?_ ?_)
  · obtain ⟨b1, e1⟩ : ∃ b, usedB c.m.list = b := ⟨_, rfl⟩
    obtain ⟨b2, e2⟩ : ∃ b, pathB c.m.path = b := ⟨_, rfl⟩
    obtain ⟨b3, e3⟩ : ∃ b, comMay c.m.c = b := ⟨_, rfl⟩
    rw [e1] at u1
    rw [e2] at u2
    rw [e3] at u3
    by_cases c1 : c.n ≤ last
    · have ho : ok1 last c = false := by rw [ok1, within_F1 (by omega)]; rfl
      repeat' first |refine s1 ?_|refine gS ?_|refine wT rfl ?_|refine wF rfl ?_|refine wt rfl ?_|refine wf rfl ?_|(refine wC rfl (fun h=>?_) (fun h=>?_)<;>(try contradiction))|((first|refine rd ?_|refine ry [] c0 fun nu _ _=>?_);simp -dsimp (disch:=omega) only[go_sem,eCls, eMat, c1])|refine e0 (by decide) ?_|(refine And.intro ?_ ?_;omega)|refine And.intro (of_eq_true PutAt_put) ?_|refine gT ?_|refine gF ?_|(refine gI (fun h=>?_) (fun h=>?_)<;>(try contradiction)<;>(try refine rd ?_)<;>(try simp -dsimp (disch:=omega) only[go_sem,h,eCls, eMat, c1]))|refine Exists.intro _ (Exists.intro _ (And.intro (And.intro rfl rfl) ?_)) |fail
      exact ⟨Env.Sub_of_has (by simp [Env.Has, Env.get, Env.putO, ho, eCls, eMat, eChg]), Store.Sub.refl _⟩
    by_cases c2 : 65535 < c.n
    · have ho : ok1 last c = false := by rw [ok1, within_F2 c2]; rfl
      repeat' first |refine s1 ?_|refine gS ?_|refine wT rfl ?_|refine wF rfl ?_|refine wt rfl ?_|refine wf rfl ?_|(refine wC rfl (fun h=>?_) (fun h=>?_)<;>(try contradiction))|((first|refine rd ?_|refine ry [] c0 fun nu _ _=>?_);simp -dsimp (disch:=omega) only[go_sem,eCls, eMat, c1, c2])|refine e0 (by decide) ?_|(refine And.intro ?_ ?_;omega)|refine And.intro (of_eq_true PutAt_put) ?_|refine gT ?_|refine gF ?_|(refine gI (fun h=>?_) (fun h=>?_)<;>(try contradiction)<;>(try refine rd ?_)<;>(try simp -dsimp (disch:=omega) only[go_sem,h,eCls, eMat, c1, c2]))|refine Exists.intro _ (Exists.intro _ (And.intro (And.intro rfl rfl) ?_)) |fail
      exact ⟨Env.Sub_of_has (by simp [Env.Has, Env.get, Env.putO, ho, eCls, eMat, eChg]), Store.Sub.refl _⟩
    have w1 : withinZ c.n (last + 1) 65535 = true := within_T (by omega) (by omega)
    cases b1 with
    | false =>
      have ho : ok1 last c = false := by rw [ok1, e1, Bool.false_and, Bool.and_false]
      repeat' first |refine s1 ?_|refine gS ?_|refine wT rfl ?_|refine wF rfl ?_|refine wt rfl ?_|refine wf rfl ?_|(refine wC rfl (fun h=>?_) (fun h=>?_)<;>(try contradiction))|((first|refine rd ?_|refine ry [] c0 fun nu _ _=>?_);simp -dsimp (disch:=omega) only[go_sem,eCls, eMat, c1, c2])|refine e0 (by decide) ?_|(refine And.intro ?_ ?_;omega)|refine And.intro (of_eq_true PutAt_put) ?_|refine gT ?_|refine gF ?_|(refine gI (fun h=>?_) (fun h=>?_)<;>(try contradiction)<;>(try refine rd ?_)<;>(try simp -dsimp (disch:=omega) only[go_sem,h,eCls, eMat, c1, c2]))|refine Exists.intro _ (Exists.intro _ (And.intro (And.intro rfl rfl) ?_)) |refine us (u1) ?_ |fail
      exact ⟨Env.Sub_of_has (by simp [Env.Has, Env.get, Env.putO, ho, eCls, eMat, eChg]), Store.Sub.refl _⟩
    | true =>
    cases b2 with
    | false =>
      have ho : ok1 last c = false := by rw [ok1, e2, Bool.false_and, Bool.and_false, Bool.and_false]
      repeat' first |refine s1 ?_|refine gS ?_|refine wT rfl ?_|refine wF rfl ?_|refine wt rfl ?_|refine wf rfl ?_|(refine wC rfl (fun h=>?_) (fun h=>?_)<;>(try contradiction))|((first|refine rd ?_|refine ry [] c0 fun nu _ _=>?_);simp -dsimp (disch:=omega) only[go_sem,eCls, eMat, c1, c2])|refine e0 (by decide) ?_|(refine And.intro ?_ ?_;omega)|refine And.intro (of_eq_true PutAt_put) ?_|refine gT ?_|refine gF ?_|(refine gI (fun h=>?_) (fun h=>?_)<;>(try contradiction)<;>(try refine rd ?_)<;>(try simp -dsimp (disch:=omega) only[go_sem,h,eCls, eMat, c1, c2]))|refine Exists.intro _ (Exists.intro _ (And.intro (And.intro rfl rfl) ?_)) |refine us (u1) ?_ |refine us (u2) ?_ |fail
      exact ⟨Env.Sub_of_has (by simp [Env.Has, Env.get, Env.putO, ho, eCls, eMat, eChg]), Store.Sub.refl _⟩
    | true =>
    by_cases z : c.m.c.asn = 0 ∧ c.m.c.n = 0
    · have ho : ok1 last c = true := by rw [ok1, w1, e1, e2, decide_eq_true z.1, decide_eq_true z.2]; rfl
      repeat' first |refine s1 ?_|refine gS ?_|refine wT rfl ?_|refine wF rfl ?_|refine wt rfl ?_|refine wf rfl ?_|(refine wC rfl (fun h=>?_) (fun h=>?_)<;>(try contradiction))|((first|refine rd ?_|refine ry [] c0 fun nu _ _=>?_);simp -dsimp (disch:=omega) only[go_sem,eCls, eMat, c1, c2, z.1, z.2])|refine e0 (by decide) ?_|(refine And.intro ?_ ?_;omega)|refine And.intro (of_eq_true PutAt_put) ?_|refine gT ?_|refine gF ?_|(refine gI (fun h=>?_) (fun h=>?_)<;>(try contradiction)<;>(try refine rd ?_)<;>(try simp -dsimp (disch:=omega) only[go_sem,h,eCls, eMat, c1, c2, z.1, z.2]))|refine Exists.intro _ (Exists.intro _ (And.intro (And.intro rfl rfl) ?_)) |refine us (u1) ?_ |refine us (u2) ?_ |fail
      exact ⟨Env.Sub_of_has (by simp [Env.Has, Env.get, Env.putO, ho, eCls, eMat, eChg, z.1, z.2]), Store.Sub.refl _⟩
    · have hz : (decide (c.m.c.asn = 0) && decide (c.m.c.n = 0)) = false := by simp; omega
      have ho : ok1 last c = b3 := by rw [ok1, w1, e1, e2, e3, hz, Bool.false_or]; rfl
      repeat' first |refine s1 ?_|refine gS ?_|refine wT rfl ?_|refine wF rfl ?_|refine wt rfl ?_|refine wf rfl ?_|(refine wC rfl (fun h=>?_) (fun h=>?_)<;>(try contradiction))|((first|refine rd ?_|refine ry [] c0 fun nu _ _=>?_);simp -dsimp (disch:=omega) only[go_sem,eCls, eMat, c1, c2, hz])|refine e0 (by decide) ?_|(refine And.intro ?_ ?_;omega)|refine And.intro (of_eq_true PutAt_put) ?_|refine gT ?_|refine gF ?_|(refine gI (fun h=>?_) (fun h=>?_)<;>(try contradiction)<;>(try refine rd ?_)<;>(try simp -dsimp (disch:=omega) only[go_sem,h,eCls, eMat, c1, c2, hz]))|refine Exists.intro _ (Exists.intro _ (And.intro (And.intro rfl rfl) ?_)) |refine us (u1) ?_ |refine us (u2) ?_ |refine us (u3) ?_ |fail
      all_goals exact ⟨Env.Sub_of_has (by simp [Env.Has, Env.get, Env.putO, ho, eCls, eMat, eChg]), Store.Sub.refl _⟩
  obtain ⟨o1, h1o⟩ : ∃ b, ok1 last c = b := ⟨_, rfl⟩
  rw [h1o]
  cases o1 with
  | false =>
    repeat' first |refine s1 ?_|refine gS ?_|refine wT rfl ?_|refine wF rfl ?_|refine wt rfl ?_|refine wf rfl ?_|(refine wC rfl (fun h=>?_) (fun h=>?_)<;>(try contradiction))|((first|refine rd ?_|refine ry [] c0 fun nu _ _=>?_);simp -dsimp (disch:=omega) only[go_sem])|refine e0 (by decide) ?_|(refine And.intro ?_ ?_;omega)|refine And.intro (of_eq_true PutAt_put) ?_|refine gT ?_|refine gF ?_|(refine gI (fun h=>?_) (fun h=>?_)<;>(try contradiction)<;>(try refine rd ?_)<;>(try simp -dsimp (disch:=omega) only[go_sem,h]))|refine Exists.intro _ (Exists.intro _ (And.intro (And.intro rfl rfl) ?_)) |fail
  | true =>
  rw [Bool.true_and]
  repeat' first |((fail_if_success (first|show W _ _ (Code.seq (Code.region 4 _ _) _) _ _ _|show W _ _ (Code.seq (Code.seq (Code.region 4 _ _) _) _) _ _ _));refine s1 ?_)|refine gS ?_|refine wT rfl ?_|refine wF rfl ?_|refine wt rfl ?_|refine wf rfl ?_|(refine wC rfl (fun h=>?_) (fun h=>?_)<;>(try contradiction))|((fail_if_success (first|show W _ _ (Code.region 4 _ _) _ _ _));(first|refine rd ?_|refine ry [] c0 fun nu _ _=>?_);simp -dsimp (disch:=omega) only[go_sem])|refine e0 (by decide) ?_|(refine And.intro ?_ ?_;omega)|refine And.intro (of_eq_true PutAt_put) ?_|refine gT ?_|refine gF ?_|(refine gI (fun h=>?_) (fun h=>?_)<;>(try contradiction)<;>(try refine rd ?_)<;>(try simp -dsimp (disch:=omega) only[go_sem,h]))|refine Exists.intro _ (Exists.intro _ (And.intro (And.intro rfl rfl) ?_)) |fail
  refine W_seq (W_mid [(71, .bool (!ok2 c.s)), (2, .ip (eCls c) 0), (5, .ip (eMat c.m) 0), (6, .ip (eChg c.s) 0)] σ ?_ ?_)
  · by_cases p1 : c.s.pref < -1
    · have ho : ok2 c.s = false := by rw [ok2, within_F1 p1]; rfl
      repeat' first |refine s1 ?_|refine gS ?_|refine wT rfl ?_|refine wF rfl ?_|refine wt rfl ?_|refine wf rfl ?_|(refine wC rfl (fun h=>?_) (fun h=>?_)<;>(try contradiction))|((first|refine rd ?_|refine ry [] c0 fun nu _ _=>?_);simp -dsimp (disch:=omega) only[go_sem,eChg, p1])|refine e0 (by decide) ?_|(refine And.intro ?_ ?_;omega)|refine And.intro (of_eq_true PutAt_put) ?_|refine gT ?_|refine gF ?_|(refine gI (fun h=>?_) (fun h=>?_)<;>(try contradiction)<;>(try refine rd ?_)<;>(try simp -dsimp (disch:=omega) only[go_sem,h,eChg, p1]))|refine Exists.intro _ (Exists.intro _ (And.intro (And.intro rfl rfl) ?_)) |fail
      exact ⟨Env.Sub_of_has (by simp [Env.Has, Env.get, Env.putO, ho, eCls, eMat, eChg]), Store.Sub.refl _⟩
    by_cases p2 : 1048576 < c.s.pref
    · have ho : ok2 c.s = false := by rw [ok2, within_F2 p2]; rfl
      repeat' first |refine s1 ?_|refine gS ?_|refine wT rfl ?_|refine wF rfl ?_|refine wt rfl ?_|refine wf rfl ?_|(refine wC rfl (fun h=>?_) (fun h=>?_)<;>(try contradiction))|((first|refine rd ?_|refine ry [] c0 fun nu _ _=>?_);simp -dsimp (disch:=omega) only[go_sem,eChg, p1, p2])|refine e0 (by decide) ?_|(refine And.intro ?_ ?_;omega)|refine And.intro (of_eq_true PutAt_put) ?_|refine gT ?_|refine gF ?_|(refine gI (fun h=>?_) (fun h=>?_)<;>(try contradiction)<;>(try refine rd ?_)<;>(try simp -dsimp (disch:=omega) only[go_sem,h,eChg, p1, p2]))|refine Exists.intro _ (Exists.intro _ (And.intro (And.intro rfl rfl) ?_)) |fail
      exact ⟨Env.Sub_of_has (by simp [Env.Has, Env.get, Env.putO, ho, eCls, eMat, eChg]), Store.Sub.refl _⟩
    by_cases p3 : c.s.med < -1
    · have ho : ok2 c.s = false := by rw [ok2, within_F1 p3, Bool.false_and, Bool.and_false]
      repeat' first |refine s1 ?_|refine gS ?_|refine wT rfl ?_|refine wF rfl ?_|refine wt rfl ?_|refine wf rfl ?_|(refine wC rfl (fun h=>?_) (fun h=>?_)<;>(try contradiction))|((first|refine rd ?_|refine ry [] c0 fun nu _ _=>?_);simp -dsimp (disch:=omega) only[go_sem,eChg, p1, p2, p3])|refine e0 (by decide) ?_|(refine And.intro ?_ ?_;omega)|refine And.intro (of_eq_true PutAt_put) ?_|refine gT ?_|refine gF ?_|(refine gI (fun h=>?_) (fun h=>?_)<;>(try contradiction)<;>(try refine rd ?_)<;>(try simp -dsimp (disch:=omega) only[go_sem,h,eChg, p1, p2, p3]))|refine Exists.intro _ (Exists.intro _ (And.intro (And.intro rfl rfl) ?_)) |fail
      exact ⟨Env.Sub_of_has (by simp [Env.Has, Env.get, Env.putO, ho, eCls, eMat, eChg]), Store.Sub.refl _⟩
    by_cases p4 : 1048576 < c.s.med
    · have ho : ok2 c.s = false := by rw [ok2, within_F2 p4, Bool.false_and, Bool.and_false]
      repeat' first |refine s1 ?_|refine gS ?_|refine wT rfl ?_|refine wF rfl ?_|refine wt rfl ?_|refine wf rfl ?_|(refine wC rfl (fun h=>?_) (fun h=>?_)<;>(try contradiction))|((first|refine rd ?_|refine ry [] c0 fun nu _ _=>?_);simp -dsimp (disch:=omega) only[go_sem,eChg, p1, p2, p3, p4])|refine e0 (by decide) ?_|(refine And.intro ?_ ?_;omega)|refine And.intro (of_eq_true PutAt_put) ?_|refine gT ?_|refine gF ?_|(refine gI (fun h=>?_) (fun h=>?_)<;>(try contradiction)<;>(try refine rd ?_)<;>(try simp -dsimp (disch:=omega) only[go_sem,h,eChg, p1, p2, p3, p4]))|refine Exists.intro _ (Exists.intro _ (And.intro (And.intro rfl rfl) ?_)) |fail
      exact ⟨Env.Sub_of_has (by simp [Env.Has, Env.get, Env.putO, ho, eCls, eMat, eChg]), Store.Sub.refl _⟩
    by_cases p5 : c.s.origin < -1
    · have ho : ok2 c.s = false := by rw [ok2, within_F1 p5, Bool.and_false, Bool.and_false]
      repeat' first |refine s1 ?_|refine gS ?_|refine wT rfl ?_|refine wF rfl ?_|refine wt rfl ?_|refine wf rfl ?_|(refine wC rfl (fun h=>?_) (fun h=>?_)<;>(try contradiction))|((first|refine rd ?_|refine ry [] c0 fun nu _ _=>?_);simp -dsimp (disch:=omega) only[go_sem,eChg, p1, p2, p3, p4, p5])|refine e0 (by decide) ?_|(refine And.intro ?_ ?_;omega)|refine And.intro (of_eq_true PutAt_put) ?_|refine gT ?_|refine gF ?_|(refine gI (fun h=>?_) (fun h=>?_)<;>(try contradiction)<;>(try refine rd ?_)<;>(try simp -dsimp (disch:=omega) only[go_sem,h,eChg, p1, p2, p3, p4, p5]))|refine Exists.intro _ (Exists.intro _ (And.intro (And.intro rfl rfl) ?_)) |fail
      exact ⟨Env.Sub_of_has (by simp [Env.Has, Env.get, Env.putO, ho, eCls, eMat, eChg]), Store.Sub.refl _⟩
    by_cases p6 : 2 < c.s.origin
    · have ho : ok2 c.s = false := by rw [ok2, within_F2 p6, Bool.and_false, Bool.and_false]
      repeat' first |refine s1 ?_|refine gS ?_|refine wT rfl ?_|refine wF rfl ?_|refine wt rfl ?_|refine wf rfl ?_|(refine wC rfl (fun h=>?_) (fun h=>?_)<;>(try contradiction))|((first|refine rd ?_|refine ry [] c0 fun nu _ _=>?_);simp -dsimp (disch:=omega) only[go_sem,eChg, p1, p2, p3, p4, p5, p6])|refine e0 (by decide) ?_|(refine And.intro ?_ ?_;omega)|refine And.intro (of_eq_true PutAt_put) ?_|refine gT ?_|refine gF ?_|(refine gI (fun h=>?_) (fun h=>?_)<;>(try contradiction)<;>(try refine rd ?_)<;>(try simp -dsimp (disch:=omega) only[go_sem,h,eChg, p1, p2, p3, p4, p5, p6]))|refine Exists.intro _ (Exists.intro _ (And.intro (And.intro rfl rfl) ?_)) |fail
      exact ⟨Env.Sub_of_has (by simp [Env.Has, Env.get, Env.putO, ho, eCls, eMat, eChg]), Store.Sub.refl _⟩
    · have ho : ok2 c.s = true := by rw [ok2, within_T (by omega) (by omega), within_T (by omega) (by omega), within_T (by omega) (by omega)]; rfl
      repeat' first |refine s1 ?_|refine gS ?_|refine wT rfl ?_|refine wF rfl ?_|refine wt rfl ?_|refine wf rfl ?_|(refine wC rfl (fun h=>?_) (fun h=>?_)<;>(try contradiction))|((first|refine rd ?_|refine ry [] c0 fun nu _ _=>?_);simp -dsimp (disch:=omega) only[go_sem,eChg, p1, p2, p3, p4, p5, p6])|refine e0 (by decide) ?_|(refine And.intro ?_ ?_;omega)|refine And.intro (of_eq_true PutAt_put) ?_|refine gT ?_|refine gF ?_|(refine gI (fun h=>?_) (fun h=>?_)<;>(try contradiction)<;>(try refine rd ?_)<;>(try simp -dsimp (disch:=omega) only[go_sem,h,eChg, p1, p2, p3, p4, p5, p6]))|refine Exists.intro _ (Exists.intro _ (And.intro (And.intro rfl rfl) ?_)) |fail
      exact ⟨Env.Sub_of_has (by simp [Env.Has, Env.get, Env.putO, ho, eCls, eMat, eChg]), Store.Sub.refl _⟩
  obtain ⟨o2, h2o⟩ : ∃ b, ok2 c.s = b := ⟨_, rfl⟩
  rw [h2o]
  cases o2 with
  | false =>
    repeat' first |refine s1 ?_|refine gS ?_|refine wT rfl ?_|refine wF rfl ?_|refine wt rfl ?_|refine wf rfl ?_|(refine wC rfl (fun h=>?_) (fun h=>?_)<;>(try contradiction))|((first|refine rd ?_|refine ry [] c0 fun nu _ _=>?_);simp -dsimp (disch:=omega) only[go_sem])|refine e0 (by decide) ?_|(refine And.intro ?_ ?_;omega)|refine And.intro (of_eq_true PutAt_put) ?_|refine gT ?_|refine gF ?_|(refine gI (fun h=>?_) (fun h=>?_)<;>(try contradiction)<;>(try refine rd ?_)<;>(try simp -dsimp (disch:=omega) only[go_sem,h]))|refine Exists.intro _ (Exists.intro _ (And.intro (And.intro rfl rfl) ?_)) |fail
  | true =>
  rw [Bool.true_and]
  obtain ⟨b1, e1⟩ : ∃ b, eachP 8 comMay c.s.add = b := ⟨_, rfl⟩
  obtain ⟨b2, e2⟩ : ∃ b, eachP 8 comMay c.s.del = b := ⟨_, rfl⟩
  rw [ok3, e1, e2]
  rw [e1] at v1
  rw [e2] at v2
  cases b1 with
  | false =>
    repeat' first |refine s1 ?_|refine gS ?_|refine wT rfl ?_|refine wF rfl ?_|refine wt rfl ?_|refine wf rfl ?_|(refine wC rfl (fun h=>?_) (fun h=>?_)<;>(try contradiction))|((first|refine rd ?_|refine ry [] c0 fun nu _ _=>?_);simp -dsimp (disch:=omega) only[go_sem,eChg])|refine e0 (by decide) ?_|(refine And.intro ?_ ?_;omega)|refine And.intro (of_eq_true PutAt_put) ?_|refine gT ?_|refine gF ?_|(refine gI (fun h=>?_) (fun h=>?_)<;>(try contradiction)<;>(try refine rd ?_)<;>(try simp -dsimp (disch:=omega) only[go_sem,h,eChg]))|refine Exists.intro _ (Exists.intro _ (And.intro (And.intro rfl rfl) ?_)) |refine us (v1) ?_ |fail
  | true =>
  cases b2 with
  | false =>
    repeat' first |refine s1 ?_|refine gS ?_|refine wT rfl ?_|refine wF rfl ?_|refine wt rfl ?_|refine wf rfl ?_|(refine wC rfl (fun h=>?_) (fun h=>?_)<;>(try contradiction))|((first|refine rd ?_|refine ry [] c0 fun nu _ _=>?_);simp -dsimp (disch:=omega) only[go_sem,eChg])|refine e0 (by decide) ?_|(refine And.intro ?_ ?_;omega)|refine And.intro (of_eq_true PutAt_put) ?_|refine gT ?_|refine gF ?_|(refine gI (fun h=>?_) (fun h=>?_)<;>(try contradiction)<;>(try refine rd ?_)<;>(try simp -dsimp (disch:=omega) only[go_sem,h,eChg]))|refine Exists.intro _ (Exists.intro _ (And.intro (And.intro rfl rfl) ?_)) |refine us (v1) ?_ |refine us (v2) ?_ |fail
  | true =>
    repeat' first |refine s1 ?_|refine gS ?_|refine wT rfl ?_|refine wF rfl ?_|refine wt rfl ?_|refine wf rfl ?_|(refine wC rfl (fun h=>?_) (fun h=>?_)<;>(try contradiction))|((first|refine rd ?_|refine ry [] c0 fun nu _ _=>?_);simp -dsimp (disch:=omega) only[go_sem,eChg])|refine e0 (by decide) ?_|(refine And.intro ?_ ?_;omega)|refine And.intro (of_eq_true PutAt_put) ?_|refine gT ?_|refine gF ?_|(refine gI (fun h=>?_) (fun h=>?_)<;>(try contradiction)<;>(try refine rd ?_)<;>(try simp -dsimp (disch:=omega) only[go_sem,h,eChg]))|refine Exists.intro _ (Exists.intro _ (And.intro (And.intro rfl rfl) ?_)) |refine us (v1) ?_ |refine us (v2) ?_ |refine us (v3) ?_ |fail
end Go.Proofs.YtaealcimocpnnaaGreat
namespace Go.Proofs.YtaealcimocpnnaaGreat
open Go.Kern Go.RowKit
def TipOk (σ τ : Store) (k : SK) (rows : List AV) : Prop := (k = .nil ∧ rows = []) ∨ ∃ t, k = .tip t ∧ τ t = some (.tip rows.length 9 1) ∧ σ t = none
structure NmL where
  i : Nat
  k : SK
  τ : Store
def nmE (N : List ByteArray) (i : Nat) : List AV := encL AV.str (N.take i)
theorem nmE_zero (N : List ByteArray) : nmE N 0 = [] := rfl
theorem nmE_length {N : List ByteArray} {i : Nat} (h : i ≤ N.length) : (nmE N i).length = i := by simp [nmE, length_encL]; omega
theorem nmE_succ {N : List ByteArray} {i : Nat} {s : ByteArray} (h : N[i]? = some s) : nmE N i ++ [.str s] = nmE N (i + 1) := by
  obtain ⟨hl, he⟩ := List.getElem?_eq_some_iff.1 h
  rw [nmE, nmE, List.take_succ_eq_append_getElem hl, he, ← app_encL]; rfl
theorem nmE_ok (N : List ByteArray) (i : Nat) : rowsOk 1 (nmE N i) = true := ok_encL 1 AV.str (fun _ => rfl) _
theorem nameAt {α : Type} [Inhabited α] (f : α → ByteArray) {l : List α} {i : Nat} (h : i < l.length) : (l.map f)[i]? = some (f (l.getD i default)) := by
  simp [List.getD_eq_getElem?_getD, h]
theorem pfxEq_comm (p q : Pfx) : pfxEq p q = pfxEq q p := by
  simp only [pfxEq]
  rw [Bool.eq_iff_iff]
  simp only [Bool.and_eq_true, decide_eq_true_eq]
  constructor
  · rintro ⟨a, b⟩; exact ⟨a.symm, b.symm⟩
  · rintro ⟨a, b⟩; exact ⟨a.symm, b.symm⟩
theorem any_take {α : Type} [Inhabited α] (q : α → Bool) {l : List α} {k : Nat} (h : k < l.length) : (l.take (k + 1)).any q = ((l.take k).any q || q (l.getD k default)) := by
  rw [List.take_succ_eq_append_getElem h, List.any_append]
  simp [List.getD_eq_getElem?_getD, h]
theorem any_take_le {α : Type} (q : α → Bool) {l : List α} {i k : Nat} (h : k ≤ i) (ht : (l.take i).any q = false) : (l.take k).any q = false := by
  rw [List.any_eq_false] at ht ⊢
  intro x hx
  have e : l.take k = (l.take i).take k := by rw [List.take_take, Nat.min_eq_left h]
  rw [e] at hx
  exact ht x (List.mem_of_mem_take hx)
set_option maxRecDepth 100000
set_option maxHeartbeats 4000000
attribute [local irreducible] PCall W
theorem rrouter_spec (r : Rtr) (hr : r.Fits) (h1000 : r.nbrs.length ≤ 1000 ∧ r.links.length ≤ 1000) (hp : ∀ p, p ∈ r.nets → p.Ok) : Pure Tryz.prog 26 [eRtr r] (.bool (rtrMay r)) := by
  intro σ
  have hln := hr.nets
  have hlb := hr.nbrs
  have hll := hr.links
  have u1 := ras_spec r.asn
  have u2 := ras_spec r.id
  obtain ⟨b1, e1⟩ : ∃ b, withinZ r.asn 1 65535 = b := ⟨_, rfl⟩
  obtain ⟨b2, e2⟩ : ∃ b, withinZ r.id 1 65535 = b := ⟨_, rfl⟩
  rw [e1] at u1
  rw [e2] at u2
  cases b1 with
  | false =>
    have hF : rtrMay r = false := by rw [rtrMay, e1]; rfl
    rw [hF]
    refine PCall_q [.tmp 2] 145 Tryz.func26 (by rfl) rfl rfl rfl rfl ?_
    repeat' first |refine s1 ?_|refine gS ?_|refine wT rfl ?_|refine wF rfl ?_|refine wt rfl ?_|refine wf rfl ?_|(refine wC rfl (fun h=>?_) (fun h=>?_)<;>(try contradiction))|((first|refine rd ?_|refine ry [] c0 fun nu _ _=>?_);simp -dsimp (disch:=omega) only[go_sem,eRtr])|refine e0 (by decide) ?_|(refine And.intro ?_ ?_;omega)|refine And.intro (of_eq_true PutAt_put) ?_|refine gT ?_|refine gF ?_|(refine gI (fun h=>?_) (fun h=>?_)<;>(try contradiction)<;>(try refine rd ?_)<;>(try simp -dsimp (disch:=omega) only[go_sem,h,eRtr]))|refine Exists.intro _ (Exists.intro _ (And.intro (And.intro rfl rfl) ?_)) |refine us (u1) ?_ |fail
  | true =>
  cases b2 with
  | false =>
    have hF : rtrMay r = false := by rw [rtrMay, e2, Bool.false_and, Bool.and_false]
    rw [hF]
    refine PCall_q [.tmp 2] 145 Tryz.func26 (by rfl) rfl rfl rfl rfl ?_
    repeat' first |refine s1 ?_|refine gS ?_|refine wT rfl ?_|refine wF rfl ?_|refine wt rfl ?_|refine wf rfl ?_|(refine wC rfl (fun h=>?_) (fun h=>?_)<;>(try contradiction))|((first|refine rd ?_|refine ry [] c0 fun nu _ _=>?_);simp -dsimp (disch:=omega) only[go_sem,eRtr])|refine e0 (by decide) ?_|(refine And.intro ?_ ?_;omega)|refine And.intro (of_eq_true PutAt_put) ?_|refine gT ?_|refine gF ?_|(refine gI (fun h=>?_) (fun h=>?_)<;>(try contradiction)<;>(try refine rd ?_)<;>(try simp -dsimp (disch:=omega) only[go_sem,h,eRtr]))|refine Exists.intro _ (Exists.intro _ (And.intro (And.intro rfl rfl) ?_)) |refine us (u1) ?_ |refine us (u2) ?_ |fail
  | true =>
  have hM : rtrMay r = (eachP 16 pfxMay r.nets && (distB [] r.nets && (eachP 16 nbrMay r.nbrs && (eachP 16 lnkMay r.links && (unlikeB [] (r.nbrs.map (·.name)) && unlikeB [] (r.links.map (·.name))))))) := by rw [rtrMay, e1, e2, Bool.true_and, Bool.true_and]
  by_cases l1 : 16 < r.nets.length
  · have hF : rtrMay r = false := by rw [hM, eachP, decide_eq_false (by omega), Bool.false_and, Bool.false_and]
    rw [hF]
    refine PCall_q [.tmp 2] 145 Tryz.func26 (by rfl) rfl rfl rfl rfl ?_
    repeat' first |refine s1 ?_|refine gS ?_|refine wT rfl ?_|refine wF rfl ?_|refine wt rfl ?_|refine wf rfl ?_|(refine wC rfl (fun h=>?_) (fun h=>?_)<;>(try contradiction))|((first|refine rd ?_|refine ry [] c0 fun nu _ _=>?_);simp -dsimp (disch:=omega) only[go_sem,eRtr])|refine e0 (by decide) ?_|(refine And.intro ?_ ?_;omega)|refine And.intro (of_eq_true PutAt_put) ?_|refine gT ?_|refine gF ?_|(refine gI (fun h=>?_) (fun h=>?_)<;>(try contradiction)<;>(try refine rd ?_)<;>(try simp -dsimp (disch:=omega) only[go_sem,h,eRtr]))|refine Exists.intro _ (Exists.intro _ (And.intro (And.intro rfl rfl) ?_)) |refine us (u1) ?_ |refine us (u2) ?_ |fail
  by_cases l2 : 16 < r.nbrs.length
  · have hF : rtrMay r = false := by rw [hM, eachP, eachP, decide_eq_false (by omega : ¬ ((r.nbrs.length : Int) ≤ 16)), Bool.false_and, Bool.false_and, Bool.and_false, Bool.and_false]
    rw [hF]
    refine PCall_q [.tmp 2] 145 Tryz.func26 (by rfl) rfl rfl rfl rfl ?_
    repeat' first |refine s1 ?_|refine gS ?_|refine wT rfl ?_|refine wF rfl ?_|refine wt rfl ?_|refine wf rfl ?_|(refine wC rfl (fun h=>?_) (fun h=>?_)<;>(try contradiction))|((first|refine rd ?_|refine ry [] c0 fun nu _ _=>?_);simp -dsimp (disch:=omega) only[go_sem,eRtr])|refine e0 (by decide) ?_|(refine And.intro ?_ ?_;omega)|refine And.intro (of_eq_true PutAt_put) ?_|refine gT ?_|refine gF ?_|(refine gI (fun h=>?_) (fun h=>?_)<;>(try contradiction)<;>(try refine rd ?_)<;>(try simp -dsimp (disch:=omega) only[go_sem,h,eRtr]))|refine Exists.intro _ (Exists.intro _ (And.intro (And.intro rfl rfl) ?_)) |refine us (u1) ?_ |refine us (u2) ?_ |fail
  by_cases l3 : 16 < r.links.length
  · have hF : rtrMay r = false := by rw [hM, eachP, eachP, eachP, decide_eq_false (by omega : ¬ ((r.links.length : Int) ≤ 16)), Bool.false_and, Bool.false_and, Bool.and_false, Bool.and_false, Bool.and_false]
    rw [hF]
    refine PCall_q [.tmp 2] 145 Tryz.func26 (by rfl) rfl rfl rfl rfl ?_
    repeat' first |refine s1 ?_|refine gS ?_|refine wT rfl ?_|refine wF rfl ?_|refine wt rfl ?_|refine wf rfl ?_|(refine wC rfl (fun h=>?_) (fun h=>?_)<;>(try contradiction))|((first|refine rd ?_|refine ry [] c0 fun nu _ _=>?_);simp -dsimp (disch:=omega) only[go_sem,eRtr])|refine e0 (by decide) ?_|(refine And.intro ?_ ?_;omega)|refine And.intro (of_eq_true PutAt_put) ?_|refine gT ?_|refine gF ?_|(refine gI (fun h=>?_) (fun h=>?_)<;>(try contradiction)<;>(try refine rd ?_)<;>(try simp -dsimp (disch:=omega) only[go_sem,h,eRtr]))|refine Exists.intro _ (Exists.intro _ (And.intro (And.intro rfl rfl) ?_)) |refine us (u1) ?_ |refine us (u2) ?_ |fail
  have q1 : eachP 16 pfxMay r.nets = r.nets.all pfxMay := by rw [eachP, decide_eq_true (by omega), Bool.true_and]
  have q2 : eachP 16 nbrMay r.nbrs = r.nbrs.all nbrMay := by rw [eachP, decide_eq_true (by omega), Bool.true_and]
  have q3 : eachP 16 lnkMay r.links = r.links.all lnkMay := by rw [eachP, decide_eq_true (by omega), Bool.true_and]
  rw [q1, q2, q3] at hM
  obtain ⟨Rm, hRm⟩ : ∃ b, rtrMay r = b := ⟨_, rfl⟩
  rw [hRm] at hM ⊢
  refine PCall_q [.tmp 2] 145 Tryz.func26 (by rfl) rfl rfl rfl rfl ?_
  repeat' first |((fail_if_success (first|show W _ _ (Code.seq (Code.region 3 _ _) _) _ _ _|show W _ _ (Code.seq (Code.seq (Code.region 3 _ _) _) _) _ _ _));refine s1 ?_)|refine gS ?_|refine wT rfl ?_|refine wF rfl ?_|refine wt rfl ?_|refine wf rfl ?_|(refine wC rfl (fun h=>?_) (fun h=>?_)<;>(try contradiction))|((fail_if_success (first|show W _ _ (Code.region 3 _ _) _ _ _));(first|refine rd ?_|refine ry [] c0 fun nu _ _=>?_);simp -dsimp (disch:=omega) only[go_sem,eRtr])|refine e0 (by decide) ?_|(refine And.intro ?_ ?_;omega)|refine And.intro (of_eq_true PutAt_put) ?_|refine gT ?_|refine gF ?_|(refine gI (fun h=>?_) (fun h=>?_)<;>(try contradiction)<;>(try refine rd ?_)<;>(try simp -dsimp (disch:=omega) only[go_sem,h,eRtr]))|refine Exists.intro _ (Exists.intro _ (And.intro (And.intro rfl rfl) ?_)) |refine us (u1) ?_ |refine us (u2) ?_ |fail
  refine W_midE (fun _ : Unit => [(1, .ip (eRtr r) 0)]) (fun _ => σ) (fun _ => r.nets.all pfxMay = true ∧ distB [] r.nets = true) ?_ ?_
  · skip
    repeat' first |refine s1 ?_|refine gS ?_|refine wT rfl ?_|refine wF rfl ?_|refine wt rfl ?_|refine wf rfl ?_|(refine wC rfl (fun h=>?_) (fun h=>?_)<;>(try contradiction))|((first|refine rd ?_|refine ry [] c0 fun nu _ _=>?_);simp -dsimp (disch:=omega) only[go_sem])|refine e0 (by decide) ?_|(refine And.intro ?_ ?_;omega)|refine And.intro (of_eq_true PutAt_put) ?_|refine gT ?_|refine gF ?_|(refine gI (fun h=>?_) (fun h=>?_)<;>(try contradiction)<;>(try refine rd ?_)<;>(try simp -dsimp (disch:=omega) only[go_sem,h]))|refine Exists.intro _ (Exists.intro _ (And.intro (And.intro rfl rfl) ?_)) |fail
    refine W_loop_st (fun i : Nat => [(1, .ip (eRtr r) 0), (3, .int .i64 i)]) (fun _ => σ) (fun i => i ≤ r.nets.length ∧ r.nets.all pfxMay = (r.nets.drop i).all pfxMay ∧ distB [] r.nets = distB (r.nets.take i) (r.nets.drop i)) (fun i => r.nets.length - i) 0 ⟨Nat.zero_le _, rfl, rfl⟩ (Env.Sub_of_has (by simp [Env.Has, Env.get, eRtr])) (Store.Sub.refl _) ?_
    rintro i ⟨hi, ha, hd⟩
    by_cases hlt : i < r.nets.length
    · have ha2 := all_drop pfxMay hlt
      have hd2 := distB_drop r.nets i hlt
      have hmem : r.nets.getD i default ∈ r.nets := by
        rw [List.getD_eq_getElem?_getD, List.getElem?_eq_getElem hlt]; exact List.getElem_mem hlt
      have hc := rpfx_spec (r.nets.getD i default) (hp _ hmem)
      obtain ⟨b, hb⟩ : ∃ b, pfxMay (r.nets.getD i default) = b := ⟨_, rfl⟩
      rw [hb] at hc ha2
      cases b with
      | false =>
        have hz : Rm = false := by rw [hM, ha, ha2]; rfl
        rw [hz]
        repeat' first |refine s1 ?_|refine gS ?_|refine wT rfl ?_|refine wF rfl ?_|refine wt rfl ?_|refine wf rfl ?_|(refine wC rfl (fun h=>?_) (fun h=>?_)<;>(try contradiction))|((first|refine rd ?_|refine ry [] c0 fun nu _ _=>?_);simp -dsimp (disch:=omega) only[go_sem,eRtr])|refine e0 (by decide) ?_|(refine And.intro ?_ ?_;omega)|refine And.intro (of_eq_true PutAt_put) ?_|refine gT ?_|refine gF ?_|(refine gI (fun h=>?_) (fun h=>?_)<;>(try contradiction)<;>(try refine rd ?_)<;>(try simp -dsimp (disch:=omega) only[go_sem,h,eRtr]))|refine Exists.intro _ (Exists.intro _ (And.intro (And.intro rfl rfl) ?_)) |refine us (hc) ?_ |fail
      | true =>
        rw [Bool.true_and] at ha2
        repeat' first |refine s1 ?_|refine gS ?_|refine wT rfl ?_|refine wF rfl ?_|refine wt rfl ?_|refine wf rfl ?_|(refine wC rfl (fun h=>?_) (fun h=>?_)<;>(try contradiction))|((first|refine rd ?_|refine ry [] c0 fun nu _ _=>?_);simp -dsimp (disch:=omega) only[go_sem,eRtr])|refine e0 (by decide) ?_|(refine And.intro ?_ ?_;omega)|refine And.intro (of_eq_true PutAt_put) ?_|refine gT ?_|refine gF ?_|(refine gI (fun h=>?_) (fun h=>?_)<;>(try contradiction)<;>(try refine rd ?_)<;>(try simp -dsimp (disch:=omega) only[go_sem,h,eRtr]))|refine Exists.intro _ (Exists.intro _ (And.intro (And.intro rfl rfl) ?_)) |refine us (hc) ?_ |fail
        refine W_loop_st (fun k : Nat => [(1, .ip (eRtr r) 0), (3, .int .i64 i), (4, .int .i64 k)]) (fun _ => σ) (fun k => k ≤ i ∧ (r.nets.take k).any (pfxEq (r.nets.getD i default)) = false) (fun k => i - k) 0 ⟨Nat.zero_le _, rfl⟩ (Env.Sub_of_has (by simp [Env.Has, Env.get, eRtr])) (Store.Sub.refl _) ?_
        rintro k ⟨hk, hno⟩
        by_cases hki : k < i
        · have hkl : k < r.nets.length := by omega
          have hat := any_take (pfxEq (r.nets.getD i default)) hkl
          rw [hno, Bool.false_or, pfxEq_comm] at hat
          obtain ⟨b, hb⟩ : ∃ b, pfxEq (r.nets.getD k default) (r.nets.getD i default) = b := ⟨_, rfl⟩
          rw [hb] at hat
          simp only [pfxEq] at hb
          cases b with
          | true =>
            have hz : Rm = false := by
              have : (r.nets.take i).any (pfxEq (r.nets.getD i default)) = true := by
                cases e : (r.nets.take i).any (pfxEq (r.nets.getD i default)) with
                | true => rfl
                | false => rw [any_take_le _ (by omega : k + 1 ≤ i) e] at hat; cases hat
              rw [hM, hd, hd2, this]; simp
            rw [hz]
            repeat' first |refine s1 ?_|refine gS ?_|refine wT rfl ?_|refine wF rfl ?_|refine wt rfl ?_|refine wf rfl ?_|(refine wC rfl (fun h=>?_) (fun h=>?_)<;>(try contradiction))|((first|refine rd ?_|refine ry [] c0 fun nu _ _=>?_);simp -dsimp (disch:=omega) only[go_sem,eRtr, hb])|refine e0 (by decide) ?_|(refine And.intro ?_ ?_;omega)|refine And.intro (of_eq_true PutAt_put) ?_|refine gT ?_|refine gF ?_|(refine gI (fun h=>?_) (fun h=>?_)<;>(try contradiction)<;>(try refine rd ?_)<;>(try simp -dsimp (disch:=omega) only[go_sem,h,eRtr, hb]))|refine Exists.intro _ (Exists.intro _ (And.intro (And.intro rfl rfl) ?_)) |fail
          | false =>
            repeat' first |refine s1 ?_|refine gS ?_|refine wT rfl ?_|refine wF rfl ?_|refine wt rfl ?_|refine wf rfl ?_|(refine wC rfl (fun h=>?_) (fun h=>?_)<;>(try contradiction))|((first|refine rd ?_|refine ry [] c0 fun nu _ _=>?_);simp -dsimp (disch:=omega) only[go_sem,eRtr, hb])|refine e0 (by decide) ?_|(refine And.intro ?_ ?_;omega)|refine And.intro (of_eq_true PutAt_put) ?_|refine gT ?_|refine gF ?_|(refine gI (fun h=>?_) (fun h=>?_)<;>(try contradiction)<;>(try refine rd ?_)<;>(try simp -dsimp (disch:=omega) only[go_sem,h,eRtr, hb]))|refine Exists.intro _ (Exists.intro _ (And.intro (And.intro rfl rfl) ?_)) |fail
            exact ⟨k + 1, by omega, ⟨by omega, hat⟩, Env.Sub_of_has (by simp [Env.Has, Env.get, eRtr]), Store.Sub.refl _⟩
        · have hk' : k = i := by omega
          subst hk'
          repeat' first |refine s1 ?_|refine gS ?_|refine wT rfl ?_|refine wF rfl ?_|refine wt rfl ?_|refine wf rfl ?_|(refine wC rfl (fun h=>?_) (fun h=>?_)<;>(try contradiction))|((first|refine rd ?_|refine ry [] c0 fun nu _ _=>?_);simp -dsimp (disch:=omega) only[go_sem])|refine e0 (by decide) ?_|(refine And.intro ?_ ?_;omega)|refine And.intro (of_eq_true PutAt_put) ?_|refine gT ?_|refine gF ?_|(refine gI (fun h=>?_) (fun h=>?_)<;>(try contradiction)<;>(try refine rd ?_)<;>(try simp -dsimp (disch:=omega) only[go_sem,h]))|refine Exists.intro _ (Exists.intro _ (And.intro (And.intro rfl rfl) ?_)) |fail
          exact ⟨k + 1, by omega, ⟨by omega, by rw [ha, ha2], by rw [hd, hd2, hno]; rfl⟩, Env.Sub_of_has (by simp [Env.Has, Env.get, eRtr]), Store.Sub.refl _⟩
    · have hi' : i = r.nets.length := by omega
      subst hi'
      repeat' first |refine s1 ?_|refine gS ?_|refine wT rfl ?_|refine wF rfl ?_|refine wt rfl ?_|refine wf rfl ?_|(refine wC rfl (fun h=>?_) (fun h=>?_)<;>(try contradiction))|((first|refine rd ?_|refine ry [] c0 fun nu _ _=>?_);simp -dsimp (disch:=omega) only[go_sem,eRtr])|refine e0 (by decide) ?_|(refine And.intro ?_ ?_;omega)|refine And.intro (of_eq_true PutAt_put) ?_|refine gT ?_|refine gF ?_|(refine gI (fun h=>?_) (fun h=>?_)<;>(try contradiction)<;>(try refine rd ?_)<;>(try simp -dsimp (disch:=omega) only[go_sem,h,eRtr]))|refine Exists.intro _ (Exists.intro _ (And.intro (And.intro rfl rfl) ?_)) |fail
      exact ⟨(), ⟨by rw [ha, List.drop_length]; rfl, by rw [hd, List.drop_length]; rfl⟩, Env.Sub_of_has (by simp [Env.Has, Env.get, Env.putO, eRtr]), Store.Sub.refl _⟩
  rintro _ ⟨n1, n2⟩
  rw [n1, n2, Bool.true_and, Bool.true_and] at hM
  obtain ⟨N, hN⟩ : ∃ N, List.map (fun x : Nbr => x.name) r.nbrs = N := ⟨_, rfl⟩
  have hNl : N.length = r.nbrs.length := by rw [← hN, List.length_map]
  rw [hN] at hM
  repeat' first |((fail_if_success (first|show W _ _ (Code.seq (Code.region 14 _ _) _) _ _ _|show W _ _ (Code.seq (Code.seq (Code.region 14 _ _) _) _) _ _ _));refine s1 ?_)|refine gS ?_|refine wT rfl ?_|refine wF rfl ?_|refine wt rfl ?_|refine wf rfl ?_|(refine wC rfl (fun h=>?_) (fun h=>?_)<;>(try contradiction))|((fail_if_success (first|show W _ _ (Code.region 14 _ _) _ _ _));(first|refine rd ?_|refine ry [] c0 fun nu _ _=>?_);simp -dsimp (disch:=omega) only[go_sem])|refine e0 (by decide) ?_|(refine And.intro ?_ ?_;omega)|refine And.intro (of_eq_true PutAt_put) ?_|refine gT ?_|refine gF ?_|(refine gI (fun h=>?_) (fun h=>?_)<;>(try contradiction)<;>(try refine rd ?_)<;>(try simp -dsimp (disch:=omega) only[go_sem,h]))|refine Exists.intro _ (Exists.intro _ (And.intro (And.intro rfl rfl) ?_)) |fail
  refine W_midE (fun _ : Unit => [(1, .ip (eRtr r) 0)]) (fun _ => σ) (fun _ => r.nbrs.all nbrMay = true ∧ unlikeB [] N = true) ?_ ?_
  · skip
    repeat' first |refine s1 ?_|refine gS ?_|refine wT rfl ?_|refine wF rfl ?_|refine wt rfl ?_|refine wf rfl ?_|(refine wC rfl (fun h=>?_) (fun h=>?_)<;>(try contradiction))|((first|refine rd ?_|refine ry [] c0 fun nu _ _=>?_);simp -dsimp (disch:=omega) only[go_sem])|refine e0 (by decide) ?_|(refine And.intro ?_ ?_;omega)|refine And.intro (of_eq_true PutAt_put) ?_|refine gT ?_|refine gF ?_|(refine gI (fun h=>?_) (fun h=>?_)<;>(try contradiction)<;>(try refine rd ?_)<;>(try simp -dsimp (disch:=omega) only[go_sem,h]))|refine Exists.intro _ (Exists.intro _ (And.intro (And.intro rfl rfl) ?_)) |fail
    refine W_loop_st (fun x : NmL => [(1, .ip (eRtr r) 0), (5, .sl x.k (nmE N x.i)), (6, .int .i64 x.i)]) (fun x => x.τ) (fun x => x.i ≤ r.nbrs.length ∧ r.nbrs.all nbrMay = (r.nbrs.drop x.i).all nbrMay ∧ unlikeB [] N = unlikeB (N.take x.i) (N.drop x.i) ∧ σ.Sub x.τ ∧ TipOk σ x.τ x.k (nmE N x.i)) (fun x => r.nbrs.length - x.i) ⟨0, .nil, σ⟩ ⟨Nat.zero_le _, rfl, rfl, Store.Sub.refl _, .inl ⟨rfl, rfl⟩⟩ (Env.Sub_of_has (by simp [Env.Has, Env.get, eRtr, nmE_zero])) (Store.Sub.refl _) ?_
    rintro ⟨i, k, τ⟩ ⟨hi, ha, hd, hsub, htip⟩
    simp only at hi ha hd hsub htip ⊢
    by_cases hlt : i < r.nbrs.length
    · have ha2 := all_drop nbrMay hlt
      have hnm := nameAt (fun x : Nbr => x.name) hlt
      rw [hN] at hnm
      have hd2 := unlikeB_drop N i _ hnm
      have hmem : r.nbrs.getD i default ∈ r.nbrs := by
        rw [List.getD_eq_getElem?_getD, List.getElem?_eq_getElem hlt]; exact List.getElem_mem hlt
      have hget : (encL eNbr r.nbrs).getD i .any = eNbr (r.nbrs.getD i default) := getD_encL eNbr hlt
      obtain ⟨n, hn⟩ : ∃ n, r.nbrs.getD i default = n := ⟨_, rfl⟩
      rw [hn] at ha2 hnm hd2 hmem hget
      obtain ⟨z1, z2, z3⟩ := hr.nbr n hmem
      have c1 := rnameIn_spec n.name z1 k (N.take i) (by rw [List.length_take]; omega)
      have c2 := rused_spec n.imp z2
      have c3 := rused_spec n.exp z3
      rw [show encL AV.str (N.take i) = nmE N i from rfl] at c1
      obtain ⟨b1, hb1⟩ : ∃ b, (!((N.take i).any fun t => decide (t = n.name)) && nameB n.name) = b := ⟨_, rfl⟩
      obtain ⟨b2, hb2⟩ : ∃ b, usedB n.imp = b := ⟨_, rfl⟩
      obtain ⟨b3, hb3⟩ : ∃ b, usedB n.exp = b := ⟨_, rfl⟩
      rw [hb1] at c1 hd2
      rw [hb2] at c2
      rw [hb3] at c3
      rw [show nbrMay n = (b2 && b3) by rw [nbrMay, hb2, hb3]] at ha2
      repeat' first |((fail_if_success (first|show W _ _ (Code.seq (Code.region 18 _ _) _) _ _ _|show W _ _ (Code.seq (Code.seq (Code.region 18 _ _) _) _) _ _ _));refine s1 ?_)|refine gS ?_|refine wT rfl ?_|refine wF rfl ?_|refine wt rfl ?_|refine wf rfl ?_|(refine wC rfl (fun h=>?_) (fun h=>?_)<;>(try contradiction))|((fail_if_success (first|show W _ _ (Code.region 18 _ _) _ _ _));(first|refine rd ?_|refine ry [] c0 fun nu _ _=>?_);simp -dsimp (disch:=omega) only[go_sem,eRtr, hget, eNbr])|refine e0 (by decide) ?_|(refine And.intro ?_ ?_;omega)|refine And.intro (of_eq_true PutAt_put) ?_|refine gT ?_|refine gF ?_|(refine gI (fun h=>?_) (fun h=>?_)<;>(try contradiction)<;>(try refine rd ?_)<;>(try simp -dsimp (disch:=omega) only[go_sem,h,eRtr, hget, eNbr]))|refine Exists.intro _ (Exists.intro _ (And.intro (And.intro rfl rfl) ?_)) |fail
      intro m hm
      cases b1 with
      | false =>
        have hz : Rm = false := by rw [hM, hd, hd2]; simp
        rw [hz]
        repeat' first |refine s1 ?_|refine gS ?_|refine wT rfl ?_|refine wF rfl ?_|refine wt rfl ?_|refine wf rfl ?_|(refine wC rfl (fun h=>?_) (fun h=>?_)<;>(try contradiction))|((first|refine rd ?_|refine ry [] c0 fun nu _ _=>?_);simp -dsimp (disch:=omega) only[go_sem])|refine e0 (by decide) ?_|(refine And.intro ?_ ?_;omega)|refine And.intro (of_eq_true PutAt_put) ?_|refine gT ?_|refine gF ?_|(refine gI (fun h=>?_) (fun h=>?_)<;>(try contradiction)<;>(try refine rd ?_)<;>(try simp -dsimp (disch:=omega) only[go_sem,h]))|refine Exists.intro _ (Exists.intro _ (And.intro (And.intro rfl rfl) ?_)) |refine us (c1) ?_ |fail
        exact keep_new hsub (none_of hsub hm)
      | true =>
      cases b2 with
      | false =>
        have hz : Rm = false := by rw [hM, ha, ha2]; simp
        rw [hz]
        repeat' first |refine s1 ?_|refine gS ?_|refine wT rfl ?_|refine wF rfl ?_|refine wt rfl ?_|refine wf rfl ?_|(refine wC rfl (fun h=>?_) (fun h=>?_)<;>(try contradiction))|((first|refine rd ?_|refine ry [] c0 fun nu _ _=>?_);simp -dsimp (disch:=omega) only[go_sem])|refine e0 (by decide) ?_|(refine And.intro ?_ ?_;omega)|refine And.intro (of_eq_true PutAt_put) ?_|refine gT ?_|refine gF ?_|(refine gI (fun h=>?_) (fun h=>?_)<;>(try contradiction)<;>(try refine rd ?_)<;>(try simp -dsimp (disch:=omega) only[go_sem,h]))|refine Exists.intro _ (Exists.intro _ (And.intro (And.intro rfl rfl) ?_)) |refine us (c1) ?_ |refine us (c2) ?_ |fail
        exact keep_new hsub (none_of hsub hm)
      | true =>
      cases b3 with
      | false =>
        have hz : Rm = false := by rw [hM, ha, ha2]; simp
        rw [hz]
        repeat' first |refine s1 ?_|refine gS ?_|refine wT rfl ?_|refine wF rfl ?_|refine wt rfl ?_|refine wf rfl ?_|(refine wC rfl (fun h=>?_) (fun h=>?_)<;>(try contradiction))|((first|refine rd ?_|refine ry [] c0 fun nu _ _=>?_);simp -dsimp (disch:=omega) only[go_sem])|refine e0 (by decide) ?_|(refine And.intro ?_ ?_;omega)|refine And.intro (of_eq_true PutAt_put) ?_|refine gT ?_|refine gF ?_|(refine gI (fun h=>?_) (fun h=>?_)<;>(try contradiction)<;>(try refine rd ?_)<;>(try simp -dsimp (disch:=omega) only[go_sem,h]))|refine Exists.intro _ (Exists.intro _ (And.intro (And.intro rfl rfl) ?_)) |refine us (c1) ?_ |refine us (c2) ?_ |refine us (c3) ?_ |fail
        exact keep_new hsub (none_of hsub hm)
      | true =>
        rw [Bool.true_and, Bool.true_and] at ha2
        rw [Bool.true_and] at hd2
        have hs := nmE_succ hnm
        have hlen := congrArg List.length hs
        have hok := nmE_ok N i
        have hlen0 : (nmE N i).length = i := nmE_length (by omega)
        rcases htip with ⟨rfl, hnil⟩ | ⟨t, rfl, jt, hts⟩
        · rw [hnil] at c1 hs hlen ⊢
          repeat' first |refine s1 ?_|refine gS ?_|refine wT rfl ?_|refine wF rfl ?_|refine wt rfl ?_|refine wf rfl ?_|(refine wC rfl (fun h=>?_) (fun h=>?_)<;>(try contradiction))|((first|refine rd ?_|refine ry [] c0 fun nu _ _=>?_);simp -dsimp (disch:=omega) only[go_sem])|refine e0 (by decide) ?_|(refine And.intro ?_ ?_;omega)|refine And.intro (of_eq_true PutAt_put) ?_|refine gT ?_|refine gF ?_|(refine gI (fun h=>?_) (fun h=>?_)<;>(try contradiction)<;>(try refine rd ?_)<;>(try simp -dsimp (disch:=omega) only[go_sem,h]))|refine Exists.intro _ (Exists.intro _ (And.intro (And.intro rfl rfl) ?_)) |refine us (c1) ?_ |refine us (c2) ?_ |refine us (c3) ?_ |fail
          intro t ht
          have htm := alloc_ne ht
          rw [put_oth htm] at ht
          repeat' first |refine s1 ?_|refine gS ?_|refine wT rfl ?_|refine wF rfl ?_|refine wt rfl ?_|refine wf rfl ?_|(refine wC rfl (fun h=>?_) (fun h=>?_)<;>(try contradiction))|((first|refine rd ?_|refine ry [] c0 fun nu _ _=>?_);simp -dsimp (disch:=omega) only[go_sem])|refine e0 (by decide) ?_|(refine And.intro ?_ ?_;omega)|refine And.intro (of_eq_true PutAt_put) ?_|refine gT ?_|refine gF ?_|(refine gI (fun h=>?_) (fun h=>?_)<;>(try contradiction)<;>(try refine rd ?_)<;>(try simp -dsimp (disch:=omega) only[go_sem,h]))|refine Exists.intro _ (Exists.intro _ (And.intro (And.intro rfl rfl) ?_)) |fail
          refine ⟨⟨i + 1, .tip t, (τ.put m (.arr 61 [eNbr n])).put t (.tip 1 9 1)⟩, by simp only; omega, ⟨hlt, by rw [ha, ha2], by rw [hd, hd2], keep_new (keep_new hsub (none_of hsub hm)) (none_of hsub ht), .inr ⟨t, rfl, by rw [← hlen]; exact put_same _ _ _, none_of hsub ht⟩⟩, Env.Sub_of_has (by simp [Env.Has, Env.get, Env.putO, eRtr, ← hs]), Store.Sub.refl _⟩
        · have htm : t ≠ m := fun e => by rw [e, hm] at jt; cases jt
          repeat' first |refine s1 ?_|refine gS ?_|refine wT rfl ?_|refine wF rfl ?_|refine wt rfl ?_|refine wf rfl ?_|(refine wC rfl (fun h=>?_) (fun h=>?_)<;>(try contradiction))|((first|refine rd ?_|refine ry [] c0 fun nu _ _=>?_);simp -dsimp (disch:=omega) only[go_sem,put_oth htm, jt, hok])|refine e0 (by decide) ?_|(refine And.intro ?_ ?_;omega)|refine And.intro (of_eq_true PutAt_put) ?_|refine gT ?_|refine gF ?_|(refine gI (fun h=>?_) (fun h=>?_)<;>(try contradiction)<;>(try refine rd ?_)<;>(try simp -dsimp (disch:=omega) only[go_sem,h,put_oth htm, jt, hok]))|refine Exists.intro _ (Exists.intro _ (And.intro (And.intro rfl rfl) ?_)) |refine us (c1) ?_ |refine us (c2) ?_ |refine us (c3) ?_ |fail
          refine ⟨⟨i + 1, .tip t, (τ.put m (.arr 61 [eNbr n])).put t (.tip (nmE N (i + 1)).length 9 1)⟩, by simp only; omega, ⟨hlt, by rw [ha, ha2], by rw [hd, hd2], keep_new (keep_new hsub (none_of hsub hm)) hts, .inr ⟨t, rfl, put_same _ _ _, hts⟩⟩, Env.Sub_of_has (by simp [Env.Has, Env.get, Env.putO, eRtr, ← hs]), by rw [← hlen]; simp only [List.length_append, List.length_cons, List.length_nil]; exact Store.Sub.refl _⟩
    · have hi' : i = r.nbrs.length := by omega
      subst hi'
      repeat' first |refine s1 ?_|refine gS ?_|refine wT rfl ?_|refine wF rfl ?_|refine wt rfl ?_|refine wf rfl ?_|(refine wC rfl (fun h=>?_) (fun h=>?_)<;>(try contradiction))|((first|refine rd ?_|refine ry [] c0 fun nu _ _=>?_);simp -dsimp (disch:=omega) only[go_sem,eRtr])|refine e0 (by decide) ?_|(refine And.intro ?_ ?_;omega)|refine And.intro (of_eq_true PutAt_put) ?_|refine gT ?_|refine gF ?_|(refine gI (fun h=>?_) (fun h=>?_)<;>(try contradiction)<;>(try refine rd ?_)<;>(try simp -dsimp (disch:=omega) only[go_sem,h,eRtr]))|refine Exists.intro _ (Exists.intro _ (And.intro (And.intro rfl rfl) ?_)) |fail
      exact ⟨(), ⟨by rw [ha, List.drop_length]; rfl, by rw [hd, ← hNl, List.drop_length]; rfl⟩, Env.Sub_of_has (by simp [Env.Has, Env.get, Env.putO, eRtr]), hsub⟩
  rintro _ ⟨n3, n4⟩
  rw [n3, n4, Bool.true_and, Bool.true_and] at hM
  obtain ⟨N2, hN2⟩ : ∃ N, List.map (fun x : Lnk => x.name) r.links = N := ⟨_, rfl⟩
  have hNl2 : N2.length = r.links.length := by rw [← hN2, List.length_map]
  rw [hN2] at hM
  repeat' first |((fail_if_success (first|show W _ _ (Code.seq (Code.region 22 _ _) _) _ _ _|show W _ _ (Code.seq (Code.seq (Code.region 22 _ _) _) _) _ _ _));refine s1 ?_)|refine gS ?_|refine wT rfl ?_|refine wF rfl ?_|refine wt rfl ?_|refine wf rfl ?_|(refine wC rfl (fun h=>?_) (fun h=>?_)<;>(try contradiction))|((fail_if_success (first|show W _ _ (Code.region 22 _ _) _ _ _));(first|refine rd ?_|refine ry [] c0 fun nu _ _=>?_);simp -dsimp (disch:=omega) only[go_sem])|refine e0 (by decide) ?_|(refine And.intro ?_ ?_;omega)|refine And.intro (of_eq_true PutAt_put) ?_|refine gT ?_|refine gF ?_|(refine gI (fun h=>?_) (fun h=>?_)<;>(try contradiction)<;>(try refine rd ?_)<;>(try simp -dsimp (disch:=omega) only[go_sem,h]))|refine Exists.intro _ (Exists.intro _ (And.intro (And.intro rfl rfl) ?_)) |fail
  refine W_midE (fun _ : Unit => [(1, .ip (eRtr r) 0)]) (fun _ => σ) (fun _ => r.links.all lnkMay = true ∧ unlikeB [] N2 = true) ?_ ?_
  · skip
    repeat' first |refine s1 ?_|refine gS ?_|refine wT rfl ?_|refine wF rfl ?_|refine wt rfl ?_|refine wf rfl ?_|(refine wC rfl (fun h=>?_) (fun h=>?_)<;>(try contradiction))|((first|refine rd ?_|refine ry [] c0 fun nu _ _=>?_);simp -dsimp (disch:=omega) only[go_sem])|refine e0 (by decide) ?_|(refine And.intro ?_ ?_;omega)|refine And.intro (of_eq_true PutAt_put) ?_|refine gT ?_|refine gF ?_|(refine gI (fun h=>?_) (fun h=>?_)<;>(try contradiction)<;>(try refine rd ?_)<;>(try simp -dsimp (disch:=omega) only[go_sem,h]))|refine Exists.intro _ (Exists.intro _ (And.intro (And.intro rfl rfl) ?_)) |fail
    refine W_loop_st (fun x : NmL => [(1, .ip (eRtr r) 0), (8, .sl x.k (nmE N2 x.i)), (9, .int .i64 x.i)]) (fun x => x.τ) (fun x => x.i ≤ r.links.length ∧ r.links.all lnkMay = (r.links.drop x.i).all lnkMay ∧ unlikeB [] N2 = unlikeB (N2.take x.i) (N2.drop x.i) ∧ σ.Sub x.τ ∧ TipOk σ x.τ x.k (nmE N2 x.i)) (fun x => r.links.length - x.i) ⟨0, .nil, σ⟩ ⟨Nat.zero_le _, rfl, rfl, Store.Sub.refl _, .inl ⟨rfl, rfl⟩⟩ (Env.Sub_of_has (by simp [Env.Has, Env.get, eRtr, nmE_zero])) (Store.Sub.refl _) ?_
    rintro ⟨i, k, τ⟩ ⟨hi, ha, hd, hsub, htip⟩
    simp only at hi ha hd hsub htip ⊢
    by_cases hlt : i < r.links.length
    · have ha2 := all_drop lnkMay hlt
      have hnm := nameAt (fun x : Lnk => x.name) hlt
      rw [hN2] at hnm
      have hd2 := unlikeB_drop N2 i _ hnm
      have hmem : r.links.getD i default ∈ r.links := by
        rw [List.getD_eq_getElem?_getD, List.getElem?_eq_getElem hlt]; exact List.getElem_mem hlt
      have hget : (encL eLnk r.links).getD i .any = eLnk (r.links.getD i default) := getD_encL eLnk hlt
      obtain ⟨n, hn⟩ : ∃ n, r.links.getD i default = n := ⟨_, rfl⟩
      rw [hn] at ha2 hnm hd2 hmem hget
      have c1 := rnameIn_spec n.name (hr.link n hmem) k (N2.take i) (by rw [List.length_take]; omega)
      rw [show encL AV.str (N2.take i) = nmE N2 i from rfl] at c1
      obtain ⟨b1, hb1⟩ : ∃ b, (!((N2.take i).any fun t => decide (t = n.name)) && nameB n.name) = b := ⟨_, rfl⟩
      rw [hb1] at c1 hd2
      cases b1 with
      | false =>
        have hz : Rm = false := by rw [hM, hd, hd2]; simp
        rw [hz]
        repeat' first |refine s1 ?_|refine gS ?_|refine wT rfl ?_|refine wF rfl ?_|refine wt rfl ?_|refine wf rfl ?_|(refine wC rfl (fun h=>?_) (fun h=>?_)<;>(try contradiction))|((first|refine rd ?_|refine ry [] c0 fun nu _ _=>?_);simp -dsimp (disch:=omega) only[go_sem,eRtr, hget, eLnk])|refine e0 (by decide) ?_|(refine And.intro ?_ ?_;omega)|refine And.intro (of_eq_true PutAt_put) ?_|refine gT ?_|refine gF ?_|(refine gI (fun h=>?_) (fun h=>?_)<;>(try contradiction)<;>(try refine rd ?_)<;>(try simp -dsimp (disch:=omega) only[go_sem,h,eRtr, hget, eLnk]))|refine Exists.intro _ (Exists.intro _ (And.intro (And.intro rfl rfl) ?_)) |refine us (c1) ?_ |fail
        exact hsub
      | true =>
      by_cases p1 : n.cost < 0
      · have hz : Rm = false := by rw [hM, ha, ha2, lnkMay, within_F1 p1]; rfl
        rw [hz]
        repeat' first |refine s1 ?_|refine gS ?_|refine wT rfl ?_|refine wF rfl ?_|refine wt rfl ?_|refine wf rfl ?_|(refine wC rfl (fun h=>?_) (fun h=>?_)<;>(try contradiction))|((first|refine rd ?_|refine ry [] c0 fun nu _ _=>?_);simp -dsimp (disch:=omega) only[go_sem,eRtr, hget, eLnk, p1])|refine e0 (by decide) ?_|(refine And.intro ?_ ?_;omega)|refine And.intro (of_eq_true PutAt_put) ?_|refine gT ?_|refine gF ?_|(refine gI (fun h=>?_) (fun h=>?_)<;>(try contradiction)<;>(try refine rd ?_)<;>(try simp -dsimp (disch:=omega) only[go_sem,h,eRtr, hget, eLnk, p1]))|refine Exists.intro _ (Exists.intro _ (And.intro (And.intro rfl rfl) ?_)) |refine us (c1) ?_ |fail
        exact hsub
      by_cases p2 : 65536 < n.cost
      · have hz : Rm = false := by rw [hM, ha, ha2, lnkMay, within_F2 p2]; rfl
        rw [hz]
        repeat' first |refine s1 ?_|refine gS ?_|refine wT rfl ?_|refine wF rfl ?_|refine wt rfl ?_|refine wf rfl ?_|(refine wC rfl (fun h=>?_) (fun h=>?_)<;>(try contradiction))|((first|refine rd ?_|refine ry [] c0 fun nu _ _=>?_);simp -dsimp (disch:=omega) only[go_sem,eRtr, hget, eLnk, p1, p2])|refine e0 (by decide) ?_|(refine And.intro ?_ ?_;omega)|refine And.intro (of_eq_true PutAt_put) ?_|refine gT ?_|refine gF ?_|(refine gI (fun h=>?_) (fun h=>?_)<;>(try contradiction)<;>(try refine rd ?_)<;>(try simp -dsimp (disch:=omega) only[go_sem,h,eRtr, hget, eLnk, p1, p2]))|refine Exists.intro _ (Exists.intro _ (And.intro (And.intro rfl rfl) ?_)) |refine us (c1) ?_ |fail
        exact hsub
      rw [show lnkMay n = true from within_T (by omega) (by omega), Bool.true_and] at ha2
      rw [Bool.true_and] at hd2
      have hs := nmE_succ hnm
      have hlen := congrArg List.length hs
      have hok := nmE_ok N2 i
      have hlen0 : (nmE N2 i).length = i := nmE_length (by omega)
      rcases htip with ⟨rfl, hnil⟩ | ⟨t, rfl, jt, hts⟩
      · rw [hnil] at c1 hs hlen ⊢
        repeat' first |refine s1 ?_|refine gS ?_|refine wT rfl ?_|refine wF rfl ?_|refine wt rfl ?_|refine wf rfl ?_|(refine wC rfl (fun h=>?_) (fun h=>?_)<;>(try contradiction))|((first|refine rd ?_|refine ry [] c0 fun nu _ _=>?_);simp -dsimp (disch:=omega) only[go_sem,eRtr, hget, eLnk, p1, p2])|refine e0 (by decide) ?_|(refine And.intro ?_ ?_;omega)|refine And.intro (of_eq_true PutAt_put) ?_|refine gT ?_|refine gF ?_|(refine gI (fun h=>?_) (fun h=>?_)<;>(try contradiction)<;>(try refine rd ?_)<;>(try simp -dsimp (disch:=omega) only[go_sem,h,eRtr, hget, eLnk, p1, p2]))|refine Exists.intro _ (Exists.intro _ (And.intro (And.intro rfl rfl) ?_)) |refine us (c1) ?_ |fail
        intro t ht
        repeat' first |refine s1 ?_|refine gS ?_|refine wT rfl ?_|refine wF rfl ?_|refine wt rfl ?_|refine wf rfl ?_|(refine wC rfl (fun h=>?_) (fun h=>?_)<;>(try contradiction))|((first|refine rd ?_|refine ry [] c0 fun nu _ _=>?_);simp -dsimp (disch:=omega) only[go_sem])|refine e0 (by decide) ?_|(refine And.intro ?_ ?_;omega)|refine And.intro (of_eq_true PutAt_put) ?_|refine gT ?_|refine gF ?_|(refine gI (fun h=>?_) (fun h=>?_)<;>(try contradiction)<;>(try refine rd ?_)<;>(try simp -dsimp (disch:=omega) only[go_sem,h]))|refine Exists.intro _ (Exists.intro _ (And.intro (And.intro rfl rfl) ?_)) |fail
        refine ⟨⟨i + 1, .tip t, τ.put t (.tip 1 9 1)⟩, by simp only; omega, ⟨hlt, by rw [ha, ha2], by rw [hd, hd2], keep_new hsub (none_of hsub ht), .inr ⟨t, rfl, by rw [← hlen]; exact put_same _ _ _, none_of hsub ht⟩⟩, Env.Sub_of_has (by simp [Env.Has, Env.get, Env.putO, eRtr, ← hs]), Store.Sub.refl _⟩
      · skip
        repeat' first |refine s1 ?_|refine gS ?_|refine wT rfl ?_|refine wF rfl ?_|refine wt rfl ?_|refine wf rfl ?_|(refine wC rfl (fun h=>?_) (fun h=>?_)<;>(try contradiction))|((first|refine rd ?_|refine ry [] c0 fun nu _ _=>?_);simp -dsimp (disch:=omega) only[go_sem,eRtr, hget, eLnk, p1, p2, jt, hok])|refine e0 (by decide) ?_|(refine And.intro ?_ ?_;omega)|refine And.intro (of_eq_true PutAt_put) ?_|refine gT ?_|refine gF ?_|(refine gI (fun h=>?_) (fun h=>?_)<;>(try contradiction)<;>(try refine rd ?_)<;>(try simp -dsimp (disch:=omega) only[go_sem,h,eRtr, hget, eLnk, p1, p2, jt, hok]))|refine Exists.intro _ (Exists.intro _ (And.intro (And.intro rfl rfl) ?_)) |refine us (c1) ?_ |fail
        refine ⟨⟨i + 1, .tip t, τ.put t (.tip (nmE N2 (i + 1)).length 9 1)⟩, by simp only; omega, ⟨hlt, by rw [ha, ha2], by rw [hd, hd2], keep_new hsub hts, .inr ⟨t, rfl, put_same _ _ _, hts⟩⟩, Env.Sub_of_has (by simp [Env.Has, Env.get, Env.putO, eRtr, ← hs]), by rw [← hlen]; simp only [List.length_append, List.length_cons, List.length_nil]; exact Store.Sub.refl _⟩
    · have hi' : i = r.links.length := by omega
      subst hi'
      repeat' first |refine s1 ?_|refine gS ?_|refine wT rfl ?_|refine wF rfl ?_|refine wt rfl ?_|refine wf rfl ?_|(refine wC rfl (fun h=>?_) (fun h=>?_)<;>(try contradiction))|((first|refine rd ?_|refine ry [] c0 fun nu _ _=>?_);simp -dsimp (disch:=omega) only[go_sem,eRtr])|refine e0 (by decide) ?_|(refine And.intro ?_ ?_;omega)|refine And.intro (of_eq_true PutAt_put) ?_|refine gT ?_|refine gF ?_|(refine gI (fun h=>?_) (fun h=>?_)<;>(try contradiction)<;>(try refine rd ?_)<;>(try simp -dsimp (disch:=omega) only[go_sem,h,eRtr]))|refine Exists.intro _ (Exists.intro _ (And.intro (And.intro rfl rfl) ?_)) |fail
      exact ⟨(), ⟨by rw [ha, List.drop_length]; rfl, by rw [hd, ← hNl2, List.drop_length]; rfl⟩, Env.Sub_of_has (by simp [Env.Has, Env.get, Env.putO, eRtr]), hsub⟩
  rintro _ ⟨n5, n6⟩
  rw [hM, n5, n6]
  repeat' first |refine s1 ?_|refine gS ?_|refine wT rfl ?_|refine wF rfl ?_|refine wt rfl ?_|refine wf rfl ?_|(refine wC rfl (fun h=>?_) (fun h=>?_)<;>(try contradiction))|((first|refine rd ?_|refine ry [] c0 fun nu _ _=>?_);simp -dsimp (disch:=omega) only[go_sem])|refine e0 (by decide) ?_|(refine And.intro ?_ ?_;omega)|refine And.intro (of_eq_true PutAt_put) ?_|refine gT ?_|refine gF ?_|(refine gI (fun h=>?_) (fun h=>?_)<;>(try contradiction)<;>(try refine rd ?_)<;>(try simp -dsimp (disch:=omega) only[go_sem,h]))|refine Exists.intro _ (Exists.intro _ (And.intro (And.intro rfl rfl) ?_)) |fail
end Go.Proofs.YtaealcimocpnnaaGreat
namespace Go.Proofs.YtaealcimocpnnaaGreat
open Go.Kern Go.RowKit
def clsAll : Int → List Cls → Bool
  | _, [] => true
  | last, c :: r => clsMay last c && clsAll c.n r
theorem clsMay_n {last : Int} {c : Cls} (h : clsMay last c = true) : last + 1 ≤ c.n ∧ c.n ≤ 65535 := by
  simp only [clsMay, Bool.and_eq_true] at h
  exact within_iff.1 h.1
theorem lastN_n {last : Int} {c : Cls} (h : clsMay last c = true) : lastN last c.n = c.n := by
  have := clsMay_n h
  unfold lastN
  rw [if_neg (by omega : ¬ 65535 < c.n), if_pos (by omega)]
theorem any_cls {τ : Type} (v : τ → Int) (step : τ → Cls → Bool × τ) (h1 : ∀ st c, (step st c).1 = clsMay (v st) c) (h2 : ∀ st c, clsMay (v st) c = true → v (step st c).2 = c.n) : ∀ (l : List Cls) (st : τ), (anyS (fun st x => (!(step st x).1, (step st x).2)) st l).1 = !clsAll (v st) l
  | [], st => rfl
  | c :: l, st => by
    simp only [anyS, clsAll, h1]
    by_cases h : clsMay (v st) c = true
    · have ih := any_cls v step h1 h2 l (step st c).2
      simp only [h1, h2 st c h] at ih
      rw [h, if_neg (by decide), Bool.true_and]
      exact ih
    · have h2 : clsMay (v st) c = false := by simpa using h
      rw [h2]; rfl
theorem mapMayB_eq (m : MapD) : mapMayB m = (decide ((m.l.length : Int) ≤ 16) && clsAll 0 m.l) := by
  unfold mapMayB eachS
  split
  · rename_i h
    rw [decide_eq_true h, Bool.true_and]
    have := any_cls (fun st : LastT => st.1) clsStep (fun _ _ => rfl) (fun st c h => lastN_n h) m.l ⟨0, by omega⟩
    refine (congrArg (fun b => !b) this).trans ?_
    exact Bool.not_not _
  · rename_i h
    rw [decide_eq_false h, Bool.false_and]
theorem clsAll_drop (L : Int) (l : List Cls) (i : Nat) (h : i < l.length) : clsAll L (l.drop i) = (clsMay L (l.getD i default) && clsAll (l.getD i default).n (l.drop (i + 1))) := by
  rw [List.drop_eq_getElem_cons h, clsAll]
  simp [List.getD_eq_getElem?_getD, h]
set_option maxRecDepth 100000
set_option maxHeartbeats 4000000
attribute [local irreducible] PCall W
theorem rmay_spec (c : Cfg) (hS : c.S) (hW : c.Wf) : Pure Tryz.prog 9 [eCfg c] (.bool (cfgMay c)) := by
  intro σ
  have hf := in_fits c hS hW
  obtain ⟨a1, a2, a3⟩ := hS.len
  by_cases l1 : 16 < c.lists.length
  · have hF : cfgMay c = false := by rw [cfgMay, eachP, decide_eq_false (by omega), Bool.false_and, Bool.false_and]
    rw [hF]
    refine PCall_q [.tmp 2] 164 Tryz.func9 (by rfl) rfl rfl rfl rfl ?_
    repeat' first |refine s1 ?_|refine gS ?_|refine wT rfl ?_|refine wF rfl ?_|refine wt rfl ?_|refine wf rfl ?_|(refine wC rfl (fun h=>?_) (fun h=>?_)<;>(try contradiction))|((first|refine rd ?_|refine ry [] c0 fun nu _ _=>?_);simp -dsimp (disch:=omega) only[go_sem,eCfg])|refine e0 (by decide) ?_|(refine And.intro ?_ ?_;omega)|refine And.intro (of_eq_true PutAt_put) ?_|refine gT ?_|refine gF ?_|(refine gI (fun h=>?_) (fun h=>?_)<;>(try contradiction)<;>(try refine rd ?_)<;>(try simp -dsimp (disch:=omega) only[go_sem,h,eCfg]))|refine Exists.intro _ (Exists.intro _ (And.intro (And.intro rfl rfl) ?_)) |fail
  by_cases l2 : 16 < c.maps.length
  · have hF : cfgMay c = false := by rw [cfgMay, eachP, eachP, decide_eq_false (by omega : ¬ ((c.maps.length : Int) ≤ 16)), Bool.false_and, Bool.false_and, Bool.and_false]
    rw [hF]
    refine PCall_q [.tmp 2] 164 Tryz.func9 (by rfl) rfl rfl rfl rfl ?_
    repeat' first |refine s1 ?_|refine gS ?_|refine wT rfl ?_|refine wF rfl ?_|refine wt rfl ?_|refine wf rfl ?_|(refine wC rfl (fun h=>?_) (fun h=>?_)<;>(try contradiction))|((first|refine rd ?_|refine ry [] c0 fun nu _ _=>?_);simp -dsimp (disch:=omega) only[go_sem,eCfg])|refine e0 (by decide) ?_|(refine And.intro ?_ ?_;omega)|refine And.intro (of_eq_true PutAt_put) ?_|refine gT ?_|refine gF ?_|(refine gI (fun h=>?_) (fun h=>?_)<;>(try contradiction)<;>(try refine rd ?_)<;>(try simp -dsimp (disch:=omega) only[go_sem,h,eCfg]))|refine Exists.intro _ (Exists.intro _ (And.intro (And.intro rfl rfl) ?_)) |fail
  by_cases l3 : 8 < c.routers.length
  · have hF : cfgMay c = false := by rw [cfgMay, eachP, eachP, eachP, decide_eq_false (by omega : ¬ ((c.routers.length : Int) ≤ 8)), Bool.false_and, Bool.false_and, Bool.and_false, Bool.and_false]
    rw [hF]
    refine PCall_q [.tmp 2] 164 Tryz.func9 (by rfl) rfl rfl rfl rfl ?_
    repeat' first |refine s1 ?_|refine gS ?_|refine wT rfl ?_|refine wF rfl ?_|refine wt rfl ?_|refine wf rfl ?_|(refine wC rfl (fun h=>?_) (fun h=>?_)<;>(try contradiction))|((first|refine rd ?_|refine ry [] c0 fun nu _ _=>?_);simp -dsimp (disch:=omega) only[go_sem,eCfg])|refine e0 (by decide) ?_|(refine And.intro ?_ ?_;omega)|refine And.intro (of_eq_true PutAt_put) ?_|refine gT ?_|refine gF ?_|(refine gI (fun h=>?_) (fun h=>?_)<;>(try contradiction)<;>(try refine rd ?_)<;>(try simp -dsimp (disch:=omega) only[go_sem,h,eCfg]))|refine Exists.intro _ (Exists.intro _ (And.intro (And.intro rfl rfl) ?_)) |fail
  have q1 : eachP 16 lstMay c.lists = c.lists.all lstMay := by rw [eachP, decide_eq_true (by omega), Bool.true_and]
  have q2 : eachP 16 mapMayB c.maps = c.maps.all mapMayB := by rw [eachP, decide_eq_true (by omega), Bool.true_and]
  have q3 : eachP 8 rtrMay c.routers = c.routers.all rtrMay := by rw [eachP, decide_eq_true (by omega), Bool.true_and]
  have hM : cfgMay c = (c.lists.all lstMay && (c.maps.all mapMayB && (c.routers.all rtrMay && (unlikeB [] (c.lists.map (·.name)) && (unlikeB [] (c.maps.map (·.name)) && unlikeB [] (c.routers.map (·.name))))))) := by rw [cfgMay, q1, q2, q3]
  obtain ⟨Rm, hRm⟩ : ∃ b, cfgMay c = b := ⟨_, rfl⟩
  rw [hRm] at hM ⊢
  refine PCall_q [.tmp 2] 164 Tryz.func9 (by rfl) rfl rfl rfl rfl ?_
  repeat' first |((fail_if_success (first|show W _ _ (Code.seq (Code.region 4 _ _) _) _ _ _|show W _ _ (Code.seq (Code.seq (Code.region 4 _ _) _) _) _ _ _));refine s1 ?_)|refine gS ?_|refine wT rfl ?_|refine wF rfl ?_|refine wt rfl ?_|refine wf rfl ?_|(refine wC rfl (fun h=>?_) (fun h=>?_)<;>(try contradiction))|((fail_if_success (first|show W _ _ (Code.region 4 _ _) _ _ _));(first|refine rd ?_|refine ry [] c0 fun nu _ _=>?_);simp -dsimp (disch:=omega) only[go_sem,eCfg])|refine e0 (by decide) ?_|(refine And.intro ?_ ?_;omega)|refine And.intro (of_eq_true PutAt_put) ?_|refine gT ?_|refine gF ?_|(refine gI (fun h=>?_) (fun h=>?_)<;>(try contradiction)<;>(try refine rd ?_)<;>(try simp -dsimp (disch:=omega) only[go_sem,h,eCfg]))|refine Exists.intro _ (Exists.intro _ (And.intro (And.intro rfl rfl) ?_)) |fail
  obtain ⟨N, hN⟩ : ∃ N, List.map (fun x : LstD => x.name) c.lists = N := ⟨_, rfl⟩
  have hNl : N.length = c.lists.length := by rw [← hN, List.length_map]
  rw [hN] at hM
  skip
  refine W_midE (fun _ : Unit => [(1, .ip (eCfg c) 0), (4, .sl .nil []), (5, .sl .nil [])]) (fun _ => σ) (fun _ => c.lists.all lstMay = true ∧ unlikeB [] N = true) ?_ ?_
  · skip
    repeat' first |refine s1 ?_|refine gS ?_|refine wT rfl ?_|refine wF rfl ?_|refine wt rfl ?_|refine wf rfl ?_|(refine wC rfl (fun h=>?_) (fun h=>?_)<;>(try contradiction))|((first|refine rd ?_|refine ry [] c0 fun nu _ _=>?_);simp -dsimp (disch:=omega) only[go_sem])|refine e0 (by decide) ?_|(refine And.intro ?_ ?_;omega)|refine And.intro (of_eq_true PutAt_put) ?_|refine gT ?_|refine gF ?_|(refine gI (fun h=>?_) (fun h=>?_)<;>(try contradiction)<;>(try refine rd ?_)<;>(try simp -dsimp (disch:=omega) only[go_sem,h]))|refine Exists.intro _ (Exists.intro _ (And.intro (And.intro rfl rfl) ?_)) |fail
    refine W_loop_st (fun x : NmL => [(1, .ip (eCfg c) 0), (3, .sl x.k (nmE N x.i)), (4, .sl .nil []), (5, .sl .nil []), (6, .int .i64 x.i)]) (fun x => x.τ) (fun x => x.i ≤ c.lists.length ∧ c.lists.all lstMay = (c.lists.drop x.i).all lstMay ∧ unlikeB [] N = unlikeB (N.take x.i) (N.drop x.i) ∧ σ.Sub x.τ ∧ TipOk σ x.τ x.k (nmE N x.i)) (fun x => c.lists.length - x.i) ⟨0, .nil, σ⟩ ⟨Nat.zero_le _, rfl, rfl, Store.Sub.refl _, .inl ⟨rfl, rfl⟩⟩ (Env.Sub_of_has (by simp [Env.Has, Env.get, eCfg, nmE_zero])) (Store.Sub.refl _) ?_
    rintro ⟨i, k, τ⟩ ⟨hi, ha, hd, hsub, htip⟩
    simp only at hi ha hd hsub htip ⊢
    by_cases hlt : i < c.lists.length
    · have ha2 := all_drop lstMay hlt
      have hnm := nameAt (fun x : LstD => x.name) hlt
      rw [hN] at hnm
      have hd2 := unlikeB_drop N i _ hnm
      have hmem : c.lists.getD i default ∈ c.lists := mem_getD hlt
      have hget : (encL eLst c.lists).getD i .any = eLst (c.lists.getD i default) := getD_encL eLst hlt
      obtain ⟨n, hn⟩ : ∃ n, c.lists.getD i default = n := ⟨_, rfl⟩
      rw [hn] at ha2 hnm hd2 hmem hget
      have hnsz : n.name.size ≤ 9223372036854775807 := by
        have := (hS.lists n hmem).1; omega
      have c1 := rnameIn_spec n.name hnsz k (N.take i) (by rw [List.length_take]; omega)
      rw [show encL AV.str (N.take i) = nmE N i from rfl] at c1
      obtain ⟨b1, hb1⟩ : ∃ b, (!((N.take i).any fun t => decide (t = n.name)) && nameB n.name) = b := ⟨_, rfl⟩
      rw [hb1] at c1 hd2
      cases b1 with
      | false =>
        have hz : Rm = false := by rw [hM, hd, hd2]; simp
        rw [hz]
        repeat' first |refine s1 ?_|refine gS ?_|refine wT rfl ?_|refine wF rfl ?_|refine wt rfl ?_|refine wf rfl ?_|(refine wC rfl (fun h=>?_) (fun h=>?_)<;>(try contradiction))|((first|refine rd ?_|refine ry [] c0 fun nu _ _=>?_);simp -dsimp (disch:=omega) only[go_sem,eCfg, hget, eLst])|refine e0 (by decide) ?_|(refine And.intro ?_ ?_;omega)|refine And.intro (of_eq_true PutAt_put) ?_|refine gT ?_|refine gF ?_|(refine gI (fun h=>?_) (fun h=>?_)<;>(try contradiction)<;>(try refine rd ?_)<;>(try simp -dsimp (disch:=omega) only[go_sem,h,eCfg, hget, eLst]))|refine Exists.intro _ (Exists.intro _ (And.intro (And.intro rfl rfl) ?_)) |refine us (c1) ?_ |fail
        exact hsub
      | true =>
      rw [Bool.true_and] at hd2
      have hs := nmE_succ hnm
      have hlen := congrArg List.length hs
      have hok := nmE_ok N i
      have hlen0 : (nmE N i).length = i := nmE_length (by omega)
      have c2 := rwhy_spec n.k n.l (by have := (hS.lists n hmem).2; omega) (hW.rules n hmem)
      obtain ⟨b2, hb2⟩ : ∃ b, lstMay n = b := ⟨_, rfl⟩
      have hb3 := hb2
      rw [lstMay] at hb3
      cases b2 with
      | false =>
        have hz : Rm = false := by rw [hM, ha, ha2, hb2]; simp
        rw [hz]
        repeat' first |refine s1 ?_|refine gS ?_|refine wT rfl ?_|refine wF rfl ?_|refine wt rfl ?_|refine wf rfl ?_|(refine wC rfl (fun h=>?_) (fun h=>?_)<;>(try contradiction))|((first|refine rd ?_|refine ry [] c0 fun nu _ _=>?_);simp -dsimp (disch:=omega) only[go_sem,eCfg, hget, eLst, hb3])|refine e0 (by decide) ?_|(refine And.intro ?_ ?_;omega)|refine And.intro (of_eq_true PutAt_put) ?_|refine gT ?_|refine gF ?_|(refine gI (fun h=>?_) (fun h=>?_)<;>(try contradiction)<;>(try refine rd ?_)<;>(try simp -dsimp (disch:=omega) only[go_sem,h,eCfg, hget, eLst, hb3]))|refine Exists.intro _ (Exists.intro _ (And.intro (And.intro rfl rfl) ?_)) |refine us (c1) ?_ |refine us (c2) ?_ |fail
        all_goals exact hsub
      | true =>
      rw [hb2, Bool.true_and] at ha2
      rcases htip with ⟨rfl, hnil⟩ | ⟨t, rfl, jt, hts⟩
      · rw [hnil] at c1 hs hlen ⊢
        repeat' first |refine s1 ?_|refine gS ?_|refine wT rfl ?_|refine wF rfl ?_|refine wt rfl ?_|refine wf rfl ?_|(refine wC rfl (fun h=>?_) (fun h=>?_)<;>(try contradiction))|((first|refine rd ?_|refine ry [] c0 fun nu _ _=>?_);simp -dsimp (disch:=omega) only[go_sem,eCfg, hget, eLst, hb3])|refine e0 (by decide) ?_|(refine And.intro ?_ ?_;omega)|refine And.intro (of_eq_true PutAt_put) ?_|refine gT ?_|refine gF ?_|(refine gI (fun h=>?_) (fun h=>?_)<;>(try contradiction)<;>(try refine rd ?_)<;>(try simp -dsimp (disch:=omega) only[go_sem,h,eCfg, hget, eLst, hb3]))|refine Exists.intro _ (Exists.intro _ (And.intro (And.intro rfl rfl) ?_)) |refine us (c1) ?_ |refine us (c2) ?_ |fail
        intro t ht
        repeat' first |refine s1 ?_|refine gS ?_|refine wT rfl ?_|refine wF rfl ?_|refine wt rfl ?_|refine wf rfl ?_|(refine wC rfl (fun h=>?_) (fun h=>?_)<;>(try contradiction))|((first|refine rd ?_|refine ry [] c0 fun nu _ _=>?_);simp -dsimp (disch:=omega) only[go_sem])|refine e0 (by decide) ?_|(refine And.intro ?_ ?_;omega)|refine And.intro (of_eq_true PutAt_put) ?_|refine gT ?_|refine gF ?_|(refine gI (fun h=>?_) (fun h=>?_)<;>(try contradiction)<;>(try refine rd ?_)<;>(try simp -dsimp (disch:=omega) only[go_sem,h]))|refine Exists.intro _ (Exists.intro _ (And.intro (And.intro rfl rfl) ?_)) |fail
        refine ⟨⟨i + 1, .tip t, τ.put t (.tip 1 9 1)⟩, by simp only; omega, ⟨hlt, by rw [ha, ha2], by rw [hd, hd2], keep_new hsub (none_of hsub ht), .inr ⟨t, rfl, by rw [← hlen]; exact put_same _ _ _, none_of hsub ht⟩⟩, Env.Sub_of_has (by simp [Env.Has, Env.get, Env.putO, eCfg, ← hs]), Store.Sub.refl _⟩
      · skip
        repeat' first |refine s1 ?_|refine gS ?_|refine wT rfl ?_|refine wF rfl ?_|refine wt rfl ?_|refine wf rfl ?_|(refine wC rfl (fun h=>?_) (fun h=>?_)<;>(try contradiction))|((first|refine rd ?_|refine ry [] c0 fun nu _ _=>?_);simp -dsimp (disch:=omega) only[go_sem,eCfg, hget, eLst, jt, hok, hb3])|refine e0 (by decide) ?_|(refine And.intro ?_ ?_;omega)|refine And.intro (of_eq_true PutAt_put) ?_|refine gT ?_|refine gF ?_|(refine gI (fun h=>?_) (fun h=>?_)<;>(try contradiction)<;>(try refine rd ?_)<;>(try simp -dsimp (disch:=omega) only[go_sem,h,eCfg, hget, eLst, jt, hok, hb3]))|refine Exists.intro _ (Exists.intro _ (And.intro (And.intro rfl rfl) ?_)) |refine us (c1) ?_ |refine us (c2) ?_ |fail
        refine ⟨⟨i + 1, .tip t, τ.put t (.tip (nmE N (i + 1)).length 9 1)⟩, by simp only; omega, ⟨hlt, by rw [ha, ha2], by rw [hd, hd2], keep_new hsub hts, .inr ⟨t, rfl, put_same _ _ _, hts⟩⟩, Env.Sub_of_has (by simp [Env.Has, Env.get, Env.putO, eCfg, ← hs]), by rw [← hlen]; simp only [List.length_append, List.length_cons, List.length_nil]; exact Store.Sub.refl _⟩
    · have hi' : i = c.lists.length := by omega
      subst hi'
      repeat' first |refine s1 ?_|refine gS ?_|refine wT rfl ?_|refine wF rfl ?_|refine wt rfl ?_|refine wf rfl ?_|(refine wC rfl (fun h=>?_) (fun h=>?_)<;>(try contradiction))|((first|refine rd ?_|refine ry [] c0 fun nu _ _=>?_);simp -dsimp (disch:=omega) only[go_sem,eCfg])|refine e0 (by decide) ?_|(refine And.intro ?_ ?_;omega)|refine And.intro (of_eq_true PutAt_put) ?_|refine gT ?_|refine gF ?_|(refine gI (fun h=>?_) (fun h=>?_)<;>(try contradiction)<;>(try refine rd ?_)<;>(try simp -dsimp (disch:=omega) only[go_sem,h,eCfg]))|refine Exists.intro _ (Exists.intro _ (And.intro (And.intro rfl rfl) ?_)) |fail
      exact ⟨(), ⟨by rw [ha, List.drop_length]; rfl, by rw [hd, ← hNl, List.drop_length]; rfl⟩, Env.Sub_of_has (by simp [Env.Has, Env.get, Env.putO, eCfg]), hsub⟩
  rintro _ ⟨n1, n2⟩
  rw [n1, n2] at hM
  simp only [Bool.true_and, Bool.and_true] at hM
  clear hN hNl n1 n2 N
  obtain ⟨N, hN⟩ : ∃ N, List.map (fun x : MapD => x.name) c.maps = N := ⟨_, rfl⟩
  have hNl : N.length = c.maps.length := by rw [← hN, List.length_map]
  rw [hN] at hM
  repeat' first |((fail_if_success (first|show W _ _ (Code.seq (Code.region 10 _ _) _) _ _ _|show W _ _ (Code.seq (Code.seq (Code.region 10 _ _) _) _) _ _ _));refine s1 ?_)|refine gS ?_|refine wT rfl ?_|refine wF rfl ?_|refine wt rfl ?_|refine wf rfl ?_|(refine wC rfl (fun h=>?_) (fun h=>?_)<;>(try contradiction))|((fail_if_success (first|show W _ _ (Code.region 10 _ _) _ _ _));(first|refine rd ?_|refine ry [] c0 fun nu _ _=>?_);simp -dsimp (disch:=omega) only[go_sem])|refine e0 (by decide) ?_|(refine And.intro ?_ ?_;omega)|refine And.intro (of_eq_true PutAt_put) ?_|refine gT ?_|refine gF ?_|(refine gI (fun h=>?_) (fun h=>?_)<;>(try contradiction)<;>(try refine rd ?_)<;>(try simp -dsimp (disch:=omega) only[go_sem,h]))|refine Exists.intro _ (Exists.intro _ (And.intro (And.intro rfl rfl) ?_)) |fail
  refine W_midE (fun _ : Unit => [(1, .ip (eCfg c) 0), (5, .sl .nil [])]) (fun _ => σ) (fun _ => c.maps.all mapMayB = true ∧ unlikeB [] N = true) ?_ ?_
  · skip
    repeat' first |refine s1 ?_|refine gS ?_|refine wT rfl ?_|refine wF rfl ?_|refine wt rfl ?_|refine wf rfl ?_|(refine wC rfl (fun h=>?_) (fun h=>?_)<;>(try contradiction))|((first|refine rd ?_|refine ry [] c0 fun nu _ _=>?_);simp -dsimp (disch:=omega) only[go_sem])|refine e0 (by decide) ?_|(refine And.intro ?_ ?_;omega)|refine And.intro (of_eq_true PutAt_put) ?_|refine gT ?_|refine gF ?_|(refine gI (fun h=>?_) (fun h=>?_)<;>(try contradiction)<;>(try refine rd ?_)<;>(try simp -dsimp (disch:=omega) only[go_sem,h]))|refine Exists.intro _ (Exists.intro _ (And.intro (And.intro rfl rfl) ?_)) |fail
    refine W_loop_st (fun x : NmL => [(1, .ip (eCfg c) 0), (4, .sl x.k (nmE N x.i)), (5, .sl .nil []), (7, .int .i64 x.i)]) (fun x => x.τ) (fun x => x.i ≤ c.maps.length ∧ c.maps.all mapMayB = (c.maps.drop x.i).all mapMayB ∧ unlikeB [] N = unlikeB (N.take x.i) (N.drop x.i) ∧ σ.Sub x.τ ∧ TipOk σ x.τ x.k (nmE N x.i)) (fun x => c.maps.length - x.i) ⟨0, .nil, σ⟩ ⟨Nat.zero_le _, rfl, rfl, Store.Sub.refl _, .inl ⟨rfl, rfl⟩⟩ (Env.Sub_of_has (by simp [Env.Has, Env.get, eCfg, nmE_zero])) (Store.Sub.refl _) ?_
    rintro ⟨i, k, τ⟩ ⟨hi, ha, hd, hsub, htip⟩
    simp only at hi ha hd hsub htip ⊢
    by_cases hlt : i < c.maps.length
    · have ha2 := all_drop mapMayB hlt
      have hnm := nameAt (fun x : MapD => x.name) hlt
      rw [hN] at hnm
      have hd2 := unlikeB_drop N i _ hnm
      have hmem : c.maps.getD i default ∈ c.maps := mem_getD hlt
      have hget : (encL eMap c.maps).getD i .any = eMap (c.maps.getD i default) := getD_encL eMap hlt
      obtain ⟨n, hn⟩ : ∃ n, c.maps.getD i default = n := ⟨_, rfl⟩
      rw [hn] at ha2 hnm hd2 hmem hget
      have hnsz : n.name.size ≤ 9223372036854775807 := by
        have := (hS.maps n hmem).1.1; omega
      have c1 := rnameIn_spec n.name hnsz k (N.take i) (by rw [List.length_take]; omega)
      rw [show encL AV.str (N.take i) = nmE N i from rfl] at c1
      obtain ⟨b1, hb1⟩ : ∃ b, (!((N.take i).any fun t => decide (t = n.name)) && nameB n.name) = b := ⟨_, rfl⟩
      rw [hb1] at c1 hd2
      cases b1 with
      | false =>
        have hz : Rm = false := by rw [hM, hd, hd2]; simp
        rw [hz]
        repeat' first |refine s1 ?_|refine gS ?_|refine wT rfl ?_|refine wF rfl ?_|refine wt rfl ?_|refine wf rfl ?_|(refine wC rfl (fun h=>?_) (fun h=>?_)<;>(try contradiction))|((first|refine rd ?_|refine ry [] c0 fun nu _ _=>?_);simp -dsimp (disch:=omega) only[go_sem,eCfg, hget, eMap])|refine e0 (by decide) ?_|(refine And.intro ?_ ?_;omega)|refine And.intro (of_eq_true PutAt_put) ?_|refine gT ?_|refine gF ?_|(refine gI (fun h=>?_) (fun h=>?_)<;>(try contradiction)<;>(try refine rd ?_)<;>(try simp -dsimp (disch:=omega) only[go_sem,h,eCfg, hget, eMap]))|refine Exists.intro _ (Exists.intro _ (And.intro (And.intro rfl rfl) ?_)) |refine us (c1) ?_ |fail
        exact hsub
      | true =>
      rw [Bool.true_and] at hd2
      have hs := nmE_succ hnm
      have hlen := congrArg List.length hs
      have hok := nmE_ok N i
      have hlen0 : (nmE N i).length = i := nmE_length (by omega)
      by_cases hlong : 16 < n.l.length
      · have hz : Rm = false := by rw [hM, ha, ha2, mapMayB_eq, decide_eq_false (by omega)]; simp
        rw [hz]
        repeat' first |refine s1 ?_|refine gS ?_|refine wT rfl ?_|refine wF rfl ?_|refine wt rfl ?_|refine wf rfl ?_|(refine wC rfl (fun h=>?_) (fun h=>?_)<;>(try contradiction))|((first|refine rd ?_|refine ry [] c0 fun nu _ _=>?_);simp -dsimp (disch:=omega) only[go_sem,eCfg, hget, eMap])|refine e0 (by decide) ?_|(refine And.intro ?_ ?_;omega)|refine And.intro (of_eq_true PutAt_put) ?_|refine gT ?_|refine gF ?_|(refine gI (fun h=>?_) (fun h=>?_)<;>(try contradiction)<;>(try refine rd ?_)<;>(try simp -dsimp (disch:=omega) only[go_sem,h,eCfg, hget, eMap]))|refine Exists.intro _ (Exists.intro _ (And.intro (And.intro rfl rfl) ?_)) |refine us (c1) ?_ |fail
        exact hsub
      rcases htip with ⟨rfl, hnil⟩ | ⟨t, rfl, jt, hts⟩
      · rw [hnil] at c1 hs hlen ⊢
        repeat' first |refine s1 ?_|refine gS ?_|refine wT rfl ?_|refine wF rfl ?_|refine wt rfl ?_|refine wf rfl ?_|(refine wC rfl (fun h=>?_) (fun h=>?_)<;>(try contradiction))|((first|refine rd ?_|refine ry [] c0 fun nu _ _=>?_);simp -dsimp (disch:=omega) only[go_sem,eCfg, hget, eMap])|refine e0 (by decide) ?_|(refine And.intro ?_ ?_;omega)|refine And.intro (of_eq_true PutAt_put) ?_|refine gT ?_|refine gF ?_|(refine gI (fun h=>?_) (fun h=>?_)<;>(try contradiction)<;>(try refine rd ?_)<;>(try simp -dsimp (disch:=omega) only[go_sem,h,eCfg, hget, eMap]))|refine Exists.intro _ (Exists.intro _ (And.intro (And.intro rfl rfl) ?_)) |refine us (c1) ?_ |fail
        intro t ht
        have hts := none_of hsub ht
        have fin := keep_new (x := .tip 1 9 1) hsub hts
        obtain ⟨TT, hTT⟩ : ∃ TT, τ.put t (.tip 1 9 1) = TT := ⟨_, rfl⟩
        rw [hTT] at fin ⊢
        repeat' first |refine s1 ?_|refine gS ?_|refine wT rfl ?_|refine wF rfl ?_|refine wt rfl ?_|refine wf rfl ?_|(refine wC rfl (fun h=>?_) (fun h=>?_)<;>(try contradiction))|((first|refine rd ?_|refine ry [] c0 fun nu _ _=>?_);simp -dsimp (disch:=omega) only[go_sem])|refine e0 (by decide) ?_|(refine And.intro ?_ ?_;omega)|refine And.intro (of_eq_true PutAt_put) ?_|refine gT ?_|refine gF ?_|(refine gI (fun h=>?_) (fun h=>?_)<;>(try contradiction)<;>(try refine rd ?_)<;>(try simp -dsimp (disch:=omega) only[go_sem,h]))|refine Exists.intro _ (Exists.intro _ (And.intro (And.intro rfl rfl) ?_)) |fail
        refine W_loop_st (fun x : Nat × Int => [(1, .ip (eCfg c) 0), (4, .sl (.tip t) (nmE N (i + 1))), (5, .sl .nil []), (7, .int .i64 i), (8, .int .i64 x.2), (9, .int .i64 x.1)]) (fun _ => TT) (fun x => x.1 ≤ n.l.length ∧ 0 ≤ x.2 ∧ x.2 ≤ 65535 ∧ clsAll 0 n.l = clsAll x.2 (n.l.drop x.1)) (fun x => n.l.length - x.1) (0, 0) ⟨Nat.zero_le _, by omega, by omega, rfl⟩ (Env.Sub_of_has (by simp [Env.Has, Env.get, Env.putO, eCfg, ← hs])) (by first | exact Store.Sub.refl _ | (rw [← hTT]; exact Store.Sub.refl _)) ?_
        rintro ⟨j, L⟩ ⟨hj, hL0, hL1, hca⟩
        simp only at hj hL0 hL1 hca
        by_cases hjl : j < n.l.length
        · have hc2 := clsAll_drop L n.l j hjl
          have hmj : n.l.getD j default ∈ n.l := mem_getD hjl
          have hgj : (encL eCls n.l).getD j .any = eCls (n.l.getD j default) := getD_encL eCls hjl
          obtain ⟨y, hy⟩ : ∃ y, n.l.getD j default = y := ⟨_, rfl⟩
          rw [hy] at hc2 hmj hgj
          obtain ⟨y1, y2, y3⟩ := (hf.map n hmem).cls y hmj
          have c3 := rclause_spec y y1 y2 y3 L hL0 hL1
          obtain ⟨b3, hb3⟩ : ∃ b, clsMay L y = b := ⟨_, rfl⟩
          rw [hb3] at c3 hc2
          cases b3 with
          | false =>
            have hz : Rm = false := by rw [hM, ha, ha2, mapMayB_eq, hca, hc2]; simp
            rw [hz]
            repeat' first |refine s1 ?_|refine gS ?_|refine wT rfl ?_|refine wF rfl ?_|refine wt rfl ?_|refine wf rfl ?_|(refine wC rfl (fun h=>?_) (fun h=>?_)<;>(try contradiction))|((first|refine rd ?_|refine ry [] c0 fun nu _ _=>?_);simp -dsimp (disch:=omega) only[go_sem,eCfg, hget, eMap, hgj])|refine e0 (by decide) ?_|(refine And.intro ?_ ?_;omega)|refine And.intro (of_eq_true PutAt_put) ?_|refine gT ?_|refine gF ?_|(refine gI (fun h=>?_) (fun h=>?_)<;>(try contradiction)<;>(try refine rd ?_)<;>(try simp -dsimp (disch:=omega) only[go_sem,h,eCfg, hget, eMap, hgj]))|refine Exists.intro _ (Exists.intro _ (And.intro (And.intro rfl rfl) ?_)) |refine us (c3) ?_ |fail
            exact fin
          | true =>
            have hy2 := clsMay_n hb3
            repeat' first |refine s1 ?_|refine gS ?_|refine wT rfl ?_|refine wF rfl ?_|refine wt rfl ?_|refine wf rfl ?_|(refine wC rfl (fun h=>?_) (fun h=>?_)<;>(try contradiction))|((first|refine rd ?_|refine ry [] c0 fun nu _ _=>?_);simp -dsimp (disch:=omega) only[go_sem,eCfg, hget, eMap, hgj, eCls])|refine e0 (by decide) ?_|(refine And.intro ?_ ?_;omega)|refine And.intro (of_eq_true PutAt_put) ?_|refine gT ?_|refine gF ?_|(refine gI (fun h=>?_) (fun h=>?_)<;>(try contradiction)<;>(try refine rd ?_)<;>(try simp -dsimp (disch:=omega) only[go_sem,h,eCfg, hget, eMap, hgj, eCls]))|refine Exists.intro _ (Exists.intro _ (And.intro (And.intro rfl rfl) ?_)) |refine us (c3) ?_ |fail
            exact ⟨(j + 1, y.n), by simp only; omega, ⟨by simp only; omega, by simp only; omega, by simp only; omega, by rw [hca, hc2, Bool.true_and]⟩, Env.Sub_of_has (by simp [Env.Has, Env.get, Env.putO, eCfg, eCls]), Store.Sub.refl _⟩
        · have hj' : j = n.l.length := by omega
          subst hj'
          have hmm : mapMayB n = true := by rw [mapMayB_eq, hca, List.drop_length, decide_eq_true (by omega)]; rfl
          rw [hmm, Bool.true_and] at ha2
          repeat' first |refine s1 ?_|refine gS ?_|refine wT rfl ?_|refine wF rfl ?_|refine wt rfl ?_|refine wf rfl ?_|(refine wC rfl (fun h=>?_) (fun h=>?_)<;>(try contradiction))|((first|refine rd ?_|refine ry [] c0 fun nu _ _=>?_);simp -dsimp (disch:=omega) only[go_sem,eCfg, hget, eMap])|refine e0 (by decide) ?_|(refine And.intro ?_ ?_;omega)|refine And.intro (of_eq_true PutAt_put) ?_|refine gT ?_|refine gF ?_|(refine gI (fun h=>?_) (fun h=>?_)<;>(try contradiction)<;>(try refine rd ?_)<;>(try simp -dsimp (disch:=omega) only[go_sem,h,eCfg, hget, eMap]))|refine Exists.intro _ (Exists.intro _ (And.intro (And.intro rfl rfl) ?_)) |fail
          exact ⟨⟨i + 1, .tip t, TT⟩, by simp only; omega, ⟨hlt, by rw [ha, ha2], by rw [hd, hd2], fin, .inr ⟨t, rfl, by rw [← hTT]; rw [← hlen]; exact put_same _ _ _, hts⟩⟩, Env.Sub_of_has (by simp [Env.Has, Env.get, Env.putO, eCfg]), Store.Sub.refl _⟩
      · have fin := keep_new (x := .tip (nmE N i ++ [AV.str n.name]).length 9 1) hsub hts
        obtain ⟨TT, hTT⟩ : ∃ TT, τ.put t (.tip (nmE N i ++ [AV.str n.name]).length 9 1) = TT := ⟨_, rfl⟩
        rw [hTT] at fin
        repeat' first |refine s1 ?_|refine gS ?_|refine wT rfl ?_|refine wF rfl ?_|refine wt rfl ?_|refine wf rfl ?_|(refine wC rfl (fun h=>?_) (fun h=>?_)<;>(try contradiction))|((first|refine rd ?_|refine ry [] c0 fun nu _ _=>?_);simp -dsimp (disch:=omega) only[go_sem,eCfg, hget, eMap, jt, hok, hTT])|refine e0 (by decide) ?_|(refine And.intro ?_ ?_;omega)|refine And.intro (of_eq_true PutAt_put) ?_|refine gT ?_|refine gF ?_|(refine gI (fun h=>?_) (fun h=>?_)<;>(try contradiction)<;>(try refine rd ?_)<;>(try simp -dsimp (disch:=omega) only[go_sem,h,eCfg, hget, eMap, jt, hok, hTT]))|refine Exists.intro _ (Exists.intro _ (And.intro (And.intro rfl rfl) ?_)) |refine us (c1) ?_ |fail
        refine W_loop_st (fun x : Nat × Int => [(1, .ip (eCfg c) 0), (4, .sl (.tip t) (nmE N (i + 1))), (5, .sl .nil []), (7, .int .i64 i), (8, .int .i64 x.2), (9, .int .i64 x.1)]) (fun _ => TT) (fun x => x.1 ≤ n.l.length ∧ 0 ≤ x.2 ∧ x.2 ≤ 65535 ∧ clsAll 0 n.l = clsAll x.2 (n.l.drop x.1)) (fun x => n.l.length - x.1) (0, 0) ⟨Nat.zero_le _, by omega, by omega, rfl⟩ (Env.Sub_of_has (by simp [Env.Has, Env.get, Env.putO, eCfg, ← hs])) (by first | exact Store.Sub.refl _ | (rw [← hTT]; exact Store.Sub.refl _)) ?_
        rintro ⟨j, L⟩ ⟨hj, hL0, hL1, hca⟩
        simp only at hj hL0 hL1 hca
        by_cases hjl : j < n.l.length
        · have hc2 := clsAll_drop L n.l j hjl
          have hmj : n.l.getD j default ∈ n.l := mem_getD hjl
          have hgj : (encL eCls n.l).getD j .any = eCls (n.l.getD j default) := getD_encL eCls hjl
          obtain ⟨y, hy⟩ : ∃ y, n.l.getD j default = y := ⟨_, rfl⟩
          rw [hy] at hc2 hmj hgj
          obtain ⟨y1, y2, y3⟩ := (hf.map n hmem).cls y hmj
          have c3 := rclause_spec y y1 y2 y3 L hL0 hL1
          obtain ⟨b3, hb3⟩ : ∃ b, clsMay L y = b := ⟨_, rfl⟩
          rw [hb3] at c3 hc2
          cases b3 with
          | false =>
            have hz : Rm = false := by rw [hM, ha, ha2, mapMayB_eq, hca, hc2]; simp
            rw [hz]
            repeat' first |refine s1 ?_|refine gS ?_|refine wT rfl ?_|refine wF rfl ?_|refine wt rfl ?_|refine wf rfl ?_|(refine wC rfl (fun h=>?_) (fun h=>?_)<;>(try contradiction))|((first|refine rd ?_|refine ry [] c0 fun nu _ _=>?_);simp -dsimp (disch:=omega) only[go_sem,eCfg, hget, eMap, hgj])|refine e0 (by decide) ?_|(refine And.intro ?_ ?_;omega)|refine And.intro (of_eq_true PutAt_put) ?_|refine gT ?_|refine gF ?_|(refine gI (fun h=>?_) (fun h=>?_)<;>(try contradiction)<;>(try refine rd ?_)<;>(try simp -dsimp (disch:=omega) only[go_sem,h,eCfg, hget, eMap, hgj]))|refine Exists.intro _ (Exists.intro _ (And.intro (And.intro rfl rfl) ?_)) |refine us (c3) ?_ |fail
            exact fin
          | true =>
            have hy2 := clsMay_n hb3
            repeat' first |refine s1 ?_|refine gS ?_|refine wT rfl ?_|refine wF rfl ?_|refine wt rfl ?_|refine wf rfl ?_|(refine wC rfl (fun h=>?_) (fun h=>?_)<;>(try contradiction))|((first|refine rd ?_|refine ry [] c0 fun nu _ _=>?_);simp -dsimp (disch:=omega) only[go_sem,eCfg, hget, eMap, hgj, eCls])|refine e0 (by decide) ?_|(refine And.intro ?_ ?_;omega)|refine And.intro (of_eq_true PutAt_put) ?_|refine gT ?_|refine gF ?_|(refine gI (fun h=>?_) (fun h=>?_)<;>(try contradiction)<;>(try refine rd ?_)<;>(try simp -dsimp (disch:=omega) only[go_sem,h,eCfg, hget, eMap, hgj, eCls]))|refine Exists.intro _ (Exists.intro _ (And.intro (And.intro rfl rfl) ?_)) |refine us (c3) ?_ |fail
            exact ⟨(j + 1, y.n), by simp only; omega, ⟨by simp only; omega, by simp only; omega, by simp only; omega, by rw [hca, hc2, Bool.true_and]⟩, Env.Sub_of_has (by simp [Env.Has, Env.get, Env.putO, eCfg, eCls]), Store.Sub.refl _⟩
        · have hj' : j = n.l.length := by omega
          subst hj'
          have hmm : mapMayB n = true := by rw [mapMayB_eq, hca, List.drop_length, decide_eq_true (by omega)]; rfl
          rw [hmm, Bool.true_and] at ha2
          repeat' first |refine s1 ?_|refine gS ?_|refine wT rfl ?_|refine wF rfl ?_|refine wt rfl ?_|refine wf rfl ?_|(refine wC rfl (fun h=>?_) (fun h=>?_)<;>(try contradiction))|((first|refine rd ?_|refine ry [] c0 fun nu _ _=>?_);simp -dsimp (disch:=omega) only[go_sem,eCfg, hget, eMap])|refine e0 (by decide) ?_|(refine And.intro ?_ ?_;omega)|refine And.intro (of_eq_true PutAt_put) ?_|refine gT ?_|refine gF ?_|(refine gI (fun h=>?_) (fun h=>?_)<;>(try contradiction)<;>(try refine rd ?_)<;>(try simp -dsimp (disch:=omega) only[go_sem,h,eCfg, hget, eMap]))|refine Exists.intro _ (Exists.intro _ (And.intro (And.intro rfl rfl) ?_)) |fail
          exact ⟨⟨i + 1, .tip t, TT⟩, by simp only; omega, ⟨hlt, by rw [ha, ha2], by rw [hd, hd2], fin, .inr ⟨t, rfl, by rw [← hTT]; rw [hlen]; exact put_same _ _ _, hts⟩⟩, Env.Sub_of_has (by simp [Env.Has, Env.get, Env.putO, eCfg]), Store.Sub.refl _⟩
    · have hi' : i = c.maps.length := by omega
      subst hi'
      repeat' first |refine s1 ?_|refine gS ?_|refine wT rfl ?_|refine wF rfl ?_|refine wt rfl ?_|refine wf rfl ?_|(refine wC rfl (fun h=>?_) (fun h=>?_)<;>(try contradiction))|((first|refine rd ?_|refine ry [] c0 fun nu _ _=>?_);simp -dsimp (disch:=omega) only[go_sem,eCfg])|refine e0 (by decide) ?_|(refine And.intro ?_ ?_;omega)|refine And.intro (of_eq_true PutAt_put) ?_|refine gT ?_|refine gF ?_|(refine gI (fun h=>?_) (fun h=>?_)<;>(try contradiction)<;>(try refine rd ?_)<;>(try simp -dsimp (disch:=omega) only[go_sem,h,eCfg]))|refine Exists.intro _ (Exists.intro _ (And.intro (And.intro rfl rfl) ?_)) |fail
      exact ⟨(), ⟨by rw [ha, List.drop_length]; rfl, by rw [hd, ← hNl, List.drop_length]; rfl⟩, Env.Sub_of_has (by simp [Env.Has, Env.get, Env.putO, eCfg]), hsub⟩
  rintro _ ⟨n1, n2⟩
  rw [n1, n2] at hM
  simp only [Bool.true_and, Bool.and_true] at hM
  clear hN hNl n1 n2 N
  obtain ⟨N, hN⟩ : ∃ N, List.map (fun x : Rtr => x.name) c.routers = N := ⟨_, rfl⟩
  have hNl : N.length = c.routers.length := by rw [← hN, List.length_map]
  rw [hN] at hM
  repeat' first |((fail_if_success (first|show W _ _ (Code.seq (Code.region 23 _ _) _) _ _ _|show W _ _ (Code.seq (Code.seq (Code.region 23 _ _) _) _) _ _ _));refine s1 ?_)|refine gS ?_|refine wT rfl ?_|refine wF rfl ?_|refine wt rfl ?_|refine wf rfl ?_|(refine wC rfl (fun h=>?_) (fun h=>?_)<;>(try contradiction))|((fail_if_success (first|show W _ _ (Code.region 23 _ _) _ _ _));(first|refine rd ?_|refine ry [] c0 fun nu _ _=>?_);simp -dsimp (disch:=omega) only[go_sem])|refine e0 (by decide) ?_|(refine And.intro ?_ ?_;omega)|refine And.intro (of_eq_true PutAt_put) ?_|refine gT ?_|refine gF ?_|(refine gI (fun h=>?_) (fun h=>?_)<;>(try contradiction)<;>(try refine rd ?_)<;>(try simp -dsimp (disch:=omega) only[go_sem,h]))|refine Exists.intro _ (Exists.intro _ (And.intro (And.intro rfl rfl) ?_)) |fail
  refine W_midE (fun _ : Unit => [(1, .ip (eCfg c) 0)]) (fun _ => σ) (fun _ => c.routers.all rtrMay = true ∧ unlikeB [] N = true) ?_ ?_
  · skip
    repeat' first |refine s1 ?_|refine gS ?_|refine wT rfl ?_|refine wF rfl ?_|refine wt rfl ?_|refine wf rfl ?_|(refine wC rfl (fun h=>?_) (fun h=>?_)<;>(try contradiction))|((first|refine rd ?_|refine ry [] c0 fun nu _ _=>?_);simp -dsimp (disch:=omega) only[go_sem])|refine e0 (by decide) ?_|(refine And.intro ?_ ?_;omega)|refine And.intro (of_eq_true PutAt_put) ?_|refine gT ?_|refine gF ?_|(refine gI (fun h=>?_) (fun h=>?_)<;>(try contradiction)<;>(try refine rd ?_)<;>(try simp -dsimp (disch:=omega) only[go_sem,h]))|refine Exists.intro _ (Exists.intro _ (And.intro (And.intro rfl rfl) ?_)) |fail
    refine W_loop_st (fun x : NmL => [(1, .ip (eCfg c) 0), (5, .sl x.k (nmE N x.i)), (10, .int .i64 x.i)]) (fun x => x.τ) (fun x => x.i ≤ c.routers.length ∧ c.routers.all rtrMay = (c.routers.drop x.i).all rtrMay ∧ unlikeB [] N = unlikeB (N.take x.i) (N.drop x.i) ∧ σ.Sub x.τ ∧ TipOk σ x.τ x.k (nmE N x.i)) (fun x => c.routers.length - x.i) ⟨0, .nil, σ⟩ ⟨Nat.zero_le _, rfl, rfl, Store.Sub.refl _, .inl ⟨rfl, rfl⟩⟩ (Env.Sub_of_has (by simp [Env.Has, Env.get, eCfg, nmE_zero])) (Store.Sub.refl _) ?_
    rintro ⟨i, k, τ⟩ ⟨hi, ha, hd, hsub, htip⟩
    simp only at hi ha hd hsub htip ⊢
    by_cases hlt : i < c.routers.length
    · have ha2 := all_drop rtrMay hlt
      have hnm := nameAt (fun x : Rtr => x.name) hlt
      rw [hN] at hnm
      have hd2 := unlikeB_drop N i _ hnm
      have hmem : c.routers.getD i default ∈ c.routers := mem_getD hlt
      have hget : (encL eRtr c.routers).getD i .any = eRtr (c.routers.getD i default) := getD_encL eRtr hlt
      obtain ⟨n, hn⟩ : ∃ n, c.routers.getD i default = n := ⟨_, rfl⟩
      rw [hn] at ha2 hnm hd2 hmem hget
      have hnsz : n.name.size ≤ 9223372036854775807 := by
        have := (hS.routers n hmem).1; omega
      have c1 := rnameIn_spec n.name hnsz k (N.take i) (by rw [List.length_take]; omega)
      rw [show encL AV.str (N.take i) = nmE N i from rfl] at c1
      obtain ⟨b1, hb1⟩ : ∃ b, (!((N.take i).any fun t => decide (t = n.name)) && nameB n.name) = b := ⟨_, rfl⟩
      rw [hb1] at c1 hd2
      cases b1 with
      | false =>
        have hz : Rm = false := by rw [hM, hd, hd2]; simp
        rw [hz]
        repeat' first |refine s1 ?_|refine gS ?_|refine wT rfl ?_|refine wF rfl ?_|refine wt rfl ?_|refine wf rfl ?_|(refine wC rfl (fun h=>?_) (fun h=>?_)<;>(try contradiction))|((first|refine rd ?_|refine ry [] c0 fun nu _ _=>?_);simp -dsimp (disch:=omega) only[go_sem,eCfg, hget, eRtr])|refine e0 (by decide) ?_|(refine And.intro ?_ ?_;omega)|refine And.intro (of_eq_true PutAt_put) ?_|refine gT ?_|refine gF ?_|(refine gI (fun h=>?_) (fun h=>?_)<;>(try contradiction)<;>(try refine rd ?_)<;>(try simp -dsimp (disch:=omega) only[go_sem,h,eCfg, hget, eRtr]))|refine Exists.intro _ (Exists.intro _ (And.intro (And.intro rfl rfl) ?_)) |refine us (c1) ?_ |fail
        exact hsub
      | true =>
      rw [Bool.true_and] at hd2
      have hs := nmE_succ hnm
      have hlen := congrArg List.length hs
      have hok := nmE_ok N i
      have hlen0 : (nmE N i).length = i := nmE_length (by omega)
      have hnr := hS.routers n hmem
      obtain ⟨r1, r2, r3, r4⟩ := hnr
      have c2 := rrouter_spec n (hf.rtr n hmem) (by omega) (hW.nets n hmem)
      obtain ⟨b2, hb2⟩ : ∃ b, rtrMay n = b := ⟨_, rfl⟩
      rw [hb2] at c2
      cases b2 with
      | false =>
        have hz : Rm = false := by rw [hM, ha, ha2, hb2]; simp
        rw [hz]
        repeat' first |refine s1 ?_|refine gS ?_|refine wT rfl ?_|refine wF rfl ?_|refine wt rfl ?_|refine wf rfl ?_|(refine wC rfl (fun h=>?_) (fun h=>?_)<;>(try contradiction))|((first|refine rd ?_|refine ry [] c0 fun nu _ _=>?_);simp -dsimp (disch:=omega) only[go_sem,eCfg, hget, eRtr])|refine e0 (by decide) ?_|(refine And.intro ?_ ?_;omega)|refine And.intro (of_eq_true PutAt_put) ?_|refine gT ?_|refine gF ?_|(refine gI (fun h=>?_) (fun h=>?_)<;>(try contradiction)<;>(try refine rd ?_)<;>(try simp -dsimp (disch:=omega) only[go_sem,h,eCfg, hget, eRtr]))|refine Exists.intro _ (Exists.intro _ (And.intro (And.intro rfl rfl) ?_)) |refine us (c1) ?_ |refine us (c2) ?_ |fail
        all_goals exact hsub
      | true =>
      rw [hb2, Bool.true_and] at ha2
      rcases htip with ⟨rfl, hnil⟩ | ⟨t, rfl, jt, hts⟩
      · rw [hnil] at c1 hs hlen ⊢
        repeat' first |refine s1 ?_|refine gS ?_|refine wT rfl ?_|refine wF rfl ?_|refine wt rfl ?_|refine wf rfl ?_|(refine wC rfl (fun h=>?_) (fun h=>?_)<;>(try contradiction))|((first|refine rd ?_|refine ry [] c0 fun nu _ _=>?_);simp -dsimp (disch:=omega) only[go_sem,eCfg, hget, eRtr])|refine e0 (by decide) ?_|(refine And.intro ?_ ?_;omega)|refine And.intro (of_eq_true PutAt_put) ?_|refine gT ?_|refine gF ?_|(refine gI (fun h=>?_) (fun h=>?_)<;>(try contradiction)<;>(try refine rd ?_)<;>(try simp -dsimp (disch:=omega) only[go_sem,h,eCfg, hget, eRtr]))|refine Exists.intro _ (Exists.intro _ (And.intro (And.intro rfl rfl) ?_)) |refine us (c1) ?_ |refine us (c2) ?_ |fail
        intro t ht
        repeat' first |refine s1 ?_|refine gS ?_|refine wT rfl ?_|refine wF rfl ?_|refine wt rfl ?_|refine wf rfl ?_|(refine wC rfl (fun h=>?_) (fun h=>?_)<;>(try contradiction))|((first|refine rd ?_|refine ry [] c0 fun nu _ _=>?_);simp -dsimp (disch:=omega) only[go_sem])|refine e0 (by decide) ?_|(refine And.intro ?_ ?_;omega)|refine And.intro (of_eq_true PutAt_put) ?_|refine gT ?_|refine gF ?_|(refine gI (fun h=>?_) (fun h=>?_)<;>(try contradiction)<;>(try refine rd ?_)<;>(try simp -dsimp (disch:=omega) only[go_sem,h]))|refine Exists.intro _ (Exists.intro _ (And.intro (And.intro rfl rfl) ?_)) |fail
        refine ⟨⟨i + 1, .tip t, τ.put t (.tip 1 9 1)⟩, by simp only; omega, ⟨hlt, by rw [ha, ha2], by rw [hd, hd2], keep_new hsub (none_of hsub ht), .inr ⟨t, rfl, by rw [← hlen]; exact put_same _ _ _, none_of hsub ht⟩⟩, Env.Sub_of_has (by simp [Env.Has, Env.get, Env.putO, eCfg, ← hs]), Store.Sub.refl _⟩
      · skip
        repeat' first |refine s1 ?_|refine gS ?_|refine wT rfl ?_|refine wF rfl ?_|refine wt rfl ?_|refine wf rfl ?_|(refine wC rfl (fun h=>?_) (fun h=>?_)<;>(try contradiction))|((first|refine rd ?_|refine ry [] c0 fun nu _ _=>?_);simp -dsimp (disch:=omega) only[go_sem,eCfg, hget, eRtr, jt, hok])|refine e0 (by decide) ?_|(refine And.intro ?_ ?_;omega)|refine And.intro (of_eq_true PutAt_put) ?_|refine gT ?_|refine gF ?_|(refine gI (fun h=>?_) (fun h=>?_)<;>(try contradiction)<;>(try refine rd ?_)<;>(try simp -dsimp (disch:=omega) only[go_sem,h,eCfg, hget, eRtr, jt, hok]))|refine Exists.intro _ (Exists.intro _ (And.intro (And.intro rfl rfl) ?_)) |refine us (c1) ?_ |refine us (c2) ?_ |fail
        refine ⟨⟨i + 1, .tip t, τ.put t (.tip (nmE N (i + 1)).length 9 1)⟩, by simp only; omega, ⟨hlt, by rw [ha, ha2], by rw [hd, hd2], keep_new hsub hts, .inr ⟨t, rfl, put_same _ _ _, hts⟩⟩, Env.Sub_of_has (by simp [Env.Has, Env.get, Env.putO, eCfg, ← hs]), by rw [← hlen]; simp only [List.length_append, List.length_cons, List.length_nil]; exact Store.Sub.refl _⟩
    · have hi' : i = c.routers.length := by omega
      subst hi'
      repeat' first |refine s1 ?_|refine gS ?_|refine wT rfl ?_|refine wF rfl ?_|refine wt rfl ?_|refine wf rfl ?_|(refine wC rfl (fun h=>?_) (fun h=>?_)<;>(try contradiction))|((first|refine rd ?_|refine ry [] c0 fun nu _ _=>?_);simp -dsimp (disch:=omega) only[go_sem,eCfg])|refine e0 (by decide) ?_|(refine And.intro ?_ ?_;omega)|refine And.intro (of_eq_true PutAt_put) ?_|refine gT ?_|refine gF ?_|(refine gI (fun h=>?_) (fun h=>?_)<;>(try contradiction)<;>(try refine rd ?_)<;>(try simp -dsimp (disch:=omega) only[go_sem,h,eCfg]))|refine Exists.intro _ (Exists.intro _ (And.intro (And.intro rfl rfl) ?_)) |fail
      exact ⟨(), ⟨by rw [ha, List.drop_length]; rfl, by rw [hd, ← hNl, List.drop_length]; rfl⟩, Env.Sub_of_has (by simp [Env.Has, Env.get, Env.putO, eCfg]), hsub⟩
  rintro _ ⟨n1, n2⟩
  rw [n1, n2] at hM
  simp only [Bool.true_and, Bool.and_true] at hM
  clear hN hNl n1 n2 N
  rw [hM]
  repeat' first |refine s1 ?_|refine gS ?_|refine wT rfl ?_|refine wF rfl ?_|refine wt rfl ?_|refine wf rfl ?_|(refine wC rfl (fun h=>?_) (fun h=>?_)<;>(try contradiction))|((first|refine rd ?_|refine ry [] c0 fun nu _ _=>?_);simp -dsimp (disch:=omega) only[go_sem])|refine e0 (by decide) ?_|(refine And.intro ?_ ?_;omega)|refine And.intro (of_eq_true PutAt_put) ?_|refine gT ?_|refine gF ?_|(refine gI (fun h=>?_) (fun h=>?_)<;>(try contradiction)<;>(try refine rd ?_)<;>(try simp -dsimp (disch:=omega) only[go_sem,h]))|refine Exists.intro _ (Exists.intro _ (And.intro (And.intro rfl rfl) ?_)) |fail
end Go.Proofs.YtaealcimocpnnaaGreat
namespace Go.Proofs.YtaealcimocpnnaaGreat
open Go.Kern Go.RowKit
theorem t256 : ((256 : Int) = 0) = False := eq_false (by decide)
theorem t65536 : ((65536 : Int) = 0) = False := eq_false (by decide)
theorem t16m : ((16777216 : Int) = 0) = False := eq_false (by decide)
theorem joinT_snoc (sep : ByteArray) : ∀ (l : List ByteArray) (y : ByteArray), joinT sep (l ++ [y]) = joinT sep l ++ (sep ++ y)
  | [], y => by rw [List.nil_append, joinT, joinT, joinT, emA, eA]
  | x :: r, y => by rw [List.cons_append, joinT, joinT, joinT_snoc sep r y]; simp only [asA]
theorem joinOf_snoc (sep : ByteArray) (x : ByteArray) (l : List ByteArray) (y : ByteArray) : joinOf sep ((x :: l) ++ [y]) = joinOf sep (x :: l) ++ (sep ++ y) := by
  rw [List.cons_append, joinOf, joinOf, joinT_snoc, asA]
theorem joinOf_step {α : Type} [Inhabited α] (sep : ByteArray) (f : α → ByteArray) {l : List α} {i : Nat} (h : i < l.length) : joinOf sep ((l.take (i + 1)).map f) = (if i = 0 then f (l.getD i default) else joinOf sep ((l.take i).map f) ++ (sep ++ f (l.getD i default))) := by
  have e : (l.take (i + 1)).map f = (l.take i).map f ++ [f (l.getD i default)] := by
    rw [List.take_succ_eq_append_getElem h, List.map_append]
    simp [List.getD_eq_getElem?_getD, h]
  rw [e]
  by_cases h0 : i = 0
  · subst h0
    rw [if_pos rfl]
    simp only [List.take_zero, List.map_nil, List.nil_append, joinOf, joinT, emA]
  · rw [if_neg h0]
    cases hq : (l.take i).map f with
    | nil =>
      have := congrArg List.length hq
      rw [List.length_map, List.length_take, List.length_nil] at this
      omega
    | cons x r => exact joinOf_snoc sep x r _
set_option maxRecDepth 100000
set_option maxHeartbeats 4000000
attribute [local irreducible] PCall W
theorem rcomText_spec (c : Com) : Pure Tryz.prog 145 [eCom c] (.str (comText c)) := by
  intro σ
  have h1 := rcomMay_spec c
  by_cases hm : comMay c = true
  · have hb := (comMay_iff c).1 hm
    have d1 := rnum_spec c.asn (by omega) (by omega)
    have d2 := rnum_spec c.n (by omega) (by omega)
    have z1 := digB_size c.asn (by omega)
    have z2 := digB_size c.n (by omega)
    have d0 := rnum_spec 65535 (by decide) (by decide)
    have z0 := digB_size 65535 (by decide)
    rw [hm] at h1
    refine PCall_q [.tmp 2] 38 Tryz.func145 (by rfl) rfl rfl rfl rfl ?_
    repeat' first |refine s1 ?_|refine gS ?_|refine wT rfl ?_|refine wF rfl ?_|refine wt rfl ?_|refine wf rfl ?_|(refine wC rfl (fun h=>?_) (fun h=>?_)<;>(try contradiction))|((first|refine rd ?_|refine ry [] c0 fun nu _ _=>?_);simp -dsimp (disch:=omega) only[go_sem,szA, sz1, c0])|refine e0 (by decide) ?_|(refine And.intro ?_ ?_;omega)|refine And.intro (of_eq_true PutAt_put) ?_|refine gT ?_|refine gF ?_|(refine gI (fun h=>?_) (fun h=>?_)<;>(try contradiction)<;>(try refine rd ?_)<;>(try simp -dsimp (disch:=omega) only[go_sem,h,szA, sz1, c0]))|refine Exists.intro _ (Exists.intro _ (And.intro (And.intro rfl rfl) ?_)) |refine us (h1) ?_ |refine us (d1) ?_ |refine us (d2) ?_ |refine us (d0) ?_ |fail
    all_goals (simp_all [comText])
    repeat' split
    all_goals first | rfl | (exfalso; omega)
  · have hm' : comMay c = false := by simpa using hm
    rw [hm'] at h1
    rw [comText, if_neg hm]
    refine PCall_q [.tmp 2] 38 Tryz.func145 (by rfl) rfl rfl rfl rfl ?_
    repeat' first |refine s1 ?_|refine gS ?_|refine wT rfl ?_|refine wF rfl ?_|refine wt rfl ?_|refine wf rfl ?_|(refine wC rfl (fun h=>?_) (fun h=>?_)<;>(try contradiction))|((first|refine rd ?_|refine ry [] c0 fun nu _ _=>?_);simp -dsimp (disch:=omega) only[go_sem])|refine e0 (by decide) ?_|(refine And.intro ?_ ?_;omega)|refine And.intro (of_eq_true PutAt_put) ?_|refine gT ?_|refine gF ?_|(refine gI (fun h=>?_) (fun h=>?_)<;>(try contradiction)<;>(try refine rd ?_)<;>(try simp -dsimp (disch:=omega) only[go_sem,h]))|refine Exists.intro _ (Exists.intro _ (And.intro (And.intro rfl rfl) ?_)) |refine us (h1) ?_ |fail
theorem rpathText_spec (k : SK) (l : List Int) (hm : eachP 16 (fun n => withinZ n 1 65535) l = true) : Pure Tryz.prog 98 [.sl k (ints l)] (.str (joinOf blk (l.map digB))) := by
  intro σ
  have h2 := eachP_iff.1 hm
  have h1 := rpath_spec k l (by omega)
  have hbl : (⟨#[32]⟩ : ByteArray) = blk := rfl
  obtain ⟨J, hJ⟩ : ∃ J : Nat → ByteArray, ∀ i, J i = joinOf blk ((l.take i).map digB) := ⟨_, fun _ => rfl⟩
  rw [hm] at h1
  have hJl : joinOf blk (l.map digB) = J l.length := by rw [hJ, List.take_length]
  have hJ0 : J 0 = ⟨#[]⟩ := by rw [hJ]; rfl
  rw [hJl]
  refine PCall_q [.tmp 2] 27 Tryz.func98 (by rfl) rfl rfl rfl rfl ?_
  repeat' first |refine s1 ?_|refine gS ?_|refine wT rfl ?_|refine wF rfl ?_|refine wt rfl ?_|refine wf rfl ?_|(refine wC rfl (fun h=>?_) (fun h=>?_)<;>(try contradiction))|((first|refine rd ?_|refine ry [] c0 fun nu _ _=>?_);simp -dsimp (disch:=omega) only[go_sem])|refine e0 (by decide) ?_|(refine And.intro ?_ ?_;omega)|refine And.intro (of_eq_true PutAt_put) ?_|refine gT ?_|refine gF ?_|(refine gI (fun h=>?_) (fun h=>?_)<;>(try contradiction)<;>(try refine rd ?_)<;>(try simp -dsimp (disch:=omega) only[go_sem,h]))|refine Exists.intro _ (Exists.intro _ (And.intro (And.intro rfl rfl) ?_)) |refine us (h1) ?_ |fail
  refine W_loop_st (fun i : Nat => [(0, .sl k (ints l)), (3, .str (J i)), (4, .int .i64 i)]) (fun _ => σ) (fun i => i ≤ l.length) (fun i => l.length - i) 0 (Nat.zero_le _) (Env.Sub_of_has (by simp [Env.Has, Env.get, hJ0])) (Store.Sub.refl _) ?_
  intro i hi
  by_cases hlt : i < l.length
  · have hn := h2.2 _ (mem_getD hlt)
    have hn2 := within_iff.1 hn
    have hc := rnum_spec (l.getD i default) (by omega) (by omega)
    have hz := digB_size (l.getD i default) (by omega)
    have hj := joinOf_size 20 blk ((l.take i).map digB) (fun x hx => by
      obtain ⟨y, hy, rfl⟩ := List.mem_map.1 hx
      exact digB_size y (by have := within_iff.1 (h2.2 y (List.mem_of_mem_take hy)); omega))
    have hlm : ((l.take i).map digB).length ≤ 16 := by rw [List.length_map, List.length_take]; omega
    have hj2 : ((l.take i).map digB).length * (20 + blk.size) ≤ 16 * (20 + blk.size) := Nat.mul_le_mul_right _ hlm
    rw [show blk.size = 1 from rfl] at hj hj2
    rw [← hJ] at hj
    have hs := joinOf_step blk digB hlt
    rw [← hJ, ← hJ] at hs
    by_cases h0 : i = 0
    · subst h0
      rw [if_pos rfl] at hs
      rw [hJ0]
      repeat' first |refine s1 ?_|refine gS ?_|refine wT rfl ?_|refine wF rfl ?_|refine wt rfl ?_|refine wf rfl ?_|(refine wC rfl (fun h=>?_) (fun h=>?_)<;>(try contradiction))|((first|refine rd ?_|refine ry [] c0 fun nu _ _=>?_);simp -dsimp (disch:=omega) only[go_sem,szE, eA])|refine e0 (by decide) ?_|(refine And.intro ?_ ?_;omega)|refine And.intro (of_eq_true PutAt_put) ?_|refine gT ?_|refine gF ?_|(refine gI (fun h=>?_) (fun h=>?_)<;>(try contradiction)<;>(try refine rd ?_)<;>(try simp -dsimp (disch:=omega) only[go_sem,h,szE, eA]))|refine Exists.intro _ (Exists.intro _ (And.intro (And.intro rfl rfl) ?_)) |refine us (hc) ?_ |fail
      exact ⟨1, by omega, (by omega), Env.Sub_of_has (by simp only [Nat.zero_add] at hs; simp [Env.Has, Env.get, hs]), Store.Sub.refl _⟩
    · rw [if_neg h0] at hs
      repeat' first |refine s1 ?_|refine gS ?_|refine wT rfl ?_|refine wF rfl ?_|refine wt rfl ?_|refine wf rfl ?_|(refine wC rfl (fun h=>?_) (fun h=>?_)<;>(try contradiction))|((first|refine rd ?_|refine ry [] c0 fun nu _ _=>?_);simp -dsimp (disch:=omega) only[go_sem,h0, szA, sz1])|refine e0 (by decide) ?_|(refine And.intro ?_ ?_;omega)|refine And.intro (of_eq_true PutAt_put) ?_|refine gT ?_|refine gF ?_|(refine gI (fun h=>?_) (fun h=>?_)<;>(try contradiction)<;>(try refine rd ?_)<;>(try simp -dsimp (disch:=omega) only[go_sem,h,h0, szA, sz1]))|refine Exists.intro _ (Exists.intro _ (And.intro (And.intro rfl rfl) ?_)) |refine us (hc) ?_ |fail
      exact ⟨i + 1, by omega, (by omega), Env.Sub_of_has (by simp [Env.Has, Env.get, hs, asA, blk]), Store.Sub.refl _⟩
  · have hi' : i = l.length := by omega
    subst hi'
    repeat' first |refine s1 ?_|refine gS ?_|refine wT rfl ?_|refine wF rfl ?_|refine wt rfl ?_|refine wf rfl ?_|(refine wC rfl (fun h=>?_) (fun h=>?_)<;>(try contradiction))|((first|refine rd ?_|refine ry [] c0 fun nu _ _=>?_);simp -dsimp (disch:=omega) only[go_sem])|refine e0 (by decide) ?_|(refine And.intro ?_ ?_;omega)|refine And.intro (of_eq_true PutAt_put) ?_|refine gT ?_|refine gF ?_|(refine gI (fun h=>?_) (fun h=>?_)<;>(try contradiction)<;>(try refine rd ?_)<;>(try simp -dsimp (disch:=omega) only[go_sem,h]))|refine Exists.intro _ (Exists.intro _ (And.intro (And.intro rfl rfl) ?_)) |fail
theorem rpfxText_spec (p : Pfx) (hp : p.Ok) : Pure Tryz.prog 95 [ePfx p] (.str (pfxText p)) := by
  intro σ
  have h1 := rpfx_spec p hp
  obtain ⟨g0, g1⟩ := hp
  by_cases hm : pfxMay p = true
  · have hb : 0 ≤ p.b ∧ p.b ≤ 32 := by
      simp only [pfxMay, Bool.and_eq_true, decide_eq_true_eq] at hm
      exact hm.1
    have o1 : octZ p.a 24 = p.a / 16777216 := by rw [octZ_eq g0 g1]; omega
    have o2 : octZ p.a 16 = p.a / 65536 % 256 := by rw [octZ_eq g0 g1]; rfl
    have o3 : octZ p.a 8 = p.a / 256 % 256 := by rw [octZ_eq g0 g1]; rfl
    have o4 : octZ p.a 0 = p.a % 256 := by rw [octZ_eq g0 g1, Int.pow_zero, Int.ediv_one]
    have q1 : p.a.tdiv 16777216 = p.a / 16777216 := Int.tdiv_eq_ediv_of_nonneg g0
    have q2 : p.a.tdiv 65536 = p.a / 65536 := Int.tdiv_eq_ediv_of_nonneg g0
    have q3 : p.a.tdiv 256 = p.a / 256 := Int.tdiv_eq_ediv_of_nonneg g0
    have q4 : (p.a / 65536).tmod 256 = p.a / 65536 % 256 := Int.tmod_eq_emod_of_nonneg (by omega)
    have q5 : (p.a / 256).tmod 256 = p.a / 256 % 256 := Int.tmod_eq_emod_of_nonneg (by omega)
    have q6 : p.a.tmod 256 = p.a % 256 := Int.tmod_eq_emod_of_nonneg g0
    have b1 : 0 ≤ p.a / 16777216 ∧ p.a / 16777216 ≤ 4294967295 := by omega
    have b2 : 0 ≤ p.a / 65536 ∧ p.a / 65536 ≤ 4294967295 := by omega
    have b3 : 0 ≤ p.a / 256 ∧ p.a / 256 ≤ 4294967295 := by omega
    have b4 : 0 ≤ p.a / 65536 % 256 ∧ p.a / 65536 % 256 < 256 := by omega
    have b5 : 0 ≤ p.a / 256 % 256 ∧ p.a / 256 % 256 < 256 := by omega
    have b6 : 0 ≤ p.a % 256 ∧ p.a % 256 < 256 := by omega
    rw [hm] at h1
    rw [pfxText, if_pos hm, o1, o2, o3, o4]
    clear o1 o2 o3 o4 hm
    generalize p.a / 65536 % 256 = x2 at *
    generalize p.a / 256 % 256 = x3 at *
    generalize p.a % 256 = x4 at *
    generalize p.a / 16777216 = x1 at *
    generalize p.a / 65536 = w2 at *
    generalize p.a / 256 = w3 at *
    have d1 := rnum_spec x1 (by omega) (by omega)
    have d2 := rnum_spec x2 (by omega) (by omega)
    have d3 := rnum_spec x3 (by omega) (by omega)
    have d4 := rnum_spec x4 (by omega) (by omega)
    have d5 := rnum_spec p.b (by omega) (by omega)
    have z1 := digB_size x1 (by omega)
    have z2 := digB_size x2 (by omega)
    have z3 := digB_size x3 (by omega)
    have z4 := digB_size x4 (by omega)
    have z5 := digB_size p.b (by omega)
    simp only [joinOf, joinT, asA, emA]
    refine PCall_q [.tmp 2] 35 Tryz.func95 (by rfl) rfl rfl rfl rfl ?_
    repeat' first |refine s1 ?_|refine gS ?_|refine wT rfl ?_|refine wF rfl ?_|refine wt rfl ?_|refine wf rfl ?_|(refine wC rfl (fun h=>?_) (fun h=>?_)<;>(try contradiction))|((first|refine rd ?_|refine ry [] c0 fun nu _ _=>?_);simp -dsimp (disch:=omega) only[go_sem,q1, q2, q3, q4, q5, q6, t256, t65536, t16m, szA, sz1, c0])|refine e0 (by decide) ?_|(refine And.intro ?_ ?_;omega)|refine And.intro (of_eq_true PutAt_put) ?_|refine gT ?_|refine gF ?_|(refine gI (fun h=>?_) (fun h=>?_)<;>(try contradiction)<;>(try refine rd ?_)<;>(try simp -dsimp (disch:=omega) only[go_sem,h,q1, q2, q3, q4, q5, q6, t256, t65536, t16m, szA, sz1, c0]))|refine Exists.intro _ (Exists.intro _ (And.intro (And.intro rfl rfl) ?_)) |refine us (h1) ?_ |refine us (d1) ?_ |refine us (d2) ?_ |refine us (d3) ?_ |refine us (d4) ?_ |refine us (d5) ?_ |fail
    all_goals (simp only [asA])
  · have hm' : pfxMay p = false := by simpa using hm
    rw [hm'] at h1
    rw [pfxText, if_neg hm]
    refine PCall_q [.tmp 2] 35 Tryz.func95 (by rfl) rfl rfl rfl rfl ?_
    repeat' first |refine s1 ?_|refine gS ?_|refine wT rfl ?_|refine wF rfl ?_|refine wt rfl ?_|refine wf rfl ?_|(refine wC rfl (fun h=>?_) (fun h=>?_)<;>(try contradiction))|((first|refine rd ?_|refine ry [] c0 fun nu _ _=>?_);simp -dsimp (disch:=omega) only[go_sem])|refine e0 (by decide) ?_|(refine And.intro ?_ ?_;omega)|refine And.intro (of_eq_true PutAt_put) ?_|refine gT ?_|refine gF ?_|(refine gI (fun h=>?_) (fun h=>?_)<;>(try contradiction)<;>(try refine rd ?_)<;>(try simp -dsimp (disch:=omega) only[go_sem,h]))|refine Exists.intro _ (Exists.intro _ (And.intro (And.intro rfl rfl) ?_)) |refine us (h1) ?_ |fail
theorem rrngText_spec (r : Rng) (hp : r.p.Ok) : Pure Tryz.prog 40 [eRng r] (.str (rngText r)) := by
  intro σ
  have h1 := rrng_spec r hp
  by_cases hm : rngMay r = true
  · rw [hm] at h1
    have hb : 0 ≤ r.p.b ∧ r.p.b ≤ r.ge ∧ r.ge ≤ r.le ∧ r.le ≤ 32 := by
      simp only [rngMay, pfxMay, Bool.and_eq_true, decide_eq_true_eq] at hm
      exact ⟨hm.1.1.1.1.1, hm.1.1.2, hm.1.2, hm.2⟩
    have h2 := rpfxText_spec r.p hp
    have d1 := rnum_spec r.ge (by omega) (by omega)
    have d2 := rnum_spec r.le (by omega) (by omega)
    have z1 := digB_size r.ge (by omega)
    have z2 := digB_size r.le (by omega)
    have z3 := pfxText_size r.p hp
    have y1 : ((⟨#[112, 101, 114, 109, 105, 116]⟩ : ByteArray)).size = 6 := rfl
    have y2 : ((⟨#[100, 101, 110, 121]⟩ : ByteArray)).size = 4 := rfl
    have y3 : ((⟨#[32, 103, 101, 32]⟩ : ByteArray)).size = 4 := rfl
    have y4 : ((⟨#[32, 108, 101, 32]⟩ : ByteArray)).size = 4 := rfl
    have ee1 : (⟨#[112, 101, 114, 109, 105, 116]⟩ : ByteArray) ++ (⟨#[32]⟩ : ByteArray) = (⟨#[112, 101, 114, 109, 105, 116, 32]⟩ : ByteArray) := rfl
    have ee2 : (⟨#[100, 101, 110, 121]⟩ : ByteArray) ++ (⟨#[32]⟩ : ByteArray) = (⟨#[100, 101, 110, 121, 32]⟩ : ByteArray) := rfl
    have ht : rngText r = (let s := (if r.permit = true then (⟨#[112, 101, 114, 109, 105, 116]⟩ : ByteArray) ++ (⟨#[32]⟩ : ByteArray) else (⟨#[100, 101, 110, 121]⟩ : ByteArray) ++ (⟨#[32]⟩ : ByteArray)) ++ pfxText r.p
      let s := if r.p.b < r.ge then s ++ (⟨#[32, 103, 101, 32]⟩ : ByteArray) ++ digB r.ge else s
      if r.ge < r.le then s ++ (⟨#[32, 108, 101, 32]⟩ : ByteArray) ++ digB r.le else s) := by
      rw [rngText, if_pos hm, ee1, ee2]
      simp only
      by_cases k1 : r.ge = r.p.b
      · have k3 : ¬ r.p.b < r.ge := by omega
        by_cases k2 : r.le = r.ge
        · have k4 : ¬ r.ge < r.le := by omega
          simp only [if_pos k1, if_neg k3, if_pos k2, if_neg k4]
        · have k4 : r.ge < r.le := by omega
          simp only [if_pos k1, if_neg k3, if_neg k2, if_pos k4, asA]
      · have k3 : r.p.b < r.ge := by omega
        by_cases k2 : r.le = r.ge
        · have k4 : ¬ r.ge < r.le := by omega
          simp only [if_neg k1, if_pos k3, if_pos k2, if_neg k4, asA]
        · have k4 : r.ge < r.le := by omega
          simp only [if_neg k1, if_pos k3, if_neg k2, if_pos k4, asA]
    rw [ht]
    clear ee1 ee2
    refine PCall_q [.tmp 2] 39 Tryz.func40 (by rfl) rfl rfl rfl rfl ?_
    repeat' first |refine s1 ?_|refine gS ?_|refine wT rfl ?_|refine wF rfl ?_|refine wt rfl ?_|refine wf rfl ?_|(refine wC rfl (fun h=>?_) (fun h=>?_)<;>(try contradiction))|((first|refine rd ?_|refine ry [] c0 fun nu _ _=>?_);simp -dsimp (disch:=omega) only[go_sem,szA, sz1, y1, y2, y3, y4])|refine e0 (by decide) ?_|(refine And.intro ?_ ?_;omega)|refine And.intro (of_eq_true PutAt_put) ?_|refine gT ?_|refine gF ?_|(refine gI (fun h=>?_) (fun h=>?_)<;>(try contradiction)<;>(try refine rd ?_)<;>(try simp -dsimp (disch:=omega) only[go_sem,h,szA, sz1, y1, y2, y3, y4]))|refine Exists.intro _ (Exists.intro _ (And.intro (And.intro rfl rfl) ?_)) |refine us (h1) ?_ |refine us (h2) ?_ |refine us (d1) ?_ |refine us (d2) ?_ |fail
    all_goals (simp_all; try first | (intro k; exfalso; omega) | (rw [if_neg (by omega), if_neg (by omega)]) | (rw [if_neg (by omega)]))
  · have hm' : rngMay r = false := by simpa using hm
    rw [hm'] at h1
    rw [rngText, if_neg hm]
    refine PCall_q [.tmp 2] 39 Tryz.func40 (by rfl) rfl rfl rfl rfl ?_
    repeat' first |refine s1 ?_|refine gS ?_|refine wT rfl ?_|refine wF rfl ?_|refine wt rfl ?_|refine wf rfl ?_|(refine wC rfl (fun h=>?_) (fun h=>?_)<;>(try contradiction))|((first|refine rd ?_|refine ry [] c0 fun nu _ _=>?_);simp -dsimp (disch:=omega) only[go_sem])|refine e0 (by decide) ?_|(refine And.intro ?_ ?_;omega)|refine And.intro (of_eq_true PutAt_put) ?_|refine gT ?_|refine gF ?_|(refine gI (fun h=>?_) (fun h=>?_)<;>(try contradiction)<;>(try refine rd ?_)<;>(try simp -dsimp (disch:=omega) only[go_sem,h]))|refine Exists.intro _ (Exists.intro _ (And.intro (And.intro rfl rfl) ?_)) |refine us (h1) ?_ |fail
theorem rcommText_spec (k : SK) (l : List Com) (hl : l.length ≤ 1000) : Pure Tryz.prog 97 [.sl k (encL eCom l)] (.str (catB (l.map fun c => blk ++ comText c))) := by
  intro σ
  have hbl : (⟨#[32]⟩ : ByteArray) = blk := rfl
  obtain ⟨J, hJ⟩ : ∃ J : Nat → ByteArray, ∀ i, J i = catB ((l.take i).map fun c => blk ++ comText c) := ⟨_, fun _ => rfl⟩
  have hJl : catB (l.map fun c => blk ++ comText c) = J l.length := by rw [hJ, List.take_length]
  have hJ0 : J 0 = ⟨#[]⟩ := by rw [hJ]; rfl
  rw [hJl]
  refine PCall_q [.tmp 2] 20 Tryz.func97 (by rfl) rfl rfl rfl rfl ?_
  repeat' first |refine s1 ?_|refine gS ?_|refine wT rfl ?_|refine wF rfl ?_|refine wt rfl ?_|refine wf rfl ?_|(refine wC rfl (fun h=>?_) (fun h=>?_)<;>(try contradiction))|((first|refine rd ?_|refine ry [] c0 fun nu _ _=>?_);simp -dsimp (disch:=omega) only[go_sem])|refine e0 (by decide) ?_|(refine And.intro ?_ ?_;omega)|refine And.intro (of_eq_true PutAt_put) ?_|refine gT ?_|refine gF ?_|(refine gI (fun h=>?_) (fun h=>?_)<;>(try contradiction)<;>(try refine rd ?_)<;>(try simp -dsimp (disch:=omega) only[go_sem,h]))|refine Exists.intro _ (Exists.intro _ (And.intro (And.intro rfl rfl) ?_)) |fail
  refine W_loop_st (fun i : Nat => [(0, .sl k (encL eCom l)), (3, .str (J i)), (4, .int .i64 i)]) (fun _ => σ) (fun i => i ≤ l.length) (fun i => l.length - i) 0 (Nat.zero_le _) (Env.Sub_of_has (by simp [Env.Has, Env.get, hJ0])) (Store.Sub.refl _) ?_
  intro i hi
  by_cases hlt : i < l.length
  · have hc := rcomText_spec (l.getD i default)
    have hz := comText_size (l.getD i default)
    have hj := catB_map (fun c => blk ++ comText c) 51 (l.take i) (fun x _ => by rw [szA, show blk.size = 1 from rfl]; have := comText_size x; omega)
    have hlm : (l.take i).length ≤ 1000 := by rw [List.length_take]; omega
    have hj2 : (l.take i).length * 51 ≤ 1000 * 51 := Nat.mul_le_mul_right _ hlm
    have hs : catB ((l.take (i + 1)).map fun c => blk ++ comText c) = catB ((l.take i).map fun c => blk ++ comText c) ++ (blk ++ comText (l.getD i default)) := by
      rw [List.take_succ_eq_append_getElem hlt, List.map_append, catB_append]
      simp [List.getD_eq_getElem?_getD, hlt, catB, emA]
    rw [← hJ, ← hJ] at hs
    rw [← hJ] at hj
    repeat' first |refine s1 ?_|refine gS ?_|refine wT rfl ?_|refine wF rfl ?_|refine wt rfl ?_|refine wf rfl ?_|(refine wC rfl (fun h=>?_) (fun h=>?_)<;>(try contradiction))|((first|refine rd ?_|refine ry [] c0 fun nu _ _=>?_);simp -dsimp (disch:=omega) only[go_sem,szA, sz1])|refine e0 (by decide) ?_|(refine And.intro ?_ ?_;omega)|refine And.intro (of_eq_true PutAt_put) ?_|refine gT ?_|refine gF ?_|(refine gI (fun h=>?_) (fun h=>?_)<;>(try contradiction)<;>(try refine rd ?_)<;>(try simp -dsimp (disch:=omega) only[go_sem,h,szA, sz1]))|refine Exists.intro _ (Exists.intro _ (And.intro (And.intro rfl rfl) ?_)) |refine us (hc) ?_ |fail
    exact ⟨i + 1, by omega, (by omega), Env.Sub_of_has (by simp [Env.Has, Env.get, hs, asA, blk]), Store.Sub.refl _⟩
  · have hi' : i = l.length := by omega
    subst hi'
    repeat' first |refine s1 ?_|refine gS ?_|refine wT rfl ?_|refine wF rfl ?_|refine wt rfl ?_|refine wf rfl ?_|(refine wC rfl (fun h=>?_) (fun h=>?_)<;>(try contradiction))|((first|refine rd ?_|refine ry [] c0 fun nu _ _=>?_);simp -dsimp (disch:=omega) only[go_sem])|refine e0 (by decide) ?_|(refine And.intro ?_ ?_;omega)|refine And.intro (of_eq_true PutAt_put) ?_|refine gT ?_|refine gF ?_|(refine gI (fun h=>?_) (fun h=>?_)<;>(try contradiction)<;>(try refine rd ?_)<;>(try simp -dsimp (disch:=omega) only[go_sem,h]))|refine Exists.intro _ (Exists.intro _ (And.intro (And.intro rfl rfl) ?_)) |fail
end Go.Proofs.YtaealcimocpnnaaGreat
