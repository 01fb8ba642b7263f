/- Contracts of asre's parser, third part: atom, item. Conditions: none. -/
import Derived.Test.YtaealcimocpnnaaGreatBg
set_option linter.unusedVariables false
set_option linter.unusedSimpArgs false
namespace Go.Proofs.YtaealcimocpnnaaGreat
open Go.Kern

def isP (r : AV) : Prop := (∃ q i off, r = .ptr q i off) ∨ ∃ x off, r = .ip x off
theorem isP_ptr {q i off : Nat} : isP (.ptr q i off) = True := eq_true (.inl ⟨q, i, off, rfl⟩)
theorem isP_ip {x : AV} {off : Nat} : isP (.ip x off) = True := eq_true (.inr ⟨x, off, rfl⟩)
attribute [go_sem] isP_ptr isP_ip
theorem PCall_isP {P : Program} {f : FuncId} {args : List AV} {σ τ : Store} (h : PCall P f args σ (fun r t => isP r ∧ t = τ)) : PCall P f args σ (fun r t => r = gpt ∧ t = τ) := by
  refine ⟨h.1, ?_⟩
  refine fun g w vs hl hr hc => (h.2 g w vs hl hr hc).mono ?_
  rintro e w' ⟨v, he, g', r, σ', h1, h2, h3, h4, h5⟩
  refine ⟨v, he, g', gpt, σ', h1, h2, ?_, rfl, h5⟩
  rcases h4 with ⟨q, i, off, rfl⟩ | ⟨x, off, rfl⟩
  · exact h3.gpt
  · cases h3 with
    | ip hs ho hi h => exact .ip (base := _) (vs := fun _ => undef) hs rfl (fun i hi => by simp [AV.cells] at hi) (fun i c hc => by simp [AV.cells] at hc)

set_option maxRecDepth 100000
set_option maxHeartbeats 4000000
attribute [local irreducible] PCall W
attribute [local go_sem] pO
theorem ps_under {c q o : Nat} (h1 : c ≠ q) (h2 : c ≠ o) (s : Store) (N P x : Ob) : PutSome ((s.put q N).put o P) (((s.put c x).put q N).put o P) = True := by
  rw [← put_swap h1, ← put_swap h2]; exact PutSome_self
theorem ps_in {q o : Nat} (h : q ≠ o) (s : Store) (N N' P : Ob) : PutSome ((s.put q N).put o P) ((s.put q N').put o P) = True := by
  have := @PutSome_self q ((s.put q N).put o P) N'
  rw [put_swap h, put_put] at this
  exact this
theorem keep_new {σ τ : Store} {c : Nat} {x : Ob} (h : ∀ c y, σ c = some y → τ c = some y) (hc : σ c = none) : ∀ d y, σ d = some y → (τ.put c x) d = some y := fun d y hd => by
  simp only [Store.put]
  split
  · rename_i e; rw [e, hc] at hd; cases hd
  · exact h d y hd
theorem none_of {σ τ : Store} {c : Nat} (h : ∀ c y, σ c = some y → τ c = some y) (hc : τ c = none) : σ c = none := by
  cases e : σ c with
  | none => rfl
  | some y => rw [h c y e] at hc; cases hc
structure Lp where
  fuel : Nat
  p : PS
  k : SK
  rows : List AV
  τ : Store
def nodeO (kind : Int) (set : Bool) (k : SK) (rows : List AV) (k2 : SK) (kids : List AV) : Ob := .arr 240 [.agg [.int .i64 kind, .bool false, .bool set, .sl k rows, .sl k2 kids]]
def KindOk (σ τ : Store) (q o e sz : Nat) (k : SK) (rows : List AV) : Prop := k = .full ∨ (k = .nil ∧ rows = []) ∨ ∃ t, k = .tip t ∧ τ t = some (.tip rows.length e sz) ∧ t ≠ q ∧ t ≠ o ∧ σ t = none
section
variable (s : ByteArray) (hs : s.size ≤ 1000)
include hs
def ChS (n : Nat) : Prop := ∀ (p : PS), p.at_ ≤ (B s).length → ∀ (o : Nat) (σ : Store), PCall Tryz.prog 164 [.ptr o 0 0, .int .i64 (9 - n)] (σ.put o (pO s p)) (fun r t => r = gpt ∧ t = σ.put o (pO s (choiceB (B s) n p)))
theorem atom_spec (n : Nat) (hn : n ≤ 8) (hch : ChS s n) (p : PS) (hp : p.at_ ≤ (B s).length) (o : Nat) (σ : Store) :
    PCall Tryz.prog 206 [.ptr o 0 0, .int .i64 (8 - n)] (σ.put o (pO s p)) (fun r t => r = gpt ∧ t = σ.put o (pO s (atomB (B s) (choiceB (B s) n) p))) := by
  refine PCall_isP ?_
  have hl := length_B s
  have h1 := take_spec s hs p hp 46 o
  have hl1 := (take_mono (B s) 46).len p hp
  obtain ⟨b1, p1, hp1⟩ : ∃ b1 p1, takeB (B s) 46 p = (b1, p1) := ⟨_, _, rfl⟩
  rw [hp1] at hl1
  have h2 := take_spec s hs p1 hl1 91 o
  have hl2 := (take_mono (B s) 91).len p1 hl1
  obtain ⟨b2, p2, hp2⟩ : ∃ b2 p2, takeB (B s) 91 p1 = (b2, p2) := ⟨_, _, rfl⟩
  rw [hp2] at hl2
  have h3 := take_spec s hs p2 hl2 40 o
  have hl3 := (take_mono (B s) 40).len p2 hl2
  obtain ⟨b3, p3, hp3⟩ : ∃ b3 p3, takeB (B s) 40 p2 = (b3, p3) := ⟨_, _, rfl⟩
  rw [hp3] at hl3
  simp only [atomB, hp1, hp2, hp3] at h1 h2 h3 ⊢
  cases b1 with
  | true =>
    simp only [if_true]
    refine PCall_w [.tmp 4] 73 Tryz.func206 (by rfl) rfl rfl rfl rfl ?_
    repeat' first
     |refine s1 ?_|refine s2 ?_|refine wt rfl ?_|refine wf rfl ?_|(refine wc rfl (fun h=>?_) (fun h=>?_)<;>(try simp only[Bool.not_eq_true',Bool.not_eq_false',decide_eq_true_eq,decide_eq_false_iff_not,Bool.not_not] at h)<;>(try first|exact bt (by assumption) (by assumption)|contradiction|(exfalso;omega)))|((first|refine s3 (mu:=[]) ?_|(refine W_region_any [] c0 mx (by kernel_rfl) ?_;intro nu _ _)|refine prun_go ?_|refine drun_go ?_|refine s5 ?_|refine s6 ?_|with_reducible apply s7);simp -dsimp (disch:=omega) only[go_sem,Nat.reduceLT,Nat.reduceLeDiff,Nat.reduceEqDiff,Nat.reduceAdd,Nat.reduceMul,Int.reduceNeg,Nat.reduceBEq,reduceCtorEq,↓reduceIte])
     |refine e1 ?_|refine e2 ?_|refine e3 ?_|refine e4 ?_|refine e5 ?_|refine e6 ?_|refine e7 ?_|refine e8 ?_|refine e9 ?_|refine e0 (by decide) ?_|refine ea ?_|(refine And.intro ?_ ?_;omega)|refine And.intro (of_eq_true PutAt_put) ?_
     |((first|refine gn (fun h=>?_) (fun h=>?_)|refine gf (fun h=>?_) (fun h=>?_)|refine gb (fun h=>?_) (fun h=>?_)|refine gp (fun h=>?_) (fun h=>?_))<;>(try first|exact bt (by assumption) (by assumption)|contradiction|(exfalso;omega))<;>(try with_reducible apply s7)<;>(try simp -dsimp (disch:=omega) only[h,go_sem,Nat.reduceLT,Nat.reduceLeDiff,Nat.reduceEqDiff,Nat.reduceAdd,Nat.reduceMul,Int.reduceNeg,Nat.reduceBEq,reduceCtorEq,↓reduceIte]))|refine Exists.intro _ (Exists.intro _ (And.intro (And.intro rfl rfl) ?_))
     |refine cy (h1 _) ?_|refine cz (h1 _) ?_
  | false =>
  cases b2 with
  | true =>
    simp only [Bool.false_eq_true, if_false, if_true]
    have hpt := part_spec s hs p2 hl2 o
    obtain ⟨ra, hra⟩ : ∃ a, (numberB (B s) p2).1 = a := ⟨_, rfl⟩
    obtain ⟨rz, hrz⟩ : ∃ a, partZ (B s) p2 = a := ⟨_, rfl⟩
    obtain ⟨rp, hrp⟩ : ∃ a, partB (B s) p2 = a := ⟨_, rfl⟩
    have hlp := (part_mono (B s)).len p2 hl2
    rw [hrp] at hlp
    simp only [hra, hrz, hrp] at hpt ⊢
    refine PCall_w [.tmp 4] 73 Tryz.func206 (by rfl) rfl rfl rfl rfl ?_
    repeat' first
     |refine s1 ?_|refine s2 ?_|refine wt rfl ?_|refine wf rfl ?_|(refine wc rfl (fun h=>?_) (fun h=>?_)<;>(try simp only[Bool.not_eq_true',Bool.not_eq_false',decide_eq_true_eq,decide_eq_false_iff_not,Bool.not_not] at h)<;>(try first|exact bt (by assumption) (by assumption)|contradiction|(exfalso;omega)))|((first|refine s3 (mu:=[22]) ?_|(refine W_region_any [22] c0 mx (by kernel_rfl) ?_;intro nu _ _)|refine prun_go ?_|refine drun_go ?_|refine s5 ?_|refine s6 ?_|with_reducible apply s7);simp -dsimp (disch:=omega) only[go_sem,Nat.reduceLT,Nat.reduceLeDiff,Nat.reduceEqDiff,Nat.reduceAdd,Nat.reduceMul,Int.reduceNeg,Nat.reduceBEq,reduceCtorEq,↓reduceIte])
     |refine e1 ?_|refine e2 ?_|refine e3 ?_|refine e4 ?_|refine e5 ?_|refine e6 ?_|refine e7 ?_|refine e8 ?_|refine e9 ?_|refine e0 (by decide) ?_|refine ea ?_|(refine And.intro ?_ ?_;omega)|refine And.intro (of_eq_true PutAt_put) ?_
     |((first|refine gn (fun h=>?_) (fun h=>?_)|refine gf (fun h=>?_) (fun h=>?_)|refine gb (fun h=>?_) (fun h=>?_)|refine gp (fun h=>?_) (fun h=>?_))<;>(try first|exact bt (by assumption) (by assumption)|contradiction|(exfalso;omega))<;>(try with_reducible apply s7)<;>(try simp -dsimp (disch:=omega) only[h,go_sem,Nat.reduceLT,Nat.reduceLeDiff,Nat.reduceEqDiff,Nat.reduceAdd,Nat.reduceMul,Int.reduceNeg,Nat.reduceBEq,reduceCtorEq,↓reduceIte]))|refine Exists.intro _ (Exists.intro _ (And.intro (And.intro rfl rfl) ?_))
     |refine cy (h1 _) ?_|refine cz (h1 _) ?_
     |refine cy (h2 _) ?_|refine cz (h2 _) ?_
     |refine cy (hpt _) ?_|refine cz (hpt _) ?_
    intro q hq
    have hqo := alloc_ne hq
    have sw := put_swap hqo
    have ot := put_oth hqo
    rw [ot] at hq
    simp only [sw]
    repeat' first
     |refine s1 ?_|refine s2 ?_|refine wt rfl ?_|refine wf rfl ?_|(refine wc rfl (fun h=>?_) (fun h=>?_)<;>(try simp only[Bool.not_eq_true',Bool.not_eq_false',decide_eq_true_eq,decide_eq_false_iff_not,Bool.not_not] at h)<;>(try first|exact bt (by assumption) (by assumption)|contradiction|(exfalso;omega)))|((first|refine s3 (mu:=[]) ?_|(refine W_region_any [] c0 mx (by kernel_rfl) ?_;intro nu _ _)|refine prun_go ?_|refine drun_go ?_|refine s5 ?_|refine s6 ?_|with_reducible apply s7);simp -dsimp (disch:=omega) only[go_sem,Nat.reduceLT,Nat.reduceLeDiff,Nat.reduceEqDiff,Nat.reduceAdd,Nat.reduceMul,Int.reduceNeg,Nat.reduceBEq,reduceCtorEq,↓reduceIte,sw, ot])
     |refine e1 ?_|refine e2 ?_|refine e3 ?_|refine e4 ?_|refine e5 ?_|refine e6 ?_|refine e7 ?_|refine e8 ?_|refine e9 ?_|refine e0 (by decide) ?_|refine ea ?_|(refine And.intro ?_ ?_;omega)|refine And.intro (of_eq_true PutAt_put) ?_
     |((first|refine gn (fun h=>?_) (fun h=>?_)|refine gf (fun h=>?_) (fun h=>?_)|refine gb (fun h=>?_) (fun h=>?_)|refine gp (fun h=>?_) (fun h=>?_))<;>(try first|exact bt (by assumption) (by assumption)|contradiction|(exfalso;omega))<;>(try with_reducible apply s7)<;>(try simp -dsimp (disch:=omega) only[h,go_sem,Nat.reduceLT,Nat.reduceLeDiff,Nat.reduceEqDiff,Nat.reduceAdd,Nat.reduceMul,Int.reduceNeg,Nat.reduceBEq,reduceCtorEq,↓reduceIte,sw, ot]))|refine Exists.intro _ (Exists.intro _ (And.intro (And.intro rfl rfl) ?_))
    refine W_loop_st (fun x : Lp => [(0, .ptr o 0 0), (5, .ptr q 0 0)]) (fun x => (x.τ.put q (nodeO 0 true x.k x.rows .nil [])).put o (pO s x.p))
      (fun x => x.p.at_ ≤ (B s).length ∧ setB (B s) x.fuel x.p = setB (B s) ((B s).length + 2) rp ∧ x.rows.length + x.fuel = (B s).length + 3 ∧ (x.p.e = 0 → (B s).length < x.p.at_ + x.fuel) ∧ rowsOk 2 x.rows = true ∧ (∀ c y, σ c = some y → x.τ c = some y) ∧ KindOk σ x.τ q o 265 2 x.k x.rows) (fun x => x.fuel)
      ⟨(B s).length + 2, rp, .full, [.agg [.int .i64 ra, .int .i64 rz]], σ⟩ ⟨hlp, rfl, by simp; omega, fun _ => by simp only; omega, by rfl, fun _ _ h => h, .inl rfl⟩ (Env.Sub_of_has (by simp [Env.Has, Env.get])) (by simp only [pO, nodeO]; exact Store.Sub.refl _) ?_
    rintro ⟨fuel, p5, k, rows, τ⟩ ⟨i1, i2, i3, i4, i5, i6, i7⟩
    simp only at i1 i2 i3 i4 i5 i6 i7 ⊢
    obtain ⟨at5, r5⟩ := p5
    simp only at i1 i4
    rw [← i2]
    have fin : ∀ x, (σ.put o x).Sub ((τ.put q (nodeO 0 true k rows .nil [])).put o x) := fun x c y hy => by
      simp only [Store.put] at hy ⊢
      split
      · rename_i e; rw [if_pos e] at hy; exact hy
      · rename_i e; rw [if_neg e] at hy
        split
        · rename_i e2; rw [e2, hq] at hy; cases hy
        · exact i6 _ _ hy
    by_cases he : r5 = 0
    · subst he
      have hf := i4 rfl
      obtain ⟨f, rfl⟩ : ∃ f, fuel = f + 1 := ⟨fuel - 1, by omega⟩
      have t1 := take_spec s hs ⟨at5, 0⟩ i1 93 o
      have hl5 := (take_mono (B s) 93).len ⟨at5, 0⟩ i1
      have hg5 := (take_mono (B s) 93).le ⟨at5, 0⟩ i1
      obtain ⟨b6, p6, hp6⟩ : ∃ b6 p6, takeB (B s) 93 ⟨at5, 0⟩ = (b6, p6) := ⟨_, _, rfl⟩
      simp only [hp6] at t1 hl5 hg5
      simp only [setB, hp6, if_true]
      cases b6 with
      | true =>
        simp only [if_true]
        simp only [nodeO] at fin ⊢
        repeat' first
         |refine s1 ?_|refine s2 ?_|refine wt rfl ?_|refine wf rfl ?_|(refine wc rfl (fun h=>?_) (fun h=>?_)<;>(try simp only[Bool.not_eq_true',Bool.not_eq_false',decide_eq_true_eq,decide_eq_false_iff_not,Bool.not_not] at h)<;>(try first|exact bt (by assumption) (by assumption)|contradiction|(exfalso;omega)))|((first|refine s3 (mu:=[]) ?_|(refine W_region_any [] c0 mx (by kernel_rfl) ?_;intro nu _ _)|refine prun_go ?_|refine drun_go ?_|refine s5 ?_|refine s6 ?_|with_reducible apply s7);simp -dsimp (disch:=omega) only[go_sem,Nat.reduceLT,Nat.reduceLeDiff,Nat.reduceEqDiff,Nat.reduceAdd,Nat.reduceMul,Int.reduceNeg,Nat.reduceBEq,reduceCtorEq,↓reduceIte])
         |refine e1 ?_|refine e2 ?_|refine e3 ?_|refine e4 ?_|refine e5 ?_|refine e6 ?_|refine e7 ?_|refine e8 ?_|refine e9 ?_|refine e0 (by decide) ?_|refine ea ?_|(refine And.intro ?_ ?_;omega)|refine And.intro (of_eq_true PutAt_put) ?_
         |((first|refine gn (fun h=>?_) (fun h=>?_)|refine gf (fun h=>?_) (fun h=>?_)|refine gb (fun h=>?_) (fun h=>?_)|refine gp (fun h=>?_) (fun h=>?_))<;>(try first|exact bt (by assumption) (by assumption)|contradiction|(exfalso;omega))<;>(try with_reducible apply s7)<;>(try simp -dsimp (disch:=omega) only[h,go_sem,Nat.reduceLT,Nat.reduceLeDiff,Nat.reduceEqDiff,Nat.reduceAdd,Nat.reduceMul,Int.reduceNeg,Nat.reduceBEq,reduceCtorEq,↓reduceIte]))|refine Exists.intro _ (Exists.intro _ (And.intro (And.intro rfl rfl) ?_))
         |refine cy (t1 _) ?_|refine cz (t1 _) ?_
        exact fin _
      | false =>
        simp only [Bool.false_eq_true, if_false]
        have hpt2 := part_spec s hs p6 hl5 o
        obtain ⟨na, hna⟩ : ∃ a, (numberB (B s) p6).1 = a := ⟨_, rfl⟩
        obtain ⟨nz, hnz⟩ : ∃ a, partZ (B s) p6 = a := ⟨_, rfl⟩
        obtain ⟨p7, hp7⟩ : ∃ a, partB (B s) p6 = a := ⟨_, rfl⟩
        have hl7 := (part_mono (B s)).len p6 hl5
        have hgo := part_go (B s) p6 hl5
        rw [hp7] at hl7 hgo
        simp only [hna, hnz, hp7] at hpt2 ⊢
        have i2' : setB (B s) f p7 = setB (B s) (f + 1) ⟨at5, 0⟩ := by simp only [setB, hp6, hp7, if_true, Bool.false_eq_true, if_false]
        simp only [nodeO]
        repeat' first
         |((fail_if_success (first|show W _ _ (Code.seq (Code.region 6 _ _) _) _ _ _|show W _ _ (Code.seq (Code.seq (Code.region 6 _ _) _) _) _ _ _));refine s1 ?_)|refine s2 ?_|refine wt rfl ?_|refine wf rfl ?_|(refine wc rfl (fun h=>?_) (fun h=>?_)<;>(try simp only[Bool.not_eq_true',Bool.not_eq_false',decide_eq_true_eq,decide_eq_false_iff_not,Bool.not_not] at h)<;>(try first|exact bt (by assumption) (by assumption)|contradiction|(exfalso;omega)))|((fail_if_success (first|show W _ _ (Code.region 6 _ _) _ _ _));(first|refine s3 (mu:=[]) ?_|(refine W_region_any [] c0 mx (by kernel_rfl) ?_;intro nu _ _)|refine prun_go ?_|refine drun_go ?_|refine s5 ?_|refine s6 ?_|with_reducible apply s7);simp -dsimp (disch:=omega) only[go_sem,Nat.reduceLT,Nat.reduceLeDiff,Nat.reduceEqDiff,Nat.reduceAdd,Nat.reduceMul,Int.reduceNeg,Nat.reduceBEq,reduceCtorEq,↓reduceIte])
         |refine e1 ?_|refine e2 ?_|refine e3 ?_|refine e4 ?_|refine e5 ?_|refine e6 ?_|refine e7 ?_|refine e8 ?_|refine e9 ?_|refine e0 (by decide) ?_|refine ea ?_|(refine And.intro ?_ ?_;omega)|refine And.intro (of_eq_true PutAt_put) ?_
         |((first|refine gn (fun h=>?_) (fun h=>?_)|refine gf (fun h=>?_) (fun h=>?_)|refine gb (fun h=>?_) (fun h=>?_)|refine gp (fun h=>?_) (fun h=>?_))<;>(try first|exact bt (by assumption) (by assumption)|contradiction|(exfalso;omega))<;>(try with_reducible apply s7)<;>(try simp -dsimp (disch:=omega) only[h,go_sem,Nat.reduceLT,Nat.reduceLeDiff,Nat.reduceEqDiff,Nat.reduceAdd,Nat.reduceMul,Int.reduceNeg,Nat.reduceBEq,reduceCtorEq,↓reduceIte]))|refine Exists.intro _ (Exists.intro _ (And.intro (And.intro rfl rfl) ?_))
         |refine cy (t1 _) ?_|refine cz (t1 _) ?_
        refine W_region_late (id:=6) [] ⟨[4],[6,8,11],[],[8],[],[6],o⟩ mx (by kernel_rfl) ⟨_, put_same _ _ _⟩ ?_
        intro nu hnu hni
        have e8 := hnu 8 (by simp)
        have n8 := alloc_ne e8
        rw [put_oth n8] at e8
        have n8q := alloc_ne e8
        rw [put_oth n8q] at e8
        have s8 := put_swap n8
        have s8q := put_swap n8q
        have o8 := put_oth n8
        have o8q := put_oth n8q
        rcases i7 with rfl | ⟨rfl, rfl⟩ | ⟨t, rfl, ht, htq, hto, hts⟩
        · skip
          simp -dsimp (disch:=omega) only[go_sem,Nat.reduceLT,Nat.reduceLeDiff,Nat.reduceEqDiff,Nat.reduceAdd,Nat.reduceMul,Int.reduceNeg,Nat.reduceBEq,reduceCtorEq,↓reduceIte,sw, ot, s8, s8q, o8, o8q, i5, ps_under n8q n8, ps_in hqo]
          repeat' first
           |refine s1 ?_|refine s2 ?_|refine wt rfl ?_|refine wf rfl ?_|(refine wc rfl (fun h=>?_) (fun h=>?_)<;>(try simp only[Bool.not_eq_true',Bool.not_eq_false',decide_eq_true_eq,decide_eq_false_iff_not,Bool.not_not] at h)<;>(try first|exact bt (by assumption) (by assumption)|contradiction|(exfalso;omega)))|((first|refine s3 (mu:=[]) ?_|(refine W_region_any [] c0 mx (by kernel_rfl) ?_;intro nu _ _)|refine prun_go ?_|refine drun_go ?_|refine s5 ?_|refine s6 ?_|with_reducible apply s7);simp -dsimp (disch:=omega) only[go_sem,Nat.reduceLT,Nat.reduceLeDiff,Nat.reduceEqDiff,Nat.reduceAdd,Nat.reduceMul,Int.reduceNeg,Nat.reduceBEq,reduceCtorEq,↓reduceIte,sw, ot, s8, s8q, o8, o8q, i5, ps_under n8q n8, ps_in hqo])
           |refine e1 ?_|refine e2 ?_|refine e3 ?_|refine e4 ?_|refine e5 ?_|refine e6 ?_|refine e7 ?_|refine e8 ?_|refine e9 ?_|refine e0 (by decide) ?_|refine ea ?_|(refine And.intro ?_ ?_;omega)|refine And.intro (of_eq_true PutAt_put) ?_|refine And.intro (show PutSome _ _ by simp only[PutSome_self,PutSome_put,PutSome_same,sw, ot, s8, s8q, o8, o8q, i5, ps_under n8q n8, ps_in hqo]) ?_
           |((first|refine gn (fun h=>?_) (fun h=>?_)|refine gf (fun h=>?_) (fun h=>?_)|refine gb (fun h=>?_) (fun h=>?_)|refine gp (fun h=>?_) (fun h=>?_))<;>(try first|exact bt (by assumption) (by assumption)|contradiction|(exfalso;omega))<;>(try with_reducible apply s7)<;>(try simp -dsimp (disch:=omega) only[h,go_sem,Nat.reduceLT,Nat.reduceLeDiff,Nat.reduceEqDiff,Nat.reduceAdd,Nat.reduceMul,Int.reduceNeg,Nat.reduceBEq,reduceCtorEq,↓reduceIte,sw, ot, s8, s8q, o8, o8q, i5, ps_under n8q n8, ps_in hqo]))|refine Exists.intro _ (Exists.intro _ (And.intro (And.intro rfl rfl) ?_))
           |refine cy (hpt2 _) ?_|refine cz (hpt2 _) ?_
          refine ⟨⟨f, p7, .tip (nu 8), rows ++ [.agg [.int .i64 na, .int .i64 nz]], τ.put (nu 8) (.tip (rows ++ [AV.agg [.int .i64 na, .int .i64 nz]]).length 265 2)⟩, by simp, ⟨hl7, rfl, by simp at i3 ⊢; omega, fun h0 => by have := hgo h0; simp only; omega, by simp only [rowsOk_append, i5]; rfl, keep_new i6 (none_of i6 e8), .inr (.inr ⟨(nu 8), rfl, put_same _ _ _, n8q, n8, none_of i6 e8⟩)⟩, Env.Sub_of_has (by simp [Env.Has, Env.get]), by simp only [pO, List.nil_append]; exact Store.Sub.refl _⟩
        · skip
          simp -dsimp (disch:=omega) only[go_sem,Nat.reduceLT,Nat.reduceLeDiff,Nat.reduceEqDiff,Nat.reduceAdd,Nat.reduceMul,Int.reduceNeg,Nat.reduceBEq,reduceCtorEq,↓reduceIte,sw, ot, s8, s8q, o8, o8q, i5, ps_under n8q n8, ps_in hqo]
          repeat' first
           |refine s1 ?_|refine s2 ?_|refine wt rfl ?_|refine wf rfl ?_|(refine wc rfl (fun h=>?_) (fun h=>?_)<;>(try simp only[Bool.not_eq_true',Bool.not_eq_false',decide_eq_true_eq,decide_eq_false_iff_not,Bool.not_not] at h)<;>(try first|exact bt (by assumption) (by assumption)|contradiction|(exfalso;omega)))|((first|refine s3 (mu:=[]) ?_|(refine W_region_any [] c0 mx (by kernel_rfl) ?_;intro nu _ _)|refine prun_go ?_|refine drun_go ?_|refine s5 ?_|refine s6 ?_|with_reducible apply s7);simp -dsimp (disch:=omega) only[go_sem,Nat.reduceLT,Nat.reduceLeDiff,Nat.reduceEqDiff,Nat.reduceAdd,Nat.reduceMul,Int.reduceNeg,Nat.reduceBEq,reduceCtorEq,↓reduceIte,sw, ot, s8, s8q, o8, o8q, i5, ps_under n8q n8, ps_in hqo])
           |refine e1 ?_|refine e2 ?_|refine e3 ?_|refine e4 ?_|refine e5 ?_|refine e6 ?_|refine e7 ?_|refine e8 ?_|refine e9 ?_|refine e0 (by decide) ?_|refine ea ?_|(refine And.intro ?_ ?_;omega)|refine And.intro (of_eq_true PutAt_put) ?_|refine And.intro (show PutSome _ _ by simp only[PutSome_self,PutSome_put,PutSome_same,sw, ot, s8, s8q, o8, o8q, i5, ps_under n8q n8, ps_in hqo]) ?_
           |((first|refine gn (fun h=>?_) (fun h=>?_)|refine gf (fun h=>?_) (fun h=>?_)|refine gb (fun h=>?_) (fun h=>?_)|refine gp (fun h=>?_) (fun h=>?_))<;>(try first|exact bt (by assumption) (by assumption)|contradiction|(exfalso;omega))<;>(try with_reducible apply s7)<;>(try simp -dsimp (disch:=omega) only[h,go_sem,Nat.reduceLT,Nat.reduceLeDiff,Nat.reduceEqDiff,Nat.reduceAdd,Nat.reduceMul,Int.reduceNeg,Nat.reduceBEq,reduceCtorEq,↓reduceIte,sw, ot, s8, s8q, o8, o8q, i5, ps_under n8q n8, ps_in hqo]))|refine Exists.intro _ (Exists.intro _ (And.intro (And.intro rfl rfl) ?_))
           |refine cy (hpt2 _) ?_|refine cz (hpt2 _) ?_
          refine ⟨⟨f, p7, .tip (nu 8), [] ++ [.agg [.int .i64 na, .int .i64 nz]], τ.put (nu 8) (.tip ([] ++ [AV.agg [.int .i64 na, .int .i64 nz]]).length 265 2)⟩, by simp, ⟨hl7, rfl, by simp at i3 ⊢; omega, fun h0 => by have := hgo h0; simp only; omega, by simp only [rowsOk_append, i5]; rfl, keep_new i6 (none_of i6 e8), .inr (.inr ⟨(nu 8), rfl, put_same _ _ _, n8q, n8, none_of i6 e8⟩)⟩, Env.Sub_of_has (by simp [Env.Has, Env.get]), by simp only [pO, List.nil_append]; exact Store.Sub.refl _⟩
        · have st := put_swap hto
          have stq := put_swap htq
          have ott := put_oth hto
          have otq := put_oth htq
          simp -dsimp (disch:=omega) only[go_sem,Nat.reduceLT,Nat.reduceLeDiff,Nat.reduceEqDiff,Nat.reduceAdd,Nat.reduceMul,Int.reduceNeg,Nat.reduceBEq,reduceCtorEq,↓reduceIte,sw, ot, st, stq, ott, otq, ht, i5, ps_under htq hto, ps_in hqo]
          repeat' first
           |refine s1 ?_|refine s2 ?_|refine wt rfl ?_|refine wf rfl ?_|(refine wc rfl (fun h=>?_) (fun h=>?_)<;>(try simp only[Bool.not_eq_true',Bool.not_eq_false',decide_eq_true_eq,decide_eq_false_iff_not,Bool.not_not] at h)<;>(try first|exact bt (by assumption) (by assumption)|contradiction|(exfalso;omega)))|((first|refine s3 (mu:=[]) ?_|(refine W_region_any [] c0 mx (by kernel_rfl) ?_;intro nu _ _)|refine prun_go ?_|refine drun_go ?_|refine s5 ?_|refine s6 ?_|with_reducible apply s7);simp -dsimp (disch:=omega) only[go_sem,Nat.reduceLT,Nat.reduceLeDiff,Nat.reduceEqDiff,Nat.reduceAdd,Nat.reduceMul,Int.reduceNeg,Nat.reduceBEq,reduceCtorEq,↓reduceIte,sw, ot, st, stq, ott, otq, ht, i5, ps_under htq hto, ps_in hqo])
           |refine e1 ?_|refine e2 ?_|refine e3 ?_|refine e4 ?_|refine e5 ?_|refine e6 ?_|refine e7 ?_|refine e8 ?_|refine e9 ?_|refine e0 (by decide) ?_|refine ea ?_|(refine And.intro ?_ ?_;omega)|refine And.intro (of_eq_true PutAt_put) ?_|refine And.intro (show PutSome _ _ by simp only[PutSome_self,PutSome_put,PutSome_same,sw, ot, st, stq, ott, otq, ht, i5, ps_under htq hto, ps_in hqo]) ?_
           |((first|refine gn (fun h=>?_) (fun h=>?_)|refine gf (fun h=>?_) (fun h=>?_)|refine gb (fun h=>?_) (fun h=>?_)|refine gp (fun h=>?_) (fun h=>?_))<;>(try first|exact bt (by assumption) (by assumption)|contradiction|(exfalso;omega))<;>(try with_reducible apply s7)<;>(try simp -dsimp (disch:=omega) only[h,go_sem,Nat.reduceLT,Nat.reduceLeDiff,Nat.reduceEqDiff,Nat.reduceAdd,Nat.reduceMul,Int.reduceNeg,Nat.reduceBEq,reduceCtorEq,↓reduceIte,sw, ot, st, stq, ott, otq, ht, i5, ps_under htq hto, ps_in hqo]))|refine Exists.intro _ (Exists.intro _ (And.intro (And.intro rfl rfl) ?_))
           |refine cy (hpt2 _) ?_|refine cz (hpt2 _) ?_
          refine ⟨⟨f, p7, .tip t, rows ++ [.agg [.int .i64 na, .int .i64 nz]], τ.put t (.tip (rows ++ [AV.agg [.int .i64 na, .int .i64 nz]]).length 265 2)⟩, by simp, ⟨hl7, rfl, by simp at i3 ⊢; omega, fun h0 => by have := hgo h0; simp only; omega, by simp only [rowsOk_append, i5]; rfl, keep_new i6 hts, .inr (.inr ⟨t, rfl, put_same _ _ _, htq, hto, hts⟩)⟩, Env.Sub_of_has (by simp [Env.Has, Env.get]), by simp only [pO, List.nil_append]; exact Store.Sub.refl _⟩
    · have hz : setB (B s) fuel ⟨at5, r5⟩ = ⟨at5, r5⟩ := by
        cases fuel with
        | zero => rfl
        | succ n => rw [setB, if_neg he]
      rw [hz]
      simp only [nodeO] at fin ⊢
      repeat' first
       |refine s1 ?_|refine s2 ?_|refine wt rfl ?_|refine wf rfl ?_|(refine wc rfl (fun h=>?_) (fun h=>?_)<;>(try simp only[Bool.not_eq_true',Bool.not_eq_false',decide_eq_true_eq,decide_eq_false_iff_not,Bool.not_not] at h)<;>(try first|exact bt (by assumption) (by assumption)|contradiction|(exfalso;omega)))|((first|refine s3 (mu:=[]) ?_|(refine W_region_any [] c0 mx (by kernel_rfl) ?_;intro nu _ _)|refine prun_go ?_|refine drun_go ?_|refine s5 ?_|refine s6 ?_|with_reducible apply s7);simp -dsimp (disch:=omega) only[go_sem,Nat.reduceLT,Nat.reduceLeDiff,Nat.reduceEqDiff,Nat.reduceAdd,Nat.reduceMul,Int.reduceNeg,Nat.reduceBEq,reduceCtorEq,↓reduceIte,he])
       |refine e1 ?_|refine e2 ?_|refine e3 ?_|refine e4 ?_|refine e5 ?_|refine e6 ?_|refine e7 ?_|refine e8 ?_|refine e9 ?_|refine e0 (by decide) ?_|refine ea ?_|(refine And.intro ?_ ?_;omega)|refine And.intro (of_eq_true PutAt_put) ?_
       |((first|refine gn (fun h=>?_) (fun h=>?_)|refine gf (fun h=>?_) (fun h=>?_)|refine gb (fun h=>?_) (fun h=>?_)|refine gp (fun h=>?_) (fun h=>?_))<;>(try first|exact bt (by assumption) (by assumption)|contradiction|(exfalso;omega))<;>(try with_reducible apply s7)<;>(try simp -dsimp (disch:=omega) only[h,go_sem,Nat.reduceLT,Nat.reduceLeDiff,Nat.reduceEqDiff,Nat.reduceAdd,Nat.reduceMul,Int.reduceNeg,Nat.reduceBEq,reduceCtorEq,↓reduceIte,he]))|refine Exists.intro _ (Exists.intro _ (And.intro (And.intro rfl rfl) ?_))
      exact fin _
  | false =>
  cases b3 with
  | true =>
    simp only [Bool.false_eq_true, if_false, if_true]
    have h4 := hch p3 hl3 o
    have hd : (8 - (n : Int) + 1) = 9 - n := by omega
    obtain ⟨q, hq⟩ : ∃ q, choiceB (B s) n p3 = q := ⟨_, rfl⟩
    have hlq : q.at_ ≤ (B s).length := by rw [← hq]; exact (choice_mono (B s) n).len p3 hl3
    have h5 := take_spec s hs q hlq 41 o
    obtain ⟨b4, p4, hp4⟩ : ∃ b4 p4, takeB (B s) 41 q = (b4, p4) := ⟨_, _, rfl⟩
    have h6 : ∀ σ : Store, PCall Tryz.prog 166 [.ptr o 0 0, .int .i64 4] (σ.put o (pO s p4)) (fun r t => r = .tup [] ∧ t = σ.put o (pO s (failB 4 p4))) := fun σ => fail_spec s p4 4 o σ
    simp only [hq, hp4] at h4 h5 ⊢
    obtain ⟨qa, qe⟩ := q
    by_cases hqe : qe = 0
    · subst hqe
      cases b4 with
      | true =>
        simp only [if_true]
        refine PCall_w [.tmp 4] 73 Tryz.func206 (by rfl) rfl rfl rfl rfl ?_
        repeat' first
         |refine s1 ?_|refine s2 ?_|refine wt rfl ?_|refine wf rfl ?_|(refine wc rfl (fun h=>?_) (fun h=>?_)<;>(try simp only[Bool.not_eq_true',Bool.not_eq_false',decide_eq_true_eq,decide_eq_false_iff_not,Bool.not_not] at h)<;>(try first|exact bt (by assumption) (by assumption)|contradiction|(exfalso;omega)))|((first|refine s3 (mu:=[]) ?_|(refine W_region_any [] c0 mx (by kernel_rfl) ?_;intro nu _ _)|refine prun_go ?_|refine drun_go ?_|refine s5 ?_|refine s6 ?_|with_reducible apply s7);simp -dsimp (disch:=omega) only[go_sem,Nat.reduceLT,Nat.reduceLeDiff,Nat.reduceEqDiff,Nat.reduceAdd,Nat.reduceMul,Int.reduceNeg,Nat.reduceBEq,reduceCtorEq,↓reduceIte,hd])
         |refine e1 ?_|refine e2 ?_|refine e3 ?_|refine e4 ?_|refine e5 ?_|refine e6 ?_|refine e7 ?_|refine e8 ?_|refine e9 ?_|refine e0 (by decide) ?_|refine ea ?_|(refine And.intro ?_ ?_;omega)|refine And.intro (of_eq_true PutAt_put) ?_
         |((first|refine gn (fun h=>?_) (fun h=>?_)|refine gf (fun h=>?_) (fun h=>?_)|refine gb (fun h=>?_) (fun h=>?_)|refine gp (fun h=>?_) (fun h=>?_))<;>(try first|exact bt (by assumption) (by assumption)|contradiction|(exfalso;omega))<;>(try with_reducible apply s7)<;>(try simp -dsimp (disch:=omega) only[h,go_sem,Nat.reduceLT,Nat.reduceLeDiff,Nat.reduceEqDiff,Nat.reduceAdd,Nat.reduceMul,Int.reduceNeg,Nat.reduceBEq,reduceCtorEq,↓reduceIte,hd]))|refine Exists.intro _ (Exists.intro _ (And.intro (And.intro rfl rfl) ?_))
         |refine cy (h1 _) ?_|refine cz (h1 _) ?_
         |refine cy (h2 _) ?_|refine cz (h2 _) ?_
         |refine cy (h3 _) ?_|refine cz (h3 _) ?_
         |refine cy (h4 _) ?_|refine cz (h4 _) ?_
         |refine cy (h5 _) ?_|refine cz (h5 _) ?_
         |refine cy (h6 _) ?_|refine cz (h6 _) ?_
      | false =>
        simp only [if_true, Bool.false_eq_true, if_false]
        refine PCall_w [.tmp 4] 73 Tryz.func206 (by rfl) rfl rfl rfl rfl ?_
        repeat' first
         |refine s1 ?_|refine s2 ?_|refine wt rfl ?_|refine wf rfl ?_|(refine wc rfl (fun h=>?_) (fun h=>?_)<;>(try simp only[Bool.not_eq_true',Bool.not_eq_false',decide_eq_true_eq,decide_eq_false_iff_not,Bool.not_not] at h)<;>(try first|exact bt (by assumption) (by assumption)|contradiction|(exfalso;omega)))|((first|refine s3 (mu:=[]) ?_|(refine W_region_any [] c0 mx (by kernel_rfl) ?_;intro nu _ _)|refine prun_go ?_|refine drun_go ?_|refine s5 ?_|refine s6 ?_|with_reducible apply s7);simp -dsimp (disch:=omega) only[go_sem,Nat.reduceLT,Nat.reduceLeDiff,Nat.reduceEqDiff,Nat.reduceAdd,Nat.reduceMul,Int.reduceNeg,Nat.reduceBEq,reduceCtorEq,↓reduceIte,hd])
         |refine e1 ?_|refine e2 ?_|refine e3 ?_|refine e4 ?_|refine e5 ?_|refine e6 ?_|refine e7 ?_|refine e8 ?_|refine e9 ?_|refine e0 (by decide) ?_|refine ea ?_|(refine And.intro ?_ ?_;omega)|refine And.intro (of_eq_true PutAt_put) ?_
         |((first|refine gn (fun h=>?_) (fun h=>?_)|refine gf (fun h=>?_) (fun h=>?_)|refine gb (fun h=>?_) (fun h=>?_)|refine gp (fun h=>?_) (fun h=>?_))<;>(try first|exact bt (by assumption) (by assumption)|contradiction|(exfalso;omega))<;>(try with_reducible apply s7)<;>(try simp -dsimp (disch:=omega) only[h,go_sem,Nat.reduceLT,Nat.reduceLeDiff,Nat.reduceEqDiff,Nat.reduceAdd,Nat.reduceMul,Int.reduceNeg,Nat.reduceBEq,reduceCtorEq,↓reduceIte,hd]))|refine Exists.intro _ (Exists.intro _ (And.intro (And.intro rfl rfl) ?_))
         |refine cy (h1 _) ?_|refine cz (h1 _) ?_
         |refine cy (h2 _) ?_|refine cz (h2 _) ?_
         |refine cy (h3 _) ?_|refine cz (h3 _) ?_
         |refine cy (h4 _) ?_|refine cz (h4 _) ?_
         |refine cy (h5 _) ?_|refine cz (h5 _) ?_
         |refine cy (h6 _) ?_|refine cz (h6 _) ?_
    · simp only [if_neg hqe]
      refine PCall_w [.tmp 4] 73 Tryz.func206 (by rfl) rfl rfl rfl rfl ?_
      repeat' first
       |refine s1 ?_|refine s2 ?_|refine wt rfl ?_|refine wf rfl ?_|(refine wc rfl (fun h=>?_) (fun h=>?_)<;>(try simp only[Bool.not_eq_true',Bool.not_eq_false',decide_eq_true_eq,decide_eq_false_iff_not,Bool.not_not] at h)<;>(try first|exact bt (by assumption) (by assumption)|contradiction|(exfalso;omega)))|((first|refine s3 (mu:=[]) ?_|(refine W_region_any [] c0 mx (by kernel_rfl) ?_;intro nu _ _)|refine prun_go ?_|refine drun_go ?_|refine s5 ?_|refine s6 ?_|with_reducible apply s7);simp -dsimp (disch:=omega) only[go_sem,Nat.reduceLT,Nat.reduceLeDiff,Nat.reduceEqDiff,Nat.reduceAdd,Nat.reduceMul,Int.reduceNeg,Nat.reduceBEq,reduceCtorEq,↓reduceIte,hqe, hd])
       |refine e1 ?_|refine e2 ?_|refine e3 ?_|refine e4 ?_|refine e5 ?_|refine e6 ?_|refine e7 ?_|refine e8 ?_|refine e9 ?_|refine e0 (by decide) ?_|refine ea ?_|(refine And.intro ?_ ?_;omega)|refine And.intro (of_eq_true PutAt_put) ?_
       |((first|refine gn (fun h=>?_) (fun h=>?_)|refine gf (fun h=>?_) (fun h=>?_)|refine gb (fun h=>?_) (fun h=>?_)|refine gp (fun h=>?_) (fun h=>?_))<;>(try first|exact bt (by assumption) (by assumption)|contradiction|(exfalso;omega))<;>(try with_reducible apply s7)<;>(try simp -dsimp (disch:=omega) only[h,go_sem,Nat.reduceLT,Nat.reduceLeDiff,Nat.reduceEqDiff,Nat.reduceAdd,Nat.reduceMul,Int.reduceNeg,Nat.reduceBEq,reduceCtorEq,↓reduceIte,hqe, hd]))|refine Exists.intro _ (Exists.intro _ (And.intro (And.intro rfl rfl) ?_))
       |refine cy (h1 _) ?_|refine cz (h1 _) ?_
       |refine cy (h2 _) ?_|refine cz (h2 _) ?_
       |refine cy (h3 _) ?_|refine cz (h3 _) ?_
       |refine cy (h4 _) ?_|refine cz (h4 _) ?_
       |refine cy (h5 _) ?_|refine cz (h5 _) ?_
       |refine cy (h6 _) ?_|refine cz (h6 _) ?_
  | false =>
    simp only [Bool.false_eq_true, if_false]
    have h4 := number_spec s hs p3 hl3 o
    obtain ⟨a, q, hq⟩ : ∃ a q, numberB (B s) p3 = (a, q) := ⟨_, _, rfl⟩
    simp only [hq] at h4 ⊢
    refine PCall_w [.tmp 4] 73 Tryz.func206 (by rfl) rfl rfl rfl rfl ?_
    repeat' first
     |refine s1 ?_|refine s2 ?_|refine wt rfl ?_|refine wf rfl ?_|(refine wc rfl (fun h=>?_) (fun h=>?_)<;>(try simp only[Bool.not_eq_true',Bool.not_eq_false',decide_eq_true_eq,decide_eq_false_iff_not,Bool.not_not] at h)<;>(try first|exact bt (by assumption) (by assumption)|contradiction|(exfalso;omega)))|((first|refine s3 (mu:=[]) ?_|(refine W_region_any [] c0 mx (by kernel_rfl) ?_;intro nu _ _)|refine prun_go ?_|refine drun_go ?_|refine s5 ?_|refine s6 ?_|with_reducible apply s7);simp -dsimp (disch:=omega) only[go_sem,Nat.reduceLT,Nat.reduceLeDiff,Nat.reduceEqDiff,Nat.reduceAdd,Nat.reduceMul,Int.reduceNeg,Nat.reduceBEq,reduceCtorEq,↓reduceIte])
     |refine e1 ?_|refine e2 ?_|refine e3 ?_|refine e4 ?_|refine e5 ?_|refine e6 ?_|refine e7 ?_|refine e8 ?_|refine e9 ?_|refine e0 (by decide) ?_|refine ea ?_|(refine And.intro ?_ ?_;omega)|refine And.intro (of_eq_true PutAt_put) ?_
     |((first|refine gn (fun h=>?_) (fun h=>?_)|refine gf (fun h=>?_) (fun h=>?_)|refine gb (fun h=>?_) (fun h=>?_)|refine gp (fun h=>?_) (fun h=>?_))<;>(try first|exact bt (by assumption) (by assumption)|contradiction|(exfalso;omega))<;>(try with_reducible apply s7)<;>(try simp -dsimp (disch:=omega) only[h,go_sem,Nat.reduceLT,Nat.reduceLeDiff,Nat.reduceEqDiff,Nat.reduceAdd,Nat.reduceMul,Int.reduceNeg,Nat.reduceBEq,reduceCtorEq,↓reduceIte]))|refine Exists.intro _ (Exists.intro _ (And.intro (And.intro rfl rfl) ?_))
     |refine cy (h1 _) ?_|refine cz (h1 _) ?_
     |refine cy (h2 _) ?_|refine cz (h2 _) ?_
     |refine cy (h3 _) ?_|refine cz (h3 _) ?_
     |refine cy (h4 _) ?_|refine cz (h4 _) ?_
end
end Go.Proofs.YtaealcimocpnnaaGreat
