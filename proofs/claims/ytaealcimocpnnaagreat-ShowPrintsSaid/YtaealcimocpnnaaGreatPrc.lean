/- What the claim needs, part 3: Bc Bd Be Ca Bf Bg Bh Bi Bj Bk Bl Bm KnW Bo Bp Bq. Conditions: none. -/
import Derived.Test.YtaealcimocpnnaaGreatPrb
import Derived.Shelf.Strings.OnBuilder
import Derived.Shelf.Strings.Repeat
import Derived.Laws.BitsAllLaws
set_option linter.unusedVariables false
set_option linter.unusedSimpArgs false
set_option linter.unusedSectionVars false
namespace Go.Proofs.YtaealcimocpnnaaGreat
open Go.Kern
set_option maxRecDepth 100000
set_option maxHeartbeats 4000000
attribute [local irreducible] PCall W
def withinZ (n a b : Int) : Bool := decide (a ≤ n) && decide (n ≤ b)
theorem within_spec (n a b : Int) : Pure Tryz.prog 77 [.int .i64 n, .int .i64 a, .int .i64 b] (.bool (withinZ n a b)) := by
  intro σ
  refine PCall_q [.tmp 6] 15 Tryz.func77 (by rfl) rfl rfl rfl rfl ?_
  repeat' first |refine s1 ?_|refine gS ?_|refine wT rfl ?_|refine wF rfl ?_|(refine wC rfl (fun h=>?_) (fun h=>?_)<;>(try contradiction))|((first|refine rd ?_|refine ry [] c0 fun nu _ _=>?_);simp -dsimp (disch:=omega) only[go_sem])|refine e0 (by decide) ?_|(refine And.intro ?_ ?_;omega)|refine And.intro (of_eq_true PutAt_put) ?_|refine gT ?_|refine gF ?_|(refine gI (fun h=>?_) (fun h=>?_)<;>(try contradiction)<;>(try refine rd ?_)<;>(try simp -dsimp (disch:=omega) only[go_sem,h]))|refine Exists.intro _ (Exists.intro _ (And.intro (And.intro rfl rfl) ?_)) |fail
  all_goals (simp_all [withinZ] <;> omega)
def letterZ (c : Int) : Bool := decide (97 ≤ c) && decide (c ≤ 122)
theorem letter_spec (c : Int) : Pure Tryz.prog 176 [.int .u8 c] (.bool (letterZ c)) := by
  intro σ
  refine PCall_q [.tmp 2] 9 Tryz.func176 (by rfl) rfl rfl rfl rfl ?_
  repeat' first |refine s1 ?_|refine gS ?_|refine wT rfl ?_|refine wF rfl ?_|(refine wC rfl (fun h=>?_) (fun h=>?_)<;>(try contradiction))|((first|refine rd ?_|refine ry [] c0 fun nu _ _=>?_);simp -dsimp (disch:=omega) only[go_sem])|refine e0 (by decide) ?_|(refine And.intro ?_ ?_;omega)|refine And.intro (of_eq_true PutAt_put) ?_|refine gT ?_|refine gF ?_|(refine gI (fun h=>?_) (fun h=>?_)<;>(try contradiction)<;>(try refine rd ?_)<;>(try simp -dsimp (disch:=omega) only[go_sem,h]))|refine Exists.intro _ (Exists.intro _ (And.intro (And.intro rfl rfl) ?_)) |fail
  all_goals (simp_all [letterZ] <;> omega)
def okZ (c : Int) : Bool := letterZ c || (decide (48 ≤ c) && decide (c ≤ 57)) || decide (c = 45) || decide (c = 95)
def okB (c : UInt8) : Bool := okZ c.toNat
def formedB (s : ByteArray) : Bool := letterZ ((B s).getD 0 default).toNat && !(B s).isEmpty && (B s).all okB
theorem formed_spec (s : ByteArray) (hs : s.size ≤ 9223372036854775807) : Pure Tryz.prog 144 [.str s] (.bool (formedB s)) := by
  intro σ
  have hl := length_B s
  refine PCall_q [.tmp 2] 40 Tryz.func144 (by rfl) rfl rfl rfl rfl ?_
  by_cases h0 : s = ⟨#[]⟩
  · subst h0
    repeat' first |refine s1 ?_|refine gS ?_|refine wT rfl ?_|refine wF rfl ?_|(refine wC rfl (fun h=>?_) (fun h=>?_)<;>(try contradiction))|((first|refine rd ?_|refine ry [] c0 fun nu _ _=>?_);simp -dsimp (disch:=omega) only[go_sem])|refine e0 (by decide) ?_|(refine And.intro ?_ ?_;omega)|refine And.intro (of_eq_true PutAt_put) ?_|refine gT ?_|refine gF ?_|(refine gI (fun h=>?_) (fun h=>?_)<;>(try contradiction)<;>(try refine rd ?_)<;>(try simp -dsimp (disch:=omega) only[go_sem,h]))|refine Exists.intro _ (Exists.intro _ (And.intro (And.intro rfl rfl) ?_)) |fail
    rfl
  have hpos : 0 < (B s).length := by
    rcases Nat.eq_zero_or_pos (B s).length with h | h
    · exact absurd (B_inj.1 (List.eq_nil_of_length_eq_zero h : B s = B ⟨#[]⟩)) h0
    · exact h
  have hne : (B s).isEmpty = false := by
    cases h : B s with
    | nil => rw [h] at hpos; simp at hpos
    | cons a l => rfl
  rcases Bool.eq_false_or_eq_true (letterZ ((B s).getD 0 default).toNat) with hL | hL
  · skip
    repeat' first |refine s1 ?_|refine gS ?_|refine wT rfl ?_|refine wF rfl ?_|(refine wC rfl (fun h=>?_) (fun h=>?_)<;>(try contradiction))|((first|refine rd ?_|refine ry [] c0 fun nu _ _=>?_);simp -dsimp (disch:=omega) only[go_sem,h0, hL])|refine e0 (by decide) ?_|(refine And.intro ?_ ?_;omega)|refine And.intro (of_eq_true PutAt_put) ?_|refine gT ?_|refine gF ?_|(refine gI (fun h=>?_) (fun h=>?_)<;>(try contradiction)<;>(try refine rd ?_)<;>(try simp -dsimp (disch:=omega) only[go_sem,h,h0, hL]))|refine Exists.intro _ (Exists.intro _ (And.intro (And.intro rfl rfl) ?_)) |refine us (letter_spec _) ?_ |fail
    refine W_loop_st (fun i : Nat => [(14, .sl .imm (encL eB (B s))), (15, .int .i64 s.size), (16, .int .i64 i)]) (fun _ => σ) (fun i => i ≤ (B s).length ∧ (B s).all okB = ((B s).drop i).all okB) (fun i => (B s).length - i) 0 ⟨Nat.zero_le _, rfl⟩ (Env.Sub_of_has (by simp [Env.Has, Env.get, hl])) (Store.Sub.refl _) ?_
    rintro i ⟨hi, hor⟩
    by_cases hlt : i < (B s).length
    · have ho := all_drop okB hlt
      obtain ⟨x, hx⟩ : ∃ x, (B s).getD i default = x := ⟨_, rfl⟩
      rw [hx] at ho
      repeat' first |refine s1 ?_|refine gS ?_|refine wT rfl ?_|refine wF rfl ?_|(refine wC rfl (fun h=>?_) (fun h=>?_)<;>(try contradiction))|((first|refine rd ?_|refine ry [] c0 fun nu _ _=>?_);simp -dsimp (disch:=omega) only[go_sem,hx])|refine e0 (by decide) ?_|(refine And.intro ?_ ?_;omega)|refine And.intro (of_eq_true PutAt_put) ?_|refine gT ?_|refine gF ?_|(refine gI (fun h=>?_) (fun h=>?_)<;>(try contradiction)<;>(try refine rd ?_)<;>(try simp -dsimp (disch:=omega) only[go_sem,h,hx]))|refine Exists.intro _ (Exists.intro _ (And.intro (And.intro rfl rfl) ?_)) |refine us (letter_spec _) ?_ |fail
      all_goals first
        | (refine ⟨i + 1, by omega, ⟨by omega, ?_⟩, Env.Sub_of_has (by simp [Env.Has, Env.get]), Store.Sub.refl _⟩
           rw [hor, ho, show okB x = true from by simp [okB, okZ, *]; try omega]
           rfl)
        | (rw [show formedB s = false from by
            unfold formedB
            rw [hor, ho, show okB x = false from by simp [okB, okZ, *]; omega]
            simp])
    · have hi' : i = (B s).length := by omega
      subst hi'
      repeat' first |refine s1 ?_|refine gS ?_|refine wT rfl ?_|refine wF rfl ?_|(refine wC rfl (fun h=>?_) (fun h=>?_)<;>(try contradiction))|((first|refine rd ?_|refine ry [] c0 fun nu _ _=>?_);simp -dsimp (disch:=omega) only[go_sem])|refine e0 (by decide) ?_|(refine And.intro ?_ ?_;omega)|refine And.intro (of_eq_true PutAt_put) ?_|refine gT ?_|refine gF ?_|(refine gI (fun h=>?_) (fun h=>?_)<;>(try contradiction)<;>(try refine rd ?_)<;>(try simp -dsimp (disch:=omega) only[go_sem,h]))|refine Exists.intro _ (Exists.intro _ (And.intro (And.intro rfl rfl) ?_)) |fail
      rw [formedB, hL, hne, hor, List.drop_length]; rfl
  · skip
    repeat' first |refine s1 ?_|refine gS ?_|refine wT rfl ?_|refine wF rfl ?_|(refine wC rfl (fun h=>?_) (fun h=>?_)<;>(try contradiction))|((first|refine rd ?_|refine ry [] c0 fun nu _ _=>?_);simp -dsimp (disch:=omega) only[go_sem,h0, hL])|refine e0 (by decide) ?_|(refine And.intro ?_ ?_;omega)|refine And.intro (of_eq_true PutAt_put) ?_|refine gT ?_|refine gF ?_|(refine gI (fun h=>?_) (fun h=>?_)<;>(try contradiction)<;>(try refine rd ?_)<;>(try simp -dsimp (disch:=omega) only[go_sem,h,h0, hL]))|refine Exists.intro _ (Exists.intro _ (And.intro (And.intro rfl rfl) ?_)) |refine us (letter_spec _) ?_ |fail
    rw [formedB, hL]; rfl
def nameB (s : ByteArray) : Bool := formedB s && decide (s.size ≤ 12)
theorem name_spec (s : ByteArray) (hs : s.size ≤ 9223372036854775807) : Pure Tryz.prog 94 [.str s] (.bool (nameB s)) := by
  intro σ
  refine PCall_q [.tmp 2] 10 Tryz.func94 (by rfl) rfl rfl rfl rfl ?_
  repeat' first |refine s1 ?_|refine gS ?_|refine wT rfl ?_|refine wF rfl ?_|(refine wC rfl (fun h=>?_) (fun h=>?_)<;>(try contradiction))|((first|refine rd ?_|refine ry [] c0 fun nu _ _=>?_);simp -dsimp (disch:=omega) only[go_sem])|refine e0 (by decide) ?_|(refine And.intro ?_ ?_;omega)|refine And.intro (of_eq_true PutAt_put) ?_|refine gT ?_|refine gF ?_|(refine gI (fun h=>?_) (fun h=>?_)<;>(try contradiction)<;>(try refine rd ?_)<;>(try simp -dsimp (disch:=omega) only[go_sem,h]))|refine Exists.intro _ (Exists.intro _ (And.intro (And.intro rfl rfl) ?_)) |refine us (formed_spec s hs) ?_ |fail
  all_goals (simp_all [nameB]; try omega)
def usedB (s : ByteArray) : Bool := decide (s.size = 0) || nameB s
theorem empty_iff (s : ByteArray) : s = ⟨#[]⟩ ↔ s.size = 0 := by
  constructor
  · rintro rfl; rfl
  · intro h
    exact B_inj.1 (List.eq_nil_of_length_eq_zero ((length_B s).trans h) : B s = B ⟨#[]⟩)
theorem used_spec (s : ByteArray) (hs : s.size ≤ 9223372036854775807) : Pure Tryz.prog 87 [.str s] (.bool (usedB s)) := by
  intro σ
  refine PCall_q [.tmp 2] 9 Tryz.func87 (by rfl) rfl rfl rfl rfl ?_
  repeat' first |refine s1 ?_|refine gS ?_|refine wT rfl ?_|refine wF rfl ?_|(refine wC rfl (fun h=>?_) (fun h=>?_)<;>(try contradiction))|((first|refine rd ?_|refine ry [] c0 fun nu _ _=>?_);simp -dsimp (disch:=omega) only[go_sem])|refine e0 (by decide) ?_|(refine And.intro ?_ ?_;omega)|refine And.intro (of_eq_true PutAt_put) ?_|refine gT ?_|refine gF ?_|(refine gI (fun h=>?_) (fun h=>?_)<;>(try contradiction)<;>(try refine rd ?_)<;>(try simp -dsimp (disch:=omega) only[go_sem,h]))|refine Exists.intro _ (Exists.intro _ (And.intro (And.intro rfl rfl) ?_)) |refine us (name_spec s hs) ?_ |fail
  all_goals simp_all [usedB, empty_iff]
def comMay (c : Com) : Bool := withinZ c.asn 1 65535 && withinZ c.n 0 65535
theorem comMay_spec (c : Com) : Pure Tryz.prog 131 [eCom c] (.bool (comMay c)) := by
  intro σ
  refine PCall_q [.tmp 2] 21 Tryz.func131 (by rfl) rfl rfl rfl rfl ?_
  repeat' first |refine s1 ?_|refine gS ?_|refine wT rfl ?_|refine wF rfl ?_|(refine wC rfl (fun h=>?_) (fun h=>?_)<;>(try contradiction))|((first|refine rd ?_|refine ry [] c0 fun nu _ _=>?_);simp -dsimp (disch:=omega) only[go_sem])|refine e0 (by decide) ?_|(refine And.intro ?_ ?_;omega)|refine And.intro (of_eq_true PutAt_put) ?_|refine gT ?_|refine gF ?_|(refine gI (fun h=>?_) (fun h=>?_)<;>(try contradiction)<;>(try refine rd ?_)<;>(try simp -dsimp (disch:=omega) only[go_sem,h]))|refine Exists.intro _ (Exists.intro _ (And.intro (And.intro rfl rfl) ?_)) |fail
  all_goals (simp only [comMay, withinZ]; congr 1; rw [Bool.eq_iff_iff]; simp; omega)
def quoteB (c : UInt8) : Bool := decide (c.toNat < 32) || decide (126 < c.toNat) || decide (c.toNat = 34)
theorem quotable1_spec (c : UInt8) : Pure Tryz.prog 168 [eB c] (.bool (quoteB c)) := by
  intro σ
  refine PCall_q [.tmp 2] 13 Tryz.func168 (by rfl) rfl rfl rfl rfl ?_
  repeat' first |refine s1 ?_|refine gS ?_|refine wT rfl ?_|refine wF rfl ?_|(refine wC rfl (fun h=>?_) (fun h=>?_)<;>(try contradiction))|((first|refine rd ?_|refine ry [] c0 fun nu _ _=>?_);simp -dsimp (disch:=omega) only[go_sem])|refine e0 (by decide) ?_|(refine And.intro ?_ ?_;omega)|refine And.intro (of_eq_true PutAt_put) ?_|refine gT ?_|refine gF ?_|(refine gI (fun h=>?_) (fun h=>?_)<;>(try contradiction)<;>(try refine rd ?_)<;>(try simp -dsimp (disch:=omega) only[go_sem,h]))|refine Exists.intro _ (Exists.intro _ (And.intro (And.intro rfl rfl) ?_)) |fail
  all_goals (simp only [quoteB]; congr 1; rw [Bool.eq_iff_iff]; simp; omega)
def quotableB (s : ByteArray) : Bool := !(B s).any quoteB
theorem quotable_spec (s : ByteArray) (hs : s.size < 4611686018427387904) : Pure Tryz.prog 130 [.str s] (.bool (quotableB s)) := by
  intro σ
  have hc := conFB 168 [] (fun _ : Unit => σ) (fun _ x => (quoteB x, ())) .imm (B s) (by rw [length_B]; exact hs) (fun _ x _ => quotable1_spec x σ) ()
  rw [anyS_pure] at hc
  refine PCall_q [.tmp 2] 7 Tryz.func130 (by rfl) rfl rfl rfl rfl ?_
  repeat' first |refine s1 ?_|refine gS ?_|refine wT rfl ?_|refine wF rfl ?_|(refine wC rfl (fun h=>?_) (fun h=>?_)<;>(try contradiction))|((first|refine rd ?_|refine ry [] c0 fun nu _ _=>?_);simp -dsimp (disch:=omega) only[go_sem])|refine e0 (by decide) ?_|(refine And.intro ?_ ?_;omega)|refine And.intro (of_eq_true PutAt_put) ?_|refine gT ?_|refine gF ?_|(refine gI (fun h=>?_) (fun h=>?_)<;>(try contradiction)<;>(try refine rd ?_)<;>(try simp -dsimp (disch:=omega) only[go_sem,h]))|refine Exists.intro _ (Exists.intro _ (And.intro (And.intro rfl rfl) ?_)) |refine uw (hc) ?_ |fail
  rfl
def maskZ (b : Int) : Int := if b = 0 then 0 else IntKind.u32.wrap (4294967295 * 2 ^ (min (32 - b).toNat 32))
theorem mask_spec (b : Int) (h0 : 0 ≤ b) (h1 : b ≤ 32) : Pure Tryz.prog 138 [.int .i64 b] (.int .u32 (maskZ b)) := by
  intro σ
  refine PCall_q [.tmp 2] 8 Tryz.func138 (by rfl) rfl rfl rfl rfl ?_
  repeat' first |refine s1 ?_|refine gS ?_|refine wT rfl ?_|refine wF rfl ?_|(refine wC rfl (fun h=>?_) (fun h=>?_)<;>(try contradiction))|((first|refine rd ?_|refine ry [] c0 fun nu _ _=>?_);simp -dsimp (disch:=omega) only[go_sem])|refine e0 (by decide) ?_|(refine And.intro ?_ ?_;omega)|refine And.intro (of_eq_true PutAt_put) ?_|refine gT ?_|refine gF ?_|(refine gI (fun h=>?_) (fun h=>?_)<;>(try contradiction)<;>(try refine rd ?_)<;>(try simp -dsimp (disch:=omega) only[go_sem,h]))|refine Exists.intro _ (Exists.intro _ (And.intro (And.intro rfl rfl) ?_)) |fail
  all_goals simp_all [maskZ]
def pfxMay (p : Pfx) : Bool := decide (0 ≤ p.b) && decide (p.b ≤ 32) && decide (bits .andNot .u32 p.a (maskZ p.b) = 0)
theorem pfxMay_spec (p : Pfx) : Pure Tryz.prog 83 [ePfx p] (.bool (pfxMay p)) := by
  intro σ
  refine PCall_q [.tmp 2] 20 Tryz.func83 (by rfl) rfl rfl rfl rfl ?_
  by_cases h0 : 0 ≤ p.b
  · by_cases h1 : p.b ≤ 32
    · have hm := mask_spec p.b h0 h1
      repeat' first |refine s1 ?_|refine gS ?_|refine wT rfl ?_|refine wF rfl ?_|(refine wC rfl (fun h=>?_) (fun h=>?_)<;>(try contradiction))|((first|refine rd ?_|refine ry [] c0 fun nu _ _=>?_);simp -dsimp (disch:=omega) only[go_sem])|refine e0 (by decide) ?_|(refine And.intro ?_ ?_;omega)|refine And.intro (of_eq_true PutAt_put) ?_|refine gT ?_|refine gF ?_|(refine gI (fun h=>?_) (fun h=>?_)<;>(try contradiction)<;>(try refine rd ?_)<;>(try simp -dsimp (disch:=omega) only[go_sem,h]))|refine Exists.intro _ (Exists.intro _ (And.intro (And.intro rfl rfl) ?_)) |refine us (hm) ?_ |fail
      simp [pfxMay, h0, h1]
    · skip
      repeat' first |refine s1 ?_|refine gS ?_|refine wT rfl ?_|refine wF rfl ?_|(refine wC rfl (fun h=>?_) (fun h=>?_)<;>(try contradiction))|((first|refine rd ?_|refine ry [] c0 fun nu _ _=>?_);simp -dsimp (disch:=omega) only[go_sem])|refine e0 (by decide) ?_|(refine And.intro ?_ ?_;omega)|refine And.intro (of_eq_true PutAt_put) ?_|refine gT ?_|refine gF ?_|(refine gI (fun h=>?_) (fun h=>?_)<;>(try contradiction)<;>(try refine rd ?_)<;>(try simp -dsimp (disch:=omega) only[go_sem,h]))|refine Exists.intro _ (Exists.intro _ (And.intro (And.intro rfl rfl) ?_)) |fail
      simp [pfxMay, h0, h1]
  · skip
    repeat' first |refine s1 ?_|refine gS ?_|refine wT rfl ?_|refine wF rfl ?_|(refine wC rfl (fun h=>?_) (fun h=>?_)<;>(try contradiction))|((first|refine rd ?_|refine ry [] c0 fun nu _ _=>?_);simp -dsimp (disch:=omega) only[go_sem])|refine e0 (by decide) ?_|(refine And.intro ?_ ?_;omega)|refine And.intro (of_eq_true PutAt_put) ?_|refine gT ?_|refine gF ?_|(refine gI (fun h=>?_) (fun h=>?_)<;>(try contradiction)<;>(try refine rd ?_)<;>(try simp -dsimp (disch:=omega) only[go_sem,h]))|refine Exists.intro _ (Exists.intro _ (And.intro (And.intro rfl rfl) ?_)) |fail
    simp [pfxMay, h0]
def rngMay (r : Rng) : Bool := pfxMay r.p && decide (r.p.b ≤ r.ge) && decide (r.ge ≤ r.le) && decide (r.le ≤ 32)
theorem rngMay_spec (r : Rng) : Pure Tryz.prog 72 [eRng r] (.bool (rngMay r)) := by
  intro σ
  have h := pfxMay_spec r.p
  refine PCall_q [.tmp 2] 26 Tryz.func72 (by rfl) rfl rfl rfl rfl ?_
  repeat' first |refine s1 ?_|refine gS ?_|refine wT rfl ?_|refine wF rfl ?_|(refine wC rfl (fun h=>?_) (fun h=>?_)<;>(try contradiction))|((first|refine rd ?_|refine ry [] c0 fun nu _ _=>?_);simp -dsimp (disch:=omega) only[go_sem])|refine e0 (by decide) ?_|(refine And.intro ?_ ?_;omega)|refine And.intro (of_eq_true PutAt_put) ?_|refine gT ?_|refine gF ?_|(refine gI (fun h=>?_) (fun h=>?_)<;>(try contradiction)<;>(try refine rd ?_)<;>(try simp -dsimp (disch:=omega) only[go_sem,h]))|refine Exists.intro _ (Exists.intro _ (And.intro (And.intro rfl rfl) ?_)) |refine us (h) ?_ |fail
  all_goals (simp_all [rngMay]; try omega)
def rngsMay (l : List Rng) : Int := if 16 < l.length then 2 else if l.all rngMay = true then 0 else 1
theorem rngsMay_spec (k : SK) (l : List Rng) (hl : l.length < 4611686018427387904) : Pure Tryz.prog 29 [.sl k (encL eRng l)] (.int .i64 (rngsMay l)) := by
  intro σ
  refine PCall_q [.tmp 2] 18 Tryz.func29 (by rfl) rfl rfl rfl rfl ?_
  by_cases h16 : 16 < l.length
  · skip
    repeat' first |refine s1 ?_|refine gS ?_|refine wT rfl ?_|refine wF rfl ?_|(refine wC rfl (fun h=>?_) (fun h=>?_)<;>(try contradiction))|((first|refine rd ?_|refine ry [] c0 fun nu _ _=>?_);simp -dsimp (disch:=omega) only[go_sem])|refine e0 (by decide) ?_|(refine And.intro ?_ ?_;omega)|refine And.intro (of_eq_true PutAt_put) ?_|refine gT ?_|refine gF ?_|(refine gI (fun h=>?_) (fun h=>?_)<;>(try contradiction)<;>(try refine rd ?_)<;>(try simp -dsimp (disch:=omega) only[go_sem,h]))|refine Exists.intro _ (Exists.intro _ (And.intro (And.intro rfl rfl) ?_)) |fail
    simp [rngsMay, h16]
  repeat' first |refine s1 ?_|refine gS ?_|refine wT rfl ?_|refine wF rfl ?_|(refine wC rfl (fun h=>?_) (fun h=>?_)<;>(try contradiction))|((first|refine rd ?_|refine ry [] c0 fun nu _ _=>?_);simp -dsimp (disch:=omega) only[go_sem])|refine e0 (by decide) ?_|(refine And.intro ?_ ?_;omega)|refine And.intro (of_eq_true PutAt_put) ?_|refine gT ?_|refine gF ?_|(refine gI (fun h=>?_) (fun h=>?_)<;>(try contradiction)<;>(try refine rd ?_)<;>(try simp -dsimp (disch:=omega) only[go_sem,h]))|refine Exists.intro _ (Exists.intro _ (And.intro (And.intro rfl rfl) ?_)) |fail
  refine W_loop_st (fun i : Nat => [(8, .sl k (encL eRng l)), (9, .int .i64 l.length), (10, .int .i64 i)]) (fun _ => σ) (fun i => i ≤ l.length ∧ l.all rngMay = (l.drop i).all rngMay) (fun i => l.length - i) 0 ⟨Nat.zero_le _, rfl⟩ (Env.Sub_of_has (by simp [Env.Has, Env.get])) (Store.Sub.refl _) ?_
  rintro i ⟨hi, hor⟩
  by_cases hlt : i < l.length
  · have ho := all_drop rngMay hlt
    have hc := rngMay_spec (l.getD i default)
    repeat' first |refine s1 ?_|refine gS ?_|refine wT rfl ?_|refine wF rfl ?_|(refine wC rfl (fun h=>?_) (fun h=>?_)<;>(try contradiction))|((first|refine rd ?_|refine ry [] c0 fun nu _ _=>?_);simp -dsimp (disch:=omega) only[go_sem])|refine e0 (by decide) ?_|(refine And.intro ?_ ?_;omega)|refine And.intro (of_eq_true PutAt_put) ?_|refine gT ?_|refine gF ?_|(refine gI (fun h=>?_) (fun h=>?_)<;>(try contradiction)<;>(try refine rd ?_)<;>(try simp -dsimp (disch:=omega) only[go_sem,h]))|refine Exists.intro _ (Exists.intro _ (And.intro (And.intro rfl rfl) ?_)) |refine us (hc) ?_ |fail
    intro o1 ho1
    repeat' first |refine s1 ?_|refine gS ?_|refine wT rfl ?_|refine wF rfl ?_|(refine wC rfl (fun h=>?_) (fun h=>?_)<;>(try contradiction))|((first|refine rd ?_|refine ry [] c0 fun nu _ _=>?_);simp -dsimp (disch:=omega) only[go_sem])|refine e0 (by decide) ?_|(refine And.intro ?_ ?_;omega)|refine And.intro (of_eq_true PutAt_put) ?_|refine gT ?_|refine gF ?_|(refine gI (fun h=>?_) (fun h=>?_)<;>(try contradiction)<;>(try refine rd ?_)<;>(try simp -dsimp (disch:=omega) only[go_sem,h]))|refine Exists.intro _ (Exists.intro _ (And.intro (And.intro rfl rfl) ?_)) |refine us (hc) ?_ |fail
    · exact ⟨by rw [rngsMay, if_neg h16, hor, ho, h]; rfl, Sub_put (Store.Sub.refl _) ho1 _⟩
    · exact ⟨i + 1, by omega, ⟨by omega, by rw [hor, ho, h]; rfl⟩, Env.Sub_of_has (by simp [Env.Has, Env.get]), Sub_put (Store.Sub.refl _) ho1 _⟩
  · have hi' : i = l.length := by omega
    subst hi'
    repeat' first |refine s1 ?_|refine gS ?_|refine wT rfl ?_|refine wF rfl ?_|(refine wC rfl (fun h=>?_) (fun h=>?_)<;>(try contradiction))|((first|refine rd ?_|refine ry [] c0 fun nu _ _=>?_);simp -dsimp (disch:=omega) only[go_sem])|refine e0 (by decide) ?_|(refine And.intro ?_ ?_;omega)|refine And.intro (of_eq_true PutAt_put) ?_|refine gT ?_|refine gF ?_|(refine gI (fun h=>?_) (fun h=>?_)<;>(try contradiction)<;>(try refine rd ?_)<;>(try simp -dsimp (disch:=omega) only[go_sem,h]))|refine Exists.intro _ (Exists.intro _ (And.intro (And.intro rfl rfl) ?_)) |fail
    rw [rngsMay, if_neg h16, hor, List.drop_length]; rfl
theorem setMay1_spec (n : Int) : Pure Tryz.prog 134 [.int .i64 n] (.bool (withinZ n 1 65535)) := by
  intro σ
  refine PCall_q [.tmp 2] 5 Tryz.func134 (by rfl) rfl rfl rfl rfl ?_
  repeat' first |refine s1 ?_|refine gS ?_|refine wT rfl ?_|refine wF rfl ?_|(refine wC rfl (fun h=>?_) (fun h=>?_)<;>(try contradiction))|((first|refine rd ?_|refine ry [] c0 fun nu _ _=>?_);simp -dsimp (disch:=omega) only[go_sem])|refine e0 (by decide) ?_|(refine And.intro ?_ ?_;omega)|refine And.intro (of_eq_true PutAt_put) ?_|refine gT ?_|refine gF ?_|(refine gI (fun h=>?_) (fun h=>?_)<;>(try contradiction)<;>(try refine rd ?_)<;>(try simp -dsimp (disch:=omega) only[go_sem,h]))|refine Exists.intro _ (Exists.intro _ (And.intro (And.intro rfl rfl) ?_)) |refine us (within_spec _ _ _) ?_ |fail
def chgMay (x : Chg) : Bool := withinZ x.pref (-1) 1048576 && (withinZ x.med (-1) 1048576 && (withinZ x.origin (-1) 2 && (eachP 8 comMay x.add && (eachP 8 comMay x.del && eachP 16 (fun n => withinZ n 1 65535) x.pre))))
structure Chg.Fits (x : Chg) : Prop where
  add : x.add.length < 4611686018427387904
  del : x.del.length < 4611686018427387904
  pre : x.pre.length < 4611686018427387904
theorem chgMay_spec (x : Chg) (hx : x.Fits) : Pure Tryz.prog 79 [eChg x] (.bool (chgMay x)) := by
  intro σ
  have h1 := eachPCom 131 [] comMay x.kA x.add 8 hx.add (fun c _ => comMay_spec c)
  have h2 := eachPCom 131 [] comMay x.kD x.del 8 hx.del (fun c _ => comMay_spec c)
  have h3 := eachPI 134 [] (fun n => withinZ n 1 65535) x.kP x.pre 16 hx.pre (fun c _ => setMay1_spec c)
  refine PCall_q [.tmp 2] 31 Tryz.func79 (by rfl) rfl rfl rfl rfl ?_
  repeat' first |refine s1 ?_|refine gS ?_|refine wT rfl ?_|refine wF rfl ?_|(refine wC rfl (fun h=>?_) (fun h=>?_)<;>(try contradiction))|((first|refine rd ?_|refine ry [] c0 fun nu _ _=>?_);simp -dsimp (disch:=omega) only[go_sem])|refine e0 (by decide) ?_|(refine And.intro ?_ ?_;omega)|refine And.intro (of_eq_true PutAt_put) ?_|refine gT ?_|refine gF ?_|(refine gI (fun h=>?_) (fun h=>?_)<;>(try contradiction)<;>(try refine rd ?_)<;>(try simp -dsimp (disch:=omega) only[go_sem,h]))|refine Exists.intro _ (Exists.intro _ (And.intro (And.intro rfl rfl) ?_)) |refine us (within_spec _ _ _) ?_ |refine us (h1) ?_ |refine us (h2) ?_ |refine us (h3) ?_ |fail
  all_goals (simp only [chgMay, *]; simp)
end Go.Proofs.YtaealcimocpnnaaGreat
namespace Go.Proofs.YtaealcimocpnnaaGreat
open Go.Kern
set_option maxRecDepth 100000
set_option maxHeartbeats 4000000
attribute [local irreducible] PCall W
def seenE (ns : List ByteArray) : List (AV × AV) := ns.map fun s => (AV.str s, AV.bool true)
theorem seen_find (ns : List ByteArray) (s : ByteArray) : (seenE ns).find? (fun e => keyB (.str s) e.1) = if ns.any (fun t => decide (t = s)) = true then some (AV.str s, AV.bool true) else none := by
  induction ns with
  | nil => rfl
  | cons t ns ih =>
    simp only [seenE, List.map_cons, List.find?_cons, keyB, List.any_cons] at ih ⊢
    by_cases h : t = s
    · subst h; simp
    · have h2 : ¬ s = t := fun e => h e.symm
      simp only [h, h2, decide_false, Bool.false_or]
      exact ih
theorem seen_set : ∀ (ns : List ByteArray) (s : ByteArray), ns.any (fun t => decide (t = s)) = false → asetA (.str s) (.bool true) (seenE ns) = seenE (ns ++ [s])
  | [], s, _ => rfl
  | t :: ns, s, h => by
    simp only [List.any_cons, Bool.or_eq_false_iff, decide_eq_false_iff_not] at h
    have ih := seen_set ns s h.2
    have h1 : keyB (.str s) (AV.str t) = false := decide_eq_false (fun e => h.1 e.symm)
    simp only [seenE, List.map_cons, List.cons_append, asetA, h1] at ih ⊢
    simp [ih]
theorem seen_keys (ns : List ByteArray) : keysOk .str (seenE ns) = true := by
  simp [keysOk, seenE, keyKind]
theorem Sub_put2 {s : Store} {o o1 : Nat} {m m' x : Ob} (hs : s o1 = none) : (s.put o m').Sub (((s.put o m).put o1 x).put o m') := by
  intro p y hp
  simp only [Store.put] at hp ⊢
  split at hp
  · rename_i e; rw [if_pos e]; exact hp
  · rename_i e
    rw [if_neg e]
    split
    · rename_i e2; rw [e2, hs] at hp; cases hp
    · first | exact hp | (rw [if_neg e]; exact hp)
def unlikeB : List ByteArray → List ByteArray → Bool
  | _, [] => true
  | seen, s :: l => !(seen.any fun t => decide (t = s)) && nameB s && unlikeB (seen ++ [s]) l
theorem unlikeB_drop (l : List ByteArray) (i : Nat) (s : ByteArray) (h : l[i]? = some s) : unlikeB (l.take i) (l.drop i) = (!((l.take i).any fun t => decide (t = s)) && nameB s && unlikeB (l.take (i + 1)) (l.drop (i + 1))) := by
  obtain ⟨hl, rfl⟩ := List.getElem?_eq_some_iff.1 h
  rw [List.drop_eq_getElem_cons hl, unlikeB, List.take_succ_eq_append_getElem hl]
attribute [local go_sem] seen_find seen_keys
theorem getLst (x : LstD) : Pure Tryz.prog 35 [eLst x] (.str x.name) := by
  intro σ
  refine PCall_q [.tmp 2] 5 Tryz.func35 (by rfl) rfl rfl rfl rfl ?_
  repeat' first |refine s1 ?_|refine gS ?_|refine wT rfl ?_|refine wF rfl ?_|(refine wC rfl (fun h=>?_) (fun h=>?_)<;>(try contradiction))|((first|refine rd ?_|refine ry [] c0 fun nu _ _=>?_);simp -dsimp (disch:=omega) only[go_sem])|refine e0 (by decide) ?_|(refine And.intro ?_ ?_;omega)|refine And.intro (of_eq_true PutAt_put) ?_|refine gT ?_|refine gF ?_|(refine gI (fun h=>?_) (fun h=>?_)<;>(try contradiction)<;>(try refine rd ?_)<;>(try simp -dsimp (disch:=omega) only[go_sem,h]))|refine Exists.intro _ (Exists.intro _ (And.intro (And.intro rfl rfl) ?_)) |fail
theorem unlLst (k : SK) (l : List LstD) (hl : l.length < 4611686018427387904) (hn : ∀ x, x ∈ l → x.name.size ≤ 9223372036854775807) :
    Pure Tryz.prog 34 [.sl k (encL eLst l), .fn 35 []] (.bool (unlikeB [] (l.map (·.name)))) := by
  intro σ
  refine PCall_q [.tmp 4] 30 Tryz.func34 (by rfl) rfl rfl rfl rfl ?_
  repeat' first |refine s1 ?_|refine gS ?_|refine wT rfl ?_|refine wF rfl ?_|(refine wC rfl (fun h=>?_) (fun h=>?_)<;>(try contradiction))|((first|refine rd ?_|refine ry [] c0 fun nu _ _=>?_);simp -dsimp (disch:=omega) only[go_sem])|refine e0 (by decide) ?_|(refine And.intro ?_ ?_;omega)|refine And.intro (of_eq_true PutAt_put) ?_|refine gT ?_|refine gF ?_|(refine gI (fun h=>?_) (fun h=>?_)<;>(try contradiction)<;>(try refine rd ?_)<;>(try simp -dsimp (disch:=omega) only[go_sem,h]))|refine Exists.intro _ (Exists.intro _ (And.intro (And.intro rfl rfl) ?_)) |fail
  intro o ho
  repeat' first |refine s1 ?_|refine gS ?_|refine wT rfl ?_|refine wF rfl ?_|(refine wC rfl (fun h=>?_) (fun h=>?_)<;>(try contradiction))|((first|refine rd ?_|refine ry [] c0 fun nu _ _=>?_);simp -dsimp (disch:=omega) only[go_sem])|refine e0 (by decide) ?_|(refine And.intro ?_ ?_;omega)|refine And.intro (of_eq_true PutAt_put) ?_|refine gT ?_|refine gF ?_|(refine gI (fun h=>?_) (fun h=>?_)<;>(try contradiction)<;>(try refine rd ?_)<;>(try simp -dsimp (disch:=omega) only[go_sem,h]))|refine Exists.intro _ (Exists.intro _ (And.intro (And.intro rfl rfl) ?_)) |fail
  refine W_loop_st (fun i : Nat => [(1, .fn 35 []), (5, .map o), (10, .sl k (encL eLst l)), (11, .int .i64 l.length), (12, .int .i64 i)]) (fun i => σ.put o (.map (seenE ((l.map (·.name)).take i)))) (fun i => i ≤ l.length ∧ unlikeB [] (l.map (·.name)) = unlikeB ((l.map (·.name)).take i) ((l.map (·.name)).drop i)) (fun i => l.length - i) 0 ⟨Nat.zero_le _, rfl⟩ (Env.Sub_of_has (by simp [Env.Has, Env.get])) (Store.Sub.refl _) ?_
  rintro i ⟨hi, hor⟩
  by_cases hlt : i < l.length
  · have hg : l.getD i default = l[i] := by simp [List.getD_eq_getElem?_getD, hlt]
    have hm : l[i] ∈ l := List.getElem_mem hlt
    have hns := name_spec l[i].name (hn _ hm)
    have hgt := getLst l[i]
    have ho2 := unlikeB_drop (l.map (·.name)) i l[i].name (by simp [hlt])
    obtain ⟨ns, hns2⟩ : ∃ ns, (l.map (·.name)).take i = ns := ⟨_, rfl⟩
    rw [hns2] at ho2 hor
    repeat' first |refine s1 ?_|refine gS ?_|refine wT rfl ?_|refine wF rfl ?_|(refine wC rfl (fun h=>?_) (fun h=>?_)<;>(try contradiction))|((first|refine rd ?_|refine ry [] c0 fun nu _ _=>?_);simp -dsimp (disch:=omega) only[go_sem,hg, hns2])|refine e0 (by decide) ?_|(refine And.intro ?_ ?_;omega)|refine And.intro (of_eq_true PutAt_put) ?_|refine gT ?_|refine gF ?_|(refine gI (fun h=>?_) (fun h=>?_)<;>(try contradiction)<;>(try refine rd ?_)<;>(try simp -dsimp (disch:=omega) only[go_sem,h,hg, hns2]))|refine Exists.intro _ (Exists.intro _ (And.intro (And.intro rfl rfl) ?_)) |fail
    intro o1 ho1
    have hpn : ∀ (s : Store) (x : Ob), (s.put o1 x) o = s o := fun s x => put_ne (fresh_ne ho1)
    have ho1' := fresh_old ho1
    rcases Bool.eq_false_or_eq_true (ns.any fun t => decide (t = l[i].name)) with ha | ha
    · rw [ha] at ho2
      repeat' first |refine s1 ?_|refine gS ?_|refine wT rfl ?_|refine wF rfl ?_|(refine wC rfl (fun h=>?_) (fun h=>?_)<;>(try contradiction))|((first|refine rd ?_|refine ry [] c0 fun nu _ _=>?_);simp -dsimp (disch:=omega) only[go_sem,hpn, ha])|refine e0 (by decide) ?_|(refine And.intro ?_ ?_;omega)|refine And.intro (of_eq_true PutAt_put) ?_|refine gT ?_|refine gF ?_|(refine gI (fun h=>?_) (fun h=>?_)<;>(try contradiction)<;>(try refine rd ?_)<;>(try simp -dsimp (disch:=omega) only[go_sem,h,hpn, ha]))|refine Exists.intro _ (Exists.intro _ (And.intro (And.intro rfl rfl) ?_)) |refine us (hgt) ?_ |refine us (hns) ?_ |fail
      exact ⟨by rw [hor, ho2]; rfl, Sub_put (Sub_put (Store.Sub.refl _) ho _) ho1' _⟩
    · have hset := seen_set ns l[i].name ha
      rw [ha] at ho2
      repeat' first |refine s1 ?_|refine gS ?_|refine wT rfl ?_|refine wF rfl ?_|(refine wC rfl (fun h=>?_) (fun h=>?_)<;>(try contradiction))|((first|refine rd ?_|refine ry [] c0 fun nu _ _=>?_);simp -dsimp (disch:=omega) only[go_sem,hpn, ha, hset])|refine e0 (by decide) ?_|(refine And.intro ?_ ?_;omega)|refine And.intro (of_eq_true PutAt_put) ?_|refine gT ?_|refine gF ?_|(refine gI (fun h=>?_) (fun h=>?_)<;>(try contradiction)<;>(try refine rd ?_)<;>(try simp -dsimp (disch:=omega) only[go_sem,h,hpn, ha, hset]))|refine Exists.intro _ (Exists.intro _ (And.intro (And.intro rfl rfl) ?_)) |refine us (hgt) ?_ |refine us (hns) ?_ |fail
      · exact ⟨by rw [hor, ho2, h]; rfl, Sub_put (Sub_put (Store.Sub.refl _) ho _) ho1' _⟩
      · refine ⟨i + 1, by omega, ⟨by omega, by rw [hor, ho2, h]; rfl⟩, Env.Sub_of_has (by simp [Env.Has, Env.get]), ?_⟩
        rw [List.take_succ_eq_append_getElem (by simpa using hlt), hns2]
        simp only [List.getElem_map]
        exact Sub_put2 ho1'
  · have hi' : i = l.length := by omega
    subst hi'
    repeat' first |refine s1 ?_|refine gS ?_|refine wT rfl ?_|refine wF rfl ?_|(refine wC rfl (fun h=>?_) (fun h=>?_)<;>(try contradiction))|((first|refine rd ?_|refine ry [] c0 fun nu _ _=>?_);simp -dsimp (disch:=omega) only[go_sem])|refine e0 (by decide) ?_|(refine And.intro ?_ ?_;omega)|refine And.intro (of_eq_true PutAt_put) ?_|refine gT ?_|refine gF ?_|(refine gI (fun h=>?_) (fun h=>?_)<;>(try contradiction)<;>(try refine rd ?_)<;>(try simp -dsimp (disch:=omega) only[go_sem,h]))|refine Exists.intro _ (Exists.intro _ (And.intro (And.intro rfl rfl) ?_)) |fail
    exact ⟨by rw [hor, List.drop_eq_nil_of_le (by simp)]; rfl, Sub_put (Store.Sub.refl _) ho _⟩
theorem getMap (x : MapD) : Pure Tryz.prog 37 [eMap x] (.str x.name) := by
  intro σ
  refine PCall_q [.tmp 2] 5 Tryz.func37 (by rfl) rfl rfl rfl rfl ?_
  repeat' first |refine s1 ?_|refine gS ?_|refine wT rfl ?_|refine wF rfl ?_|(refine wC rfl (fun h=>?_) (fun h=>?_)<;>(try contradiction))|((first|refine rd ?_|refine ry [] c0 fun nu _ _=>?_);simp -dsimp (disch:=omega) only[go_sem])|refine e0 (by decide) ?_|(refine And.intro ?_ ?_;omega)|refine And.intro (of_eq_true PutAt_put) ?_|refine gT ?_|refine gF ?_|(refine gI (fun h=>?_) (fun h=>?_)<;>(try contradiction)<;>(try refine rd ?_)<;>(try simp -dsimp (disch:=omega) only[go_sem,h]))|refine Exists.intro _ (Exists.intro _ (And.intro (And.intro rfl rfl) ?_)) |fail
theorem unlMap (k : SK) (l : List MapD) (hl : l.length < 4611686018427387904) (hn : ∀ x, x ∈ l → x.name.size ≤ 9223372036854775807) :
    Pure Tryz.prog 36 [.sl k (encL eMap l), .fn 37 []] (.bool (unlikeB [] (l.map (·.name)))) := by
  intro σ
  refine PCall_q [.tmp 4] 30 Tryz.func36 (by rfl) rfl rfl rfl rfl ?_
  repeat' first |refine s1 ?_|refine gS ?_|refine wT rfl ?_|refine wF rfl ?_|(refine wC rfl (fun h=>?_) (fun h=>?_)<;>(try contradiction))|((first|refine rd ?_|refine ry [] c0 fun nu _ _=>?_);simp -dsimp (disch:=omega) only[go_sem])|refine e0 (by decide) ?_|(refine And.intro ?_ ?_;omega)|refine And.intro (of_eq_true PutAt_put) ?_|refine gT ?_|refine gF ?_|(refine gI (fun h=>?_) (fun h=>?_)<;>(try contradiction)<;>(try refine rd ?_)<;>(try simp -dsimp (disch:=omega) only[go_sem,h]))|refine Exists.intro _ (Exists.intro _ (And.intro (And.intro rfl rfl) ?_)) |fail
  intro o ho
  repeat' first |refine s1 ?_|refine gS ?_|refine wT rfl ?_|refine wF rfl ?_|(refine wC rfl (fun h=>?_) (fun h=>?_)<;>(try contradiction))|((first|refine rd ?_|refine ry [] c0 fun nu _ _=>?_);simp -dsimp (disch:=omega) only[go_sem])|refine e0 (by decide) ?_|(refine And.intro ?_ ?_;omega)|refine And.intro (of_eq_true PutAt_put) ?_|refine gT ?_|refine gF ?_|(refine gI (fun h=>?_) (fun h=>?_)<;>(try contradiction)<;>(try refine rd ?_)<;>(try simp -dsimp (disch:=omega) only[go_sem,h]))|refine Exists.intro _ (Exists.intro _ (And.intro (And.intro rfl rfl) ?_)) |fail
  refine W_loop_st (fun i : Nat => [(1, .fn 37 []), (5, .map o), (10, .sl k (encL eMap l)), (11, .int .i64 l.length), (12, .int .i64 i)]) (fun i => σ.put o (.map (seenE ((l.map (·.name)).take i)))) (fun i => i ≤ l.length ∧ unlikeB [] (l.map (·.name)) = unlikeB ((l.map (·.name)).take i) ((l.map (·.name)).drop i)) (fun i => l.length - i) 0 ⟨Nat.zero_le _, rfl⟩ (Env.Sub_of_has (by simp [Env.Has, Env.get])) (Store.Sub.refl _) ?_
  rintro i ⟨hi, hor⟩
  by_cases hlt : i < l.length
  · have hg : l.getD i default = l[i] := by simp [List.getD_eq_getElem?_getD, hlt]
    have hm : l[i] ∈ l := List.getElem_mem hlt
    have hns := name_spec l[i].name (hn _ hm)
    have hgt := getMap l[i]
    have ho2 := unlikeB_drop (l.map (·.name)) i l[i].name (by simp [hlt])
    obtain ⟨ns, hns2⟩ : ∃ ns, (l.map (·.name)).take i = ns := ⟨_, rfl⟩
    rw [hns2] at ho2 hor
    repeat' first |refine s1 ?_|refine gS ?_|refine wT rfl ?_|refine wF rfl ?_|(refine wC rfl (fun h=>?_) (fun h=>?_)<;>(try contradiction))|((first|refine rd ?_|refine ry [] c0 fun nu _ _=>?_);simp -dsimp (disch:=omega) only[go_sem,hg, hns2])|refine e0 (by decide) ?_|(refine And.intro ?_ ?_;omega)|refine And.intro (of_eq_true PutAt_put) ?_|refine gT ?_|refine gF ?_|(refine gI (fun h=>?_) (fun h=>?_)<;>(try contradiction)<;>(try refine rd ?_)<;>(try simp -dsimp (disch:=omega) only[go_sem,h,hg, hns2]))|refine Exists.intro _ (Exists.intro _ (And.intro (And.intro rfl rfl) ?_)) |fail
    intro o1 ho1
    have hpn : ∀ (s : Store) (x : Ob), (s.put o1 x) o = s o := fun s x => put_ne (fresh_ne ho1)
    have ho1' := fresh_old ho1
    rcases Bool.eq_false_or_eq_true (ns.any fun t => decide (t = l[i].name)) with ha | ha
    · rw [ha] at ho2
      repeat' first |refine s1 ?_|refine gS ?_|refine wT rfl ?_|refine wF rfl ?_|(refine wC rfl (fun h=>?_) (fun h=>?_)<;>(try contradiction))|((first|refine rd ?_|refine ry [] c0 fun nu _ _=>?_);simp -dsimp (disch:=omega) only[go_sem,hpn, ha])|refine e0 (by decide) ?_|(refine And.intro ?_ ?_;omega)|refine And.intro (of_eq_true PutAt_put) ?_|refine gT ?_|refine gF ?_|(refine gI (fun h=>?_) (fun h=>?_)<;>(try contradiction)<;>(try refine rd ?_)<;>(try simp -dsimp (disch:=omega) only[go_sem,h,hpn, ha]))|refine Exists.intro _ (Exists.intro _ (And.intro (And.intro rfl rfl) ?_)) |refine us (hgt) ?_ |refine us (hns) ?_ |fail
      exact ⟨by rw [hor, ho2]; rfl, Sub_put (Sub_put (Store.Sub.refl _) ho _) ho1' _⟩
    · have hset := seen_set ns l[i].name ha
      rw [ha] at ho2
      repeat' first |refine s1 ?_|refine gS ?_|refine wT rfl ?_|refine wF rfl ?_|(refine wC rfl (fun h=>?_) (fun h=>?_)<;>(try contradiction))|((first|refine rd ?_|refine ry [] c0 fun nu _ _=>?_);simp -dsimp (disch:=omega) only[go_sem,hpn, ha, hset])|refine e0 (by decide) ?_|(refine And.intro ?_ ?_;omega)|refine And.intro (of_eq_true PutAt_put) ?_|refine gT ?_|refine gF ?_|(refine gI (fun h=>?_) (fun h=>?_)<;>(try contradiction)<;>(try refine rd ?_)<;>(try simp -dsimp (disch:=omega) only[go_sem,h,hpn, ha, hset]))|refine Exists.intro _ (Exists.intro _ (And.intro (And.intro rfl rfl) ?_)) |refine us (hgt) ?_ |refine us (hns) ?_ |fail
      · exact ⟨by rw [hor, ho2, h]; rfl, Sub_put (Sub_put (Store.Sub.refl _) ho _) ho1' _⟩
      · refine ⟨i + 1, by omega, ⟨by omega, by rw [hor, ho2, h]; rfl⟩, Env.Sub_of_has (by simp [Env.Has, Env.get]), ?_⟩
        rw [List.take_succ_eq_append_getElem (by simpa using hlt), hns2]
        simp only [List.getElem_map]
        exact Sub_put2 ho1'
  · have hi' : i = l.length := by omega
    subst hi'
    repeat' first |refine s1 ?_|refine gS ?_|refine wT rfl ?_|refine wF rfl ?_|(refine wC rfl (fun h=>?_) (fun h=>?_)<;>(try contradiction))|((first|refine rd ?_|refine ry [] c0 fun nu _ _=>?_);simp -dsimp (disch:=omega) only[go_sem])|refine e0 (by decide) ?_|(refine And.intro ?_ ?_;omega)|refine And.intro (of_eq_true PutAt_put) ?_|refine gT ?_|refine gF ?_|(refine gI (fun h=>?_) (fun h=>?_)<;>(try contradiction)<;>(try refine rd ?_)<;>(try simp -dsimp (disch:=omega) only[go_sem,h]))|refine Exists.intro _ (Exists.intro _ (And.intro (And.intro rfl rfl) ?_)) |fail
    exact ⟨by rw [hor, List.drop_eq_nil_of_le (by simp)]; rfl, Sub_put (Store.Sub.refl _) ho _⟩
theorem getRtr (x : Rtr) : Pure Tryz.prog 39 [eRtr x] (.str x.name) := by
  intro σ
  refine PCall_q [.tmp 2] 5 Tryz.func39 (by rfl) rfl rfl rfl rfl ?_
  repeat' first |refine s1 ?_|refine gS ?_|refine wT rfl ?_|refine wF rfl ?_|(refine wC rfl (fun h=>?_) (fun h=>?_)<;>(try contradiction))|((first|refine rd ?_|refine ry [] c0 fun nu _ _=>?_);simp -dsimp (disch:=omega) only[go_sem])|refine e0 (by decide) ?_|(refine And.intro ?_ ?_;omega)|refine And.intro (of_eq_true PutAt_put) ?_|refine gT ?_|refine gF ?_|(refine gI (fun h=>?_) (fun h=>?_)<;>(try contradiction)<;>(try refine rd ?_)<;>(try simp -dsimp (disch:=omega) only[go_sem,h]))|refine Exists.intro _ (Exists.intro _ (And.intro (And.intro rfl rfl) ?_)) |fail
theorem unlRtr (k : SK) (l : List Rtr) (hl : l.length < 4611686018427387904) (hn : ∀ x, x ∈ l → x.name.size ≤ 9223372036854775807) :
    Pure Tryz.prog 38 [.sl k (encL eRtr l), .fn 39 []] (.bool (unlikeB [] (l.map (·.name)))) := by
  intro σ
  refine PCall_q [.tmp 4] 30 Tryz.func38 (by rfl) rfl rfl rfl rfl ?_
  repeat' first |refine s1 ?_|refine gS ?_|refine wT rfl ?_|refine wF rfl ?_|(refine wC rfl (fun h=>?_) (fun h=>?_)<;>(try contradiction))|((first|refine rd ?_|refine ry [] c0 fun nu _ _=>?_);simp -dsimp (disch:=omega) only[go_sem])|refine e0 (by decide) ?_|(refine And.intro ?_ ?_;omega)|refine And.intro (of_eq_true PutAt_put) ?_|refine gT ?_|refine gF ?_|(refine gI (fun h=>?_) (fun h=>?_)<;>(try contradiction)<;>(try refine rd ?_)<;>(try simp -dsimp (disch:=omega) only[go_sem,h]))|refine Exists.intro _ (Exists.intro _ (And.intro (And.intro rfl rfl) ?_)) |fail
  intro o ho
  repeat' first |refine s1 ?_|refine gS ?_|refine wT rfl ?_|refine wF rfl ?_|(refine wC rfl (fun h=>?_) (fun h=>?_)<;>(try contradiction))|((first|refine rd ?_|refine ry [] c0 fun nu _ _=>?_);simp -dsimp (disch:=omega) only[go_sem])|refine e0 (by decide) ?_|(refine And.intro ?_ ?_;omega)|refine And.intro (of_eq_true PutAt_put) ?_|refine gT ?_|refine gF ?_|(refine gI (fun h=>?_) (fun h=>?_)<;>(try contradiction)<;>(try refine rd ?_)<;>(try simp -dsimp (disch:=omega) only[go_sem,h]))|refine Exists.intro _ (Exists.intro _ (And.intro (And.intro rfl rfl) ?_)) |fail
  refine W_loop_st (fun i : Nat => [(1, .fn 39 []), (5, .map o), (10, .sl k (encL eRtr l)), (11, .int .i64 l.length), (12, .int .i64 i)]) (fun i => σ.put o (.map (seenE ((l.map (·.name)).take i)))) (fun i => i ≤ l.length ∧ unlikeB [] (l.map (·.name)) = unlikeB ((l.map (·.name)).take i) ((l.map (·.name)).drop i)) (fun i => l.length - i) 0 ⟨Nat.zero_le _, rfl⟩ (Env.Sub_of_has (by simp [Env.Has, Env.get])) (Store.Sub.refl _) ?_
  rintro i ⟨hi, hor⟩
  by_cases hlt : i < l.length
  · have hg : l.getD i default = l[i] := by simp [List.getD_eq_getElem?_getD, hlt]
    have hm : l[i] ∈ l := List.getElem_mem hlt
    have hns := name_spec l[i].name (hn _ hm)
    have hgt := getRtr l[i]
    have ho2 := unlikeB_drop (l.map (·.name)) i l[i].name (by simp [hlt])
    obtain ⟨ns, hns2⟩ : ∃ ns, (l.map (·.name)).take i = ns := ⟨_, rfl⟩
    rw [hns2] at ho2 hor
    repeat' first |refine s1 ?_|refine gS ?_|refine wT rfl ?_|refine wF rfl ?_|(refine wC rfl (fun h=>?_) (fun h=>?_)<;>(try contradiction))|((first|refine rd ?_|refine ry [] c0 fun nu _ _=>?_);simp -dsimp (disch:=omega) only[go_sem,hg, hns2])|refine e0 (by decide) ?_|(refine And.intro ?_ ?_;omega)|refine And.intro (of_eq_true PutAt_put) ?_|refine gT ?_|refine gF ?_|(refine gI (fun h=>?_) (fun h=>?_)<;>(try contradiction)<;>(try refine rd ?_)<;>(try simp -dsimp (disch:=omega) only[go_sem,h,hg, hns2]))|refine Exists.intro _ (Exists.intro _ (And.intro (And.intro rfl rfl) ?_)) |fail
    intro o1 ho1
    have hpn : ∀ (s : Store) (x : Ob), (s.put o1 x) o = s o := fun s x => put_ne (fresh_ne ho1)
    have ho1' := fresh_old ho1
    rcases Bool.eq_false_or_eq_true (ns.any fun t => decide (t = l[i].name)) with ha | ha
    · rw [ha] at ho2
      repeat' first |refine s1 ?_|refine gS ?_|refine wT rfl ?_|refine wF rfl ?_|(refine wC rfl (fun h=>?_) (fun h=>?_)<;>(try contradiction))|((first|refine rd ?_|refine ry [] c0 fun nu _ _=>?_);simp -dsimp (disch:=omega) only[go_sem,hpn, ha])|refine e0 (by decide) ?_|(refine And.intro ?_ ?_;omega)|refine And.intro (of_eq_true PutAt_put) ?_|refine gT ?_|refine gF ?_|(refine gI (fun h=>?_) (fun h=>?_)<;>(try contradiction)<;>(try refine rd ?_)<;>(try simp -dsimp (disch:=omega) only[go_sem,h,hpn, ha]))|refine Exists.intro _ (Exists.intro _ (And.intro (And.intro rfl rfl) ?_)) |refine us (hgt) ?_ |refine us (hns) ?_ |fail
      exact ⟨by rw [hor, ho2]; rfl, Sub_put (Sub_put (Store.Sub.refl _) ho _) ho1' _⟩
    · have hset := seen_set ns l[i].name ha
      rw [ha] at ho2
      repeat' first |refine s1 ?_|refine gS ?_|refine wT rfl ?_|refine wF rfl ?_|(refine wC rfl (fun h=>?_) (fun h=>?_)<;>(try contradiction))|((first|refine rd ?_|refine ry [] c0 fun nu _ _=>?_);simp -dsimp (disch:=omega) only[go_sem,hpn, ha, hset])|refine e0 (by decide) ?_|(refine And.intro ?_ ?_;omega)|refine And.intro (of_eq_true PutAt_put) ?_|refine gT ?_|refine gF ?_|(refine gI (fun h=>?_) (fun h=>?_)<;>(try contradiction)<;>(try refine rd ?_)<;>(try simp -dsimp (disch:=omega) only[go_sem,h,hpn, ha, hset]))|refine Exists.intro _ (Exists.intro _ (And.intro (And.intro rfl rfl) ?_)) |refine us (hgt) ?_ |refine us (hns) ?_ |fail
      · exact ⟨by rw [hor, ho2, h]; rfl, Sub_put (Sub_put (Store.Sub.refl _) ho _) ho1' _⟩
      · refine ⟨i + 1, by omega, ⟨by omega, by rw [hor, ho2, h]; rfl⟩, Env.Sub_of_has (by simp [Env.Has, Env.get]), ?_⟩
        rw [List.take_succ_eq_append_getElem (by simpa using hlt), hns2]
        simp only [List.getElem_map]
        exact Sub_put2 ho1'
  · have hi' : i = l.length := by omega
    subst hi'
    repeat' first |refine s1 ?_|refine gS ?_|refine wT rfl ?_|refine wF rfl ?_|(refine wC rfl (fun h=>?_) (fun h=>?_)<;>(try contradiction))|((first|refine rd ?_|refine ry [] c0 fun nu _ _=>?_);simp -dsimp (disch:=omega) only[go_sem])|refine e0 (by decide) ?_|(refine And.intro ?_ ?_;omega)|refine And.intro (of_eq_true PutAt_put) ?_|refine gT ?_|refine gF ?_|(refine gI (fun h=>?_) (fun h=>?_)<;>(try contradiction)<;>(try refine rd ?_)<;>(try simp -dsimp (disch:=omega) only[go_sem,h]))|refine Exists.intro _ (Exists.intro _ (And.intro (And.intro rfl rfl) ?_)) |fail
    exact ⟨by rw [hor, List.drop_eq_nil_of_le (by simp)]; rfl, Sub_put (Store.Sub.refl _) ho _⟩
theorem getNbr (x : Nbr) : Pure Tryz.prog 91 [eNbr x] (.str x.name) := by
  intro σ
  refine PCall_q [.tmp 2] 5 Tryz.func91 (by rfl) rfl rfl rfl rfl ?_
  repeat' first |refine s1 ?_|refine gS ?_|refine wT rfl ?_|refine wF rfl ?_|(refine wC rfl (fun h=>?_) (fun h=>?_)<;>(try contradiction))|((first|refine rd ?_|refine ry [] c0 fun nu _ _=>?_);simp -dsimp (disch:=omega) only[go_sem])|refine e0 (by decide) ?_|(refine And.intro ?_ ?_;omega)|refine And.intro (of_eq_true PutAt_put) ?_|refine gT ?_|refine gF ?_|(refine gI (fun h=>?_) (fun h=>?_)<;>(try contradiction)<;>(try refine rd ?_)<;>(try simp -dsimp (disch:=omega) only[go_sem,h]))|refine Exists.intro _ (Exists.intro _ (And.intro (And.intro rfl rfl) ?_)) |fail
theorem unlNbr (k : SK) (l : List Nbr) (hl : l.length < 4611686018427387904) (hn : ∀ x, x ∈ l → x.name.size ≤ 9223372036854775807) :
    Pure Tryz.prog 90 [.sl k (encL eNbr l), .fn 91 []] (.bool (unlikeB [] (l.map (·.name)))) := by
  intro σ
  refine PCall_q [.tmp 4] 30 Tryz.func90 (by rfl) rfl rfl rfl rfl ?_
  repeat' first |refine s1 ?_|refine gS ?_|refine wT rfl ?_|refine wF rfl ?_|(refine wC rfl (fun h=>?_) (fun h=>?_)<;>(try contradiction))|((first|refine rd ?_|refine ry [] c0 fun nu _ _=>?_);simp -dsimp (disch:=omega) only[go_sem])|refine e0 (by decide) ?_|(refine And.intro ?_ ?_;omega)|refine And.intro (of_eq_true PutAt_put) ?_|refine gT ?_|refine gF ?_|(refine gI (fun h=>?_) (fun h=>?_)<;>(try contradiction)<;>(try refine rd ?_)<;>(try simp -dsimp (disch:=omega) only[go_sem,h]))|refine Exists.intro _ (Exists.intro _ (And.intro (And.intro rfl rfl) ?_)) |fail
  intro o ho
  repeat' first |refine s1 ?_|refine gS ?_|refine wT rfl ?_|refine wF rfl ?_|(refine wC rfl (fun h=>?_) (fun h=>?_)<;>(try contradiction))|((first|refine rd ?_|refine ry [] c0 fun nu _ _=>?_);simp -dsimp (disch:=omega) only[go_sem])|refine e0 (by decide) ?_|(refine And.intro ?_ ?_;omega)|refine And.intro (of_eq_true PutAt_put) ?_|refine gT ?_|refine gF ?_|(refine gI (fun h=>?_) (fun h=>?_)<;>(try contradiction)<;>(try refine rd ?_)<;>(try simp -dsimp (disch:=omega) only[go_sem,h]))|refine Exists.intro _ (Exists.intro _ (And.intro (And.intro rfl rfl) ?_)) |fail
  refine W_loop_st (fun i : Nat => [(1, .fn 91 []), (5, .map o), (10, .sl k (encL eNbr l)), (11, .int .i64 l.length), (12, .int .i64 i)]) (fun i => σ.put o (.map (seenE ((l.map (·.name)).take i)))) (fun i => i ≤ l.length ∧ unlikeB [] (l.map (·.name)) = unlikeB ((l.map (·.name)).take i) ((l.map (·.name)).drop i)) (fun i => l.length - i) 0 ⟨Nat.zero_le _, rfl⟩ (Env.Sub_of_has (by simp [Env.Has, Env.get])) (Store.Sub.refl _) ?_
  rintro i ⟨hi, hor⟩
  by_cases hlt : i < l.length
  · have hg : l.getD i default = l[i] := by simp [List.getD_eq_getElem?_getD, hlt]
    have hm : l[i] ∈ l := List.getElem_mem hlt
    have hns := name_spec l[i].name (hn _ hm)
    have hgt := getNbr l[i]
    have ho2 := unlikeB_drop (l.map (·.name)) i l[i].name (by simp [hlt])
    obtain ⟨ns, hns2⟩ : ∃ ns, (l.map (·.name)).take i = ns := ⟨_, rfl⟩
    rw [hns2] at ho2 hor
    repeat' first |refine s1 ?_|refine gS ?_|refine wT rfl ?_|refine wF rfl ?_|(refine wC rfl (fun h=>?_) (fun h=>?_)<;>(try contradiction))|((first|refine rd ?_|refine ry [] c0 fun nu _ _=>?_);simp -dsimp (disch:=omega) only[go_sem,hg, hns2])|refine e0 (by decide) ?_|(refine And.intro ?_ ?_;omega)|refine And.intro (of_eq_true PutAt_put) ?_|refine gT ?_|refine gF ?_|(refine gI (fun h=>?_) (fun h=>?_)<;>(try contradiction)<;>(try refine rd ?_)<;>(try simp -dsimp (disch:=omega) only[go_sem,h,hg, hns2]))|refine Exists.intro _ (Exists.intro _ (And.intro (And.intro rfl rfl) ?_)) |fail
    intro o1 ho1
    have hpn : ∀ (s : Store) (x : Ob), (s.put o1 x) o = s o := fun s x => put_ne (fresh_ne ho1)
    have ho1' := fresh_old ho1
    rcases Bool.eq_false_or_eq_true (ns.any fun t => decide (t = l[i].name)) with ha | ha
    · rw [ha] at ho2
      repeat' first |refine s1 ?_|refine gS ?_|refine wT rfl ?_|refine wF rfl ?_|(refine wC rfl (fun h=>?_) (fun h=>?_)<;>(try contradiction))|((first|refine rd ?_|refine ry [] c0 fun nu _ _=>?_);simp -dsimp (disch:=omega) only[go_sem,hpn, ha])|refine e0 (by decide) ?_|(refine And.intro ?_ ?_;omega)|refine And.intro (of_eq_true PutAt_put) ?_|refine gT ?_|refine gF ?_|(refine gI (fun h=>?_) (fun h=>?_)<;>(try contradiction)<;>(try refine rd ?_)<;>(try simp -dsimp (disch:=omega) only[go_sem,h,hpn, ha]))|refine Exists.intro _ (Exists.intro _ (And.intro (And.intro rfl rfl) ?_)) |refine us (hgt) ?_ |refine us (hns) ?_ |fail
      exact ⟨by rw [hor, ho2]; rfl, Sub_put (Sub_put (Store.Sub.refl _) ho _) ho1' _⟩
    · have hset := seen_set ns l[i].name ha
      rw [ha] at ho2
      repeat' first |refine s1 ?_|refine gS ?_|refine wT rfl ?_|refine wF rfl ?_|(refine wC rfl (fun h=>?_) (fun h=>?_)<;>(try contradiction))|((first|refine rd ?_|refine ry [] c0 fun nu _ _=>?_);simp -dsimp (disch:=omega) only[go_sem,hpn, ha, hset])|refine e0 (by decide) ?_|(refine And.intro ?_ ?_;omega)|refine And.intro (of_eq_true PutAt_put) ?_|refine gT ?_|refine gF ?_|(refine gI (fun h=>?_) (fun h=>?_)<;>(try contradiction)<;>(try refine rd ?_)<;>(try simp -dsimp (disch:=omega) only[go_sem,h,hpn, ha, hset]))|refine Exists.intro _ (Exists.intro _ (And.intro (And.intro rfl rfl) ?_)) |refine us (hgt) ?_ |refine us (hns) ?_ |fail
      · exact ⟨by rw [hor, ho2, h]; rfl, Sub_put (Sub_put (Store.Sub.refl _) ho _) ho1' _⟩
      · refine ⟨i + 1, by omega, ⟨by omega, by rw [hor, ho2, h]; rfl⟩, Env.Sub_of_has (by simp [Env.Has, Env.get]), ?_⟩
        rw [List.take_succ_eq_append_getElem (by simpa using hlt), hns2]
        simp only [List.getElem_map]
        exact Sub_put2 ho1'
  · have hi' : i = l.length := by omega
    subst hi'
    repeat' first |refine s1 ?_|refine gS ?_|refine wT rfl ?_|refine wF rfl ?_|(refine wC rfl (fun h=>?_) (fun h=>?_)<;>(try contradiction))|((first|refine rd ?_|refine ry [] c0 fun nu _ _=>?_);simp -dsimp (disch:=omega) only[go_sem])|refine e0 (by decide) ?_|(refine And.intro ?_ ?_;omega)|refine And.intro (of_eq_true PutAt_put) ?_|refine gT ?_|refine gF ?_|(refine gI (fun h=>?_) (fun h=>?_)<;>(try contradiction)<;>(try refine rd ?_)<;>(try simp -dsimp (disch:=omega) only[go_sem,h]))|refine Exists.intro _ (Exists.intro _ (And.intro (And.intro rfl rfl) ?_)) |fail
    exact ⟨by rw [hor, List.drop_eq_nil_of_le (by simp)]; rfl, Sub_put (Store.Sub.refl _) ho _⟩
theorem getLnk (x : Lnk) : Pure Tryz.prog 93 [eLnk x] (.str x.name) := by
  intro σ
  refine PCall_q [.tmp 2] 5 Tryz.func93 (by rfl) rfl rfl rfl rfl ?_
  repeat' first |refine s1 ?_|refine gS ?_|refine wT rfl ?_|refine wF rfl ?_|(refine wC rfl (fun h=>?_) (fun h=>?_)<;>(try contradiction))|((first|refine rd ?_|refine ry [] c0 fun nu _ _=>?_);simp -dsimp (disch:=omega) only[go_sem])|refine e0 (by decide) ?_|(refine And.intro ?_ ?_;omega)|refine And.intro (of_eq_true PutAt_put) ?_|refine gT ?_|refine gF ?_|(refine gI (fun h=>?_) (fun h=>?_)<;>(try contradiction)<;>(try refine rd ?_)<;>(try simp -dsimp (disch:=omega) only[go_sem,h]))|refine Exists.intro _ (Exists.intro _ (And.intro (And.intro rfl rfl) ?_)) |fail
theorem unlLnk (k : SK) (l : List Lnk) (hl : l.length < 4611686018427387904) (hn : ∀ x, x ∈ l → x.name.size ≤ 9223372036854775807) :
    Pure Tryz.prog 92 [.sl k (encL eLnk l), .fn 93 []] (.bool (unlikeB [] (l.map (·.name)))) := by
  intro σ
  refine PCall_q [.tmp 4] 30 Tryz.func92 (by rfl) rfl rfl rfl rfl ?_
  repeat' first |refine s1 ?_|refine gS ?_|refine wT rfl ?_|refine wF rfl ?_|(refine wC rfl (fun h=>?_) (fun h=>?_)<;>(try contradiction))|((first|refine rd ?_|refine ry [] c0 fun nu _ _=>?_);simp -dsimp (disch:=omega) only[go_sem])|refine e0 (by decide) ?_|(refine And.intro ?_ ?_;omega)|refine And.intro (of_eq_true PutAt_put) ?_|refine gT ?_|refine gF ?_|(refine gI (fun h=>?_) (fun h=>?_)<;>(try contradiction)<;>(try refine rd ?_)<;>(try simp -dsimp (disch:=omega) only[go_sem,h]))|refine Exists.intro _ (Exists.intro _ (And.intro (And.intro rfl rfl) ?_)) |fail
  intro o ho
  repeat' first |refine s1 ?_|refine gS ?_|refine wT rfl ?_|refine wF rfl ?_|(refine wC rfl (fun h=>?_) (fun h=>?_)<;>(try contradiction))|((first|refine rd ?_|refine ry [] c0 fun nu _ _=>?_);simp -dsimp (disch:=omega) only[go_sem])|refine e0 (by decide) ?_|(refine And.intro ?_ ?_;omega)|refine And.intro (of_eq_true PutAt_put) ?_|refine gT ?_|refine gF ?_|(refine gI (fun h=>?_) (fun h=>?_)<;>(try contradiction)<;>(try refine rd ?_)<;>(try simp -dsimp (disch:=omega) only[go_sem,h]))|refine Exists.intro _ (Exists.intro _ (And.intro (And.intro rfl rfl) ?_)) |fail
  refine W_loop_st (fun i : Nat => [(1, .fn 93 []), (5, .map o), (10, .sl k (encL eLnk l)), (11, .int .i64 l.length), (12, .int .i64 i)]) (fun i => σ.put o (.map (seenE ((l.map (·.name)).take i)))) (fun i => i ≤ l.length ∧ unlikeB [] (l.map (·.name)) = unlikeB ((l.map (·.name)).take i) ((l.map (·.name)).drop i)) (fun i => l.length - i) 0 ⟨Nat.zero_le _, rfl⟩ (Env.Sub_of_has (by simp [Env.Has, Env.get])) (Store.Sub.refl _) ?_
  rintro i ⟨hi, hor⟩
  by_cases hlt : i < l.length
  · have hg : l.getD i default = l[i] := by simp [List.getD_eq_getElem?_getD, hlt]
    have hm : l[i] ∈ l := List.getElem_mem hlt
    have hns := name_spec l[i].name (hn _ hm)
    have hgt := getLnk l[i]
    have ho2 := unlikeB_drop (l.map (·.name)) i l[i].name (by simp [hlt])
    obtain ⟨ns, hns2⟩ : ∃ ns, (l.map (·.name)).take i = ns := ⟨_, rfl⟩
    rw [hns2] at ho2 hor
    repeat' first |refine s1 ?_|refine gS ?_|refine wT rfl ?_|refine wF rfl ?_|(refine wC rfl (fun h=>?_) (fun h=>?_)<;>(try contradiction))|((first|refine rd ?_|refine ry [] c0 fun nu _ _=>?_);simp -dsimp (disch:=omega) only[go_sem,hg, hns2])|refine e0 (by decide) ?_|(refine And.intro ?_ ?_;omega)|refine And.intro (of_eq_true PutAt_put) ?_|refine gT ?_|refine gF ?_|(refine gI (fun h=>?_) (fun h=>?_)<;>(try contradiction)<;>(try refine rd ?_)<;>(try simp -dsimp (disch:=omega) only[go_sem,h,hg, hns2]))|refine Exists.intro _ (Exists.intro _ (And.intro (And.intro rfl rfl) ?_)) |fail
    intro o1 ho1
    have hpn : ∀ (s : Store) (x : Ob), (s.put o1 x) o = s o := fun s x => put_ne (fresh_ne ho1)
    have ho1' := fresh_old ho1
    rcases Bool.eq_false_or_eq_true (ns.any fun t => decide (t = l[i].name)) with ha | ha
    · rw [ha] at ho2
      repeat' first |refine s1 ?_|refine gS ?_|refine wT rfl ?_|refine wF rfl ?_|(refine wC rfl (fun h=>?_) (fun h=>?_)<;>(try contradiction))|((first|refine rd ?_|refine ry [] c0 fun nu _ _=>?_);simp -dsimp (disch:=omega) only[go_sem,hpn, ha])|refine e0 (by decide) ?_|(refine And.intro ?_ ?_;omega)|refine And.intro (of_eq_true PutAt_put) ?_|refine gT ?_|refine gF ?_|(refine gI (fun h=>?_) (fun h=>?_)<;>(try contradiction)<;>(try refine rd ?_)<;>(try simp -dsimp (disch:=omega) only[go_sem,h,hpn, ha]))|refine Exists.intro _ (Exists.intro _ (And.intro (And.intro rfl rfl) ?_)) |refine us (hgt) ?_ |refine us (hns) ?_ |fail
      exact ⟨by rw [hor, ho2]; rfl, Sub_put (Sub_put (Store.Sub.refl _) ho _) ho1' _⟩
    · have hset := seen_set ns l[i].name ha
      rw [ha] at ho2
      repeat' first |refine s1 ?_|refine gS ?_|refine wT rfl ?_|refine wF rfl ?_|(refine wC rfl (fun h=>?_) (fun h=>?_)<;>(try contradiction))|((first|refine rd ?_|refine ry [] c0 fun nu _ _=>?_);simp -dsimp (disch:=omega) only[go_sem,hpn, ha, hset])|refine e0 (by decide) ?_|(refine And.intro ?_ ?_;omega)|refine And.intro (of_eq_true PutAt_put) ?_|refine gT ?_|refine gF ?_|(refine gI (fun h=>?_) (fun h=>?_)<;>(try contradiction)<;>(try refine rd ?_)<;>(try simp -dsimp (disch:=omega) only[go_sem,h,hpn, ha, hset]))|refine Exists.intro _ (Exists.intro _ (And.intro (And.intro rfl rfl) ?_)) |refine us (hgt) ?_ |refine us (hns) ?_ |fail
      · exact ⟨by rw [hor, ho2, h]; rfl, Sub_put (Sub_put (Store.Sub.refl _) ho _) ho1' _⟩
      · refine ⟨i + 1, by omega, ⟨by omega, by rw [hor, ho2, h]; rfl⟩, Env.Sub_of_has (by simp [Env.Has, Env.get]), ?_⟩
        rw [List.take_succ_eq_append_getElem (by simpa using hlt), hns2]
        simp only [List.getElem_map]
        exact Sub_put2 ho1'
  · have hi' : i = l.length := by omega
    subst hi'
    repeat' first |refine s1 ?_|refine gS ?_|refine wT rfl ?_|refine wF rfl ?_|(refine wC rfl (fun h=>?_) (fun h=>?_)<;>(try contradiction))|((first|refine rd ?_|refine ry [] c0 fun nu _ _=>?_);simp -dsimp (disch:=omega) only[go_sem])|refine e0 (by decide) ?_|(refine And.intro ?_ ?_;omega)|refine And.intro (of_eq_true PutAt_put) ?_|refine gT ?_|refine gF ?_|(refine gI (fun h=>?_) (fun h=>?_)<;>(try contradiction)<;>(try refine rd ?_)<;>(try simp -dsimp (disch:=omega) only[go_sem,h]))|refine Exists.intro _ (Exists.intro _ (And.intro (And.intro rfl rfl) ?_)) |fail
    exact ⟨by rw [hor, List.drop_eq_nil_of_le (by simp)]; rfl, Sub_put (Store.Sub.refl _) ho _⟩
end Go.Proofs.YtaealcimocpnnaaGreat
namespace Go.Proofs.YtaealcimocpnnaaGreat
open Go.Kern
structure PS where
  at_ : Nat
  e : Int
section
variable (l : List UInt8)
def skipB (i : Nat) : Nat := i + ((l.drop i).takeWhile (fun c => decide (c.toNat = 32))).length
theorem skipB_le (i : Nat) : i ≤ skipB l i := Nat.le_add_right _ _
theorem skipB_len {i : Nat} (h : i ≤ l.length) : skipB l i ≤ l.length := by
  have := (List.takeWhile_sublist (p := fun c : UInt8 => decide (c.toNat = 32)) (l := l.drop i)).length_le
  rw [List.length_drop] at this
  unfold skipB; omega
theorem skipB_step {i : Nat} (h : i < l.length) (hc : (l.getD i default).toNat = 32) : skipB l i = skipB l (i + 1) := by
  have hg : l.getD i default = l[i] := by simp [List.getD_eq_getElem?_getD, h]
  rw [hg] at hc
  unfold skipB
  rw [List.drop_eq_getElem_cons h, List.takeWhile_cons, if_pos (by simp [hc])]
  simp only [List.length_cons]; omega
theorem skipB_stop {i : Nat} (h : i < l.length) (hc : ¬ (l.getD i default).toNat = 32) : skipB l i = i := by
  have hg : l.getD i default = l[i] := by simp [List.getD_eq_getElem?_getD, h]
  rw [hg] at hc
  unfold skipB
  rw [List.drop_eq_getElem_cons h, List.takeWhile_cons, if_neg (by simp [hc])]
  rfl
theorem skipB_end {i : Nat} (h : l.length ≤ i) : skipB l i = i := by
  unfold skipB
  rw [List.drop_eq_nil_of_le h]; rfl
def chr (i : Nat) : Int := if i < l.length then ((l.getD i default).toNat : Int) else 0
def takeB (c : Int) (p : PS) : Bool × PS :=
  if p.e = 0 then (if chr l (skipB l p.at_) = c ∧ skipB l p.at_ < l.length then (true, ⟨skipB l p.at_ + 1, 0⟩) else (false, ⟨skipB l p.at_, 0⟩)) else (false, p)
def failB (e : Int) (p : PS) : PS := if p.e = 0 then ⟨p.at_, e⟩ else p
def digitZ (c : Int) : Bool := decide (48 ≤ c) && decide (c ≤ 57)
def numR : List UInt8 → Nat → Int → Nat × Int
  | [], i, n => (i, n)
  | c :: r, i, n => if digitZ c.toNat = true then numR r (i + 1) (if 1000000 < n * 10 + (c.toNat - 48) then 1000000 else n * 10 + (c.toNat - 48)) else (i, n)
def numberB (p : PS) : Int × PS :=
  if digitZ (chr l (skipB l p.at_)) = true then
    (let r := numR (l.drop (skipB l p.at_)) (skipB l p.at_) 0
     (r.2, if chr l (skipB l p.at_) = 48 ∧ skipB l p.at_ + 1 < r.1 then failB 4 ⟨r.1, p.e⟩ else if r.2 < 1 ∨ 65535 < r.2 then failB 7 ⟨r.1, p.e⟩ else ⟨r.1, p.e⟩))
  else (0, failB 4 ⟨skipB l p.at_, p.e⟩)
def partB (p : PS) : PS :=
  let a := numberB l p
  let t := takeB l 45 a.2
  if t.1 = true then
    (let b := numberB l t.2
     if b.2.e = 0 ∧ b.1 < a.1 then failB 7 b.2 else b.2)
  else t.2
def setB : Nat → PS → PS
  | 0, p => p
  | n + 1, p => if p.e = 0 then (if (takeB l 93 p).1 = true then (takeB l 93 p).2 else setB n (partB l (takeB l 93 p).2)) else p
def atomB (ch : PS → PS) (p : PS) : PS :=
  let t1 := takeB l 46 p
  if t1.1 = true then t1.2 else
  let t2 := takeB l 91 t1.2
  if t2.1 = true then setB l (l.length + 2) (partB l t2.2) else
  let t3 := takeB l 40 t2.2
  if t3.1 = true then
    (let q := ch t3.2
     if q.e = 0 then (if (takeB l 41 q).1 = true then (takeB l 41 q).2 else failB 4 (takeB l 41 q).2) else q)
  else (numberB l t3.2).2
def itemB (ch : PS → PS) (p : PS) : PS :=
  let q := atomB l ch p
  let t1 := takeB l 42 q
  if t1.1 = true then t1.2 else
  let t2 := takeB l 43 t1.2
  if t2.1 = true then t2.2 else (takeB l 63 t2.2).2
def beginsZ (c : Int) : Bool := digitZ c || decide (c = 46) || decide (c = 91) || decide (c = 40)
def rowB (ch : PS → PS) : Nat → PS → PS
  | 0, p => p
  | n + 1, p => if p.e = 0 then (if beginsZ (chr l (skipB l p.at_)) = true then rowB ch n (itemB l ch ⟨skipB l p.at_, 0⟩) else ⟨skipB l p.at_, 0⟩) else p
def altB (ch : PS → PS) : Nat → PS → PS
  | 0, p => p
  | n + 1, p => if (takeB l 124 (rowB l ch (l.length + 2) p)).1 = true then altB ch n (takeB l 124 (rowB l ch (l.length + 2) p)).2 else (takeB l 124 (rowB l ch (l.length + 2) p)).2
def choiceB : Nat → PS → PS
  | 0, p => failB 2 p
  | n + 1, p => altB l (choiceB n) (l.length + 2) p
def parseE : Int :=
  if 64 < l.length then 2 else
    let q := (takeB l 36 (choiceB l 8 (takeB l 94 ⟨0, 0⟩).2)).2
    if q.e = 0 then (if skipB l q.at_ < l.length then 4 else 0) else q.e
structure Mono (f : PS → PS) : Prop where
  le : ∀ p, p.at_ ≤ l.length → p.at_ ≤ (f p).at_
  len : ∀ p, p.at_ ≤ l.length → (f p).at_ ≤ l.length
  err : ∀ p, p.at_ ≤ l.length → p.e ≠ 0 → (f p).e ≠ 0
theorem fail_mono {e : Int} (he : e ≠ 0) : Mono l (failB e) := by
  refine ⟨fun p h => ?_, fun p h => ?_, fun p h k => ?_⟩ <;> (unfold failB; split <;> first | exact Nat.le_refl _ | assumption | skip)
theorem take_mono (c : Int) : Mono l (fun p => (takeB l c p).2) := by
  refine ⟨fun p h => ?_, fun p h => ?_, fun p h k => ?_⟩
  · have := skipB_le l p.at_
    simp only [takeB]; split
    · split
      · simp only; omega
      · exact this
    · exact Nat.le_refl _
  · have := skipB_len l h
    simp only [takeB]; split
    · split
      · rename_i q; simp only; omega
      · exact this
    · exact h
  · simp only [takeB, if_neg k]; exact k
theorem take_err {c : Int} {p : PS} (h : (takeB l c p).1 = true) : p.e = 0 ∧ (takeB l c p).2.e = 0 ∧ p.at_ < (takeB l c p).2.at_ := by
  have := skipB_le l p.at_
  unfold takeB at h ⊢
  by_cases h1 : p.e = 0
  · rw [if_pos h1] at h ⊢
    by_cases h2 : chr l (skipB l p.at_) = c ∧ skipB l p.at_ < l.length
    · rw [if_pos h2]; exact ⟨h1, rfl, by simp only; omega⟩
    · rw [if_neg h2] at h; cases h
  · rw [if_neg h1] at h; cases h
theorem numR_le : ∀ (r : List UInt8) (i : Nat) (n : Int), i ≤ (numR r i n).1 ∧ (numR r i n).1 ≤ i + r.length
  | [], i, n => ⟨Nat.le_refl _, Nat.le_refl _⟩
  | c :: r, i, n => by
    simp only [numR]
    split
    · have := numR_le r (i + 1) (if 1000000 < n * 10 + (c.toNat - 48) then 1000000 else n * 10 + (c.toNat - 48))
      simp only [List.length_cons]; omega
    · simp only [List.length_cons]; omega
theorem numR_gt {r : List UInt8} {i : Nat} {n : Int} {c : UInt8} (h : digitZ c.toNat = true) : i + 1 ≤ (numR (c :: r) i n).1 := by
  rw [numR, if_pos h]
  exact (numR_le r (i + 1) _).1
theorem chr_digit {i : Nat} (h : digitZ (chr l i) = true) : i < l.length ∧ chr l i = ((l.getD i default).toNat : Int) := by
  unfold chr at h ⊢
  by_cases hi : i < l.length
  · exact ⟨hi, if_pos hi⟩
  · rw [if_neg hi] at h; simp [digitZ] at h
theorem fail_at (e : Int) (p : PS) : (failB e p).at_ = p.at_ := by unfold failB; split <;> rfl
theorem fail_e {e : Int} (he : e ≠ 0) (p : PS) : (failB e p).e ≠ 0 := by
  unfold failB; split
  · exact he
  · assumption
theorem number_at (p : PS) (h : digitZ (chr l (skipB l p.at_)) = true) : (numberB l p).2.at_ = (numR (l.drop (skipB l p.at_)) (skipB l p.at_) 0).1 := by
  unfold numberB
  rw [if_pos h]
  simp only
  split
  · exact fail_at _ _
  · split
    · exact fail_at _ _
    · rfl
theorem number_mono : Mono l (fun p => (numberB l p).2) := by
  refine ⟨fun p h => ?_, fun p h => ?_, fun p h k => ?_⟩
  · have h1 := skipB_le l p.at_
    by_cases hd : digitZ (chr l (skipB l p.at_)) = true
    · have h2 := numR_le (l.drop (skipB l p.at_)) (skipB l p.at_) 0
      simp only [number_at l p hd]; omega
    · simp only [numberB, if_neg hd, fail_at]; exact h1
  · have h1 := skipB_len l h
    by_cases hd : digitZ (chr l (skipB l p.at_)) = true
    · have h2 := numR_le (l.drop (skipB l p.at_)) (skipB l p.at_) 0
      rw [List.length_drop] at h2
      simp only [number_at l p hd]; omega
    · simp only [numberB, if_neg hd, fail_at]; exact h1
  · by_cases hd : digitZ (chr l (skipB l p.at_)) = true
    · simp only [numberB, if_pos hd]
      split
      · exact fail_e (by decide) _
      · split
        · exact fail_e (by decide) _
        · exact k
    · simp only [numberB, if_neg hd]; exact fail_e (by decide) _
theorem number_go (p : PS) (h : (numberB l p).2.e = 0) : p.at_ < (numberB l p).2.at_ := by
  have h1 := skipB_le l p.at_
  by_cases hd : digitZ (chr l (skipB l p.at_)) = true
  · obtain ⟨hlt, hc⟩ := chr_digit l hd
    rw [number_at l p hd, List.drop_eq_getElem_cons hlt]
    have hg : l.getD (skipB l p.at_) default = l[skipB l p.at_] := by simp [List.getD_eq_getElem?_getD, hlt]
    rw [hc, hg] at hd
    have := numR_gt (r := l.drop (skipB l p.at_ + 1)) (i := skipB l p.at_) (n := 0) hd
    omega
  · simp only [numberB, if_neg hd] at h
    exact absurd h (fail_e (by decide) _)
theorem Mono.comp {f g : PS → PS} (hf : Mono l f) (hg : Mono l g) : Mono l (fun p => g (f p)) :=
  ⟨fun p h => Nat.le_trans (hf.le p h) (hg.le _ (hf.len p h)), fun p h => hg.len _ (hf.len p h), fun p h k => hg.err _ (hf.len p h) (hf.err p h k)⟩
theorem Mono.ite {f g : PS → PS} (c : PS → Prop) [∀ p, Decidable (c p)] (hf : Mono l f) (hg : Mono l g) : Mono l (fun p => if c p then f p else g p) := by
  refine ⟨fun p h => ?_, fun p h => ?_, fun p h k => ?_⟩ <;> (try simp only) <;> split
  · exact hf.le p h
  · exact hg.le p h
  · exact hf.len p h
  · exact hg.len p h
  · exact hf.err p h k
  · exact hg.err p h k
theorem Mono.id : Mono l (fun p => p) := ⟨fun _ _ => Nat.le_refl _, fun _ h => h, fun _ _ k => k⟩
theorem part_mono : Mono l (partB l) := by
  have h1 := (number_mono l).comp l (take_mono l 45)
  have h2 := h1.comp l (number_mono l)
  have h3 := h2.comp l (fail_mono l (e := 7) (by decide))
  exact Mono.ite l (fun p => (takeB l 45 (numberB l p).2).1 = true) (Mono.ite l (fun p => (numberB l (takeB l 45 (numberB l p).2).2).2.e = 0 ∧ (numberB l (takeB l 45 (numberB l p).2).2).1 < (numberB l p).1) h3 h2) h1
theorem part_go (p : PS) (hp : p.at_ ≤ l.length) (h : (partB l p).e = 0) : p.at_ < (partB l p).at_ := by
  have hm := number_mono l
  have h1 := hm.len p hp
  have ht := take_mono l 45
  have key : (numberB l p).2.e = 0 → p.at_ < (partB l p).at_ := fun h0 => by
    have g1 := number_go l p h0
    have g2 := ht.le _ h1
    have g3 := ht.len _ h1
    have g4 := hm.le _ g3
    simp only [partB]
    split
    · split
      · rw [fail_at]; omega
      · (try simp only at g2 g4); omega
    · (try simp only at g2); omega
  refine key ?_
  cases Int.decEq (numberB l p).2.e 0 with
  | isTrue h0 => exact h0
  | isFalse h0 =>
    have := ((ht.comp l hm).comp l (fail_mono l (e := 7) (by decide)))
    have t0 : (takeB l 45 (numberB l p).2).1 = false := by unfold takeB; rw [if_neg h0]
    simp only [partB, t0, Bool.false_eq_true, if_false] at h
    exact absurd h (ht.err _ h1 h0)
theorem set_mono : ∀ n, Mono l (setB l n)
  | 0 => Mono.id l
  | n + 1 => Mono.ite l (fun p => p.e = 0) (Mono.ite l (fun p => (takeB l 93 p).1 = true) (take_mono l 93) (((take_mono l 93).comp l (part_mono l)).comp l (set_mono n))) (Mono.id l)
variable {ch : PS → PS} (hch : Mono l ch)
include hch
theorem atom_mono : Mono l (atomB l ch) := by
  have t1 := take_mono l 46
  have t2 := t1.comp l (take_mono l 91)
  have t3 := t2.comp l (take_mono l 40)
  have q := t3.comp l hch
  have q1 := q.comp l (take_mono l 41)
  have q2 := q1.comp l (fail_mono l (e := 4) (by decide))
  exact Mono.ite l (fun p => (takeB l 46 p).1 = true) t1 (Mono.ite l (fun p => (takeB l 91 (takeB l 46 p).2).1 = true) ((t2.comp l (part_mono l)).comp l (set_mono l (l.length + 2)))
    (Mono.ite l (fun p => (takeB l 40 (takeB l 91 (takeB l 46 p).2).2).1 = true) (Mono.ite l (fun p => (ch (takeB l 40 (takeB l 91 (takeB l 46 p).2).2).2).e = 0) (Mono.ite l (fun p => (takeB l 41 (ch (takeB l 40 (takeB l 91 (takeB l 46 p).2).2).2)).1 = true) q1 q2) q) (t3.comp l (number_mono l))))
theorem item_mono : Mono l (itemB l ch) := by
  have a := atom_mono l hch
  have t1 := a.comp l (take_mono l 42)
  have t2 := t1.comp l (take_mono l 43)
  have t3 := t2.comp l (take_mono l 63)
  exact Mono.ite l (fun p => (takeB l 42 (atomB l ch p)).1 = true) t1 (Mono.ite l (fun p => (takeB l 43 (takeB l 42 (atomB l ch p)).2).1 = true) t2 t3)
theorem atom_go (p : PS) (hp : p.at_ ≤ l.length) (h : (atomB l ch p).e = 0) (h0 : p.e = 0) : p.at_ < (atomB l ch p).at_ := by
  have m1 := take_mono l 46
  have m2 := m1.comp l (take_mono l 91)
  have m3 := m2.comp l (take_mono l 40)
  have a1 := m1.le p hp
  have a2 := m2.le p hp
  have a3 := m3.le p hp
  have b1 := m1.len p hp
  have b2 := m2.len p hp
  have b3 := m3.len p hp
  try simp only at a1 a2 a3 b1 b2 b3
  simp only [atomB] at h ⊢
  split at h
  · rename_i t
    rw [if_pos t]; exact (take_err l t).2.2
  · rename_i n1
    rw [if_neg n1]
    split at h
    · rename_i t
      rw [if_pos t]
      have g1 := (take_err l t).2.2
      have g2 := ((part_mono l).comp l (set_mono l (l.length + 2))).le _ b2
      (try simp only at g2); omega
    · rename_i n2
      rw [if_neg n2]
      split at h
      · rename_i t
        rw [if_pos t]
        have g1 := (take_err l t).2.2
        have g2 := hch.le _ b3
        have g3 := hch.len _ b3
        have g4 := (take_mono l 41).le _ g3
        split
        · split
          · (try simp only at g4); omega
          · rw [fail_at]; omega
        · omega
      · rename_i n3
        rw [if_neg n3]
        have g1 := number_go l _ h
        omega
theorem item_go (p : PS) (hp : p.at_ ≤ l.length) (h : (itemB l ch p).e = 0) (h0 : p.e = 0) : p.at_ < (itemB l ch p).at_ := by
  have m := atom_mono l hch
  have b := m.len p hp
  have r1 := take_mono l 42
  have r2 := r1.comp l (take_mono l 43)
  have r3 := r2.comp l (take_mono l 63)
  have key : (atomB l ch p).e = 0 → p.at_ < (itemB l ch p).at_ := fun h1 => by
    have g := atom_go l hch p hp h1 h0
    have g1 := r1.le _ b
    have g2 := r2.le _ b
    have g3 := r3.le _ b
    try simp only at g1 g2 g3
    simp only [itemB]
    split
    · omega
    · split <;> omega
  refine key ?_
  cases Int.decEq (atomB l ch p).e 0 with
  | isTrue h1 => exact h1
  | isFalse h1 =>
    exfalso
    have e1 := r1.err _ b h1
    have e2 := r2.err _ b h1
    have e3 := r3.err _ b h1
    try simp only at e1 e2 e3
    simp only [itemB] at h
    split at h
    · exact e1 h
    · split at h
      · exact e2 h
      · exact e3 h
omit hch in
theorem at_mono (f : PS → PS) (hf : Mono l f) : Mono l (fun p => f ⟨skipB l p.at_, 0⟩) → True := fun _ => trivial
theorem row_mono : ∀ n, Mono l (rowB l ch n)
  | 0 => Mono.id l
  | n + 1 => by
    have ih := row_mono n
    have im := item_mono l hch
    refine ⟨fun p h => ?_, fun p h => ?_, fun p h k => ?_⟩
    · have s1 := skipB_le l p.at_
      have s2 := skipB_len l h
      simp only [rowB]; split
      · split
        · have g1 := im.le ⟨skipB l p.at_, 0⟩ s2
          have g2 := ih.le _ (im.len ⟨skipB l p.at_, 0⟩ s2)
          (try simp only at g1); omega
        · exact s1
      · exact Nat.le_refl _
    · have s2 := skipB_len l h
      simp only [rowB]; split
      · split
        · exact ih.len _ (im.len ⟨skipB l p.at_, 0⟩ s2)
        · exact s2
      · exact h
    · simp only [rowB, if_neg k]; exact k
theorem alt_mono : ∀ n, Mono l (altB l ch n)
  | 0 => Mono.id l
  | n + 1 => by
    have r := (row_mono l hch (l.length + 2)).comp l (take_mono l 124)
    exact Mono.ite l (fun p => (takeB l 124 (rowB l ch (l.length + 2) p)).1 = true) (r.comp l (alt_mono n)) r
omit hch in
theorem choice_mono : ∀ n, Mono l (choiceB l n)
  | 0 => fail_mono l (by decide)
  | n + 1 => alt_mono l (choice_mono n) _
end
end Go.Proofs.YtaealcimocpnnaaGreat
namespace Go.Proofs.YtaealcimocpnnaaGreat
open Go.Kern
section
variable (l : List UInt8)
def isB (i : Nat) (c : Int) : Bool := decide (skipB l i < l.length) && decide (((l.getD (skipB l i) default).toNat : Int) = c)
def rNumber (i : Nat) : Int × Nat × Int :=
  let j := skipB l i
  let r := numR (l.drop j) j 0
  if r.1 = j ∨ (j + 1 < r.1 ∧ ((l.getD j default).toNat : Int) = 48) then (0, j, 4) else if 0 < r.2 ∧ r.2 < 65536 then (r.2, r.1, 0) else (0, j, 7)
def rPart (i : Nat) : Nat × Int :=
  let a := rNumber l i
  if a.2.2 ≠ 0 then (i, a.2.2) else
  if isB l a.2.1 45 = true then
    (let b := rNumber l (skipB l a.2.1 + 1)
     if b.2.2 ≠ 0 then (i, b.2.2) else if b.1 < a.1 then (i, 7) else (b.2.1, 0))
  else (a.2.1, 0)
def rSet : Nat → Nat → Nat × Int
  | 0, i => (i, 0)
  | n + 1, i => if isB l i 93 = true then (skipB l i + 1, 0) else if (rPart l i).2 ≠ 0 then rPart l i else rSet n (rPart l i).1
def rSet1 (n i : Nat) : Nat × Int := if (rPart l i).2 ≠ 0 then rPart l i else rSet l n (rPart l i).1
def rAtom (ch : Nat → Nat × Int) (i : Nat) : Nat × Int :=
  if isB l i 46 = true then (skipB l i + 1, 0) else
  if isB l i 91 = true then rSet1 l (l.length + 2) (skipB l i + 1) else
  if isB l i 40 = true then
    (if (ch (skipB l i + 1)).2 ≠ 0 then ch (skipB l i + 1) else if isB l (ch (skipB l i + 1)).1 41 = true then (skipB l (ch (skipB l i + 1)).1 + 1, 0) else ((ch (skipB l i + 1)).1, 4))
  else (rNumber l i).2
def rPost (k : Nat) : Nat := if isB l k 42 = true ∨ isB l k 43 = true ∨ isB l k 63 = true then skipB l k + 1 else k
def rRow (ch : Nat → Nat × Int) : Nat → Nat → Nat × Int
  | 0, i => (i, 0)
  | n + 1, i => if beginsZ (chr l (skipB l i)) = true then (if (rAtom l ch (skipB l i)).2 ≠ 0 then rAtom l ch (skipB l i) else rRow ch n (rPost l (rAtom l ch (skipB l i)).1)) else (skipB l i, 0)
def rAlt (ch : Nat → Nat × Int) : Nat → Nat → Nat × Int
  | 0, i => (i, 0)
  | n + 1, i => if (rRow l ch (l.length + 2) i).2 ≠ 0 then rRow l ch (l.length + 2) i else
      if isB l (rRow l ch (l.length + 2) i).1 124 = true then rAlt ch n (skipB l (rRow l ch (l.length + 2) i).1 + 1) else rRow l ch (l.length + 2) i
def rChoice : Nat → Nat → Nat × Int
  | 0, i => (i, 2)
  | n + 1, i => rAlt l (rChoice n) (l.length + 2) i
def rParse : Int :=
  if 64 < l.length then 2 else
    let q := rChoice l 8 (if isB l 0 94 = true then skipB l 0 + 1 else 0)
    if q.2 ≠ 0 then q.2 else if skipB l (if isB l q.1 36 = true then skipB l q.1 + 1 else q.1) = l.length then 0 else 4
theorem skip_skip (i : Nat) : skipB l (skipB l i) = skipB l i := by
  by_cases h : skipB l i < l.length
  · refine skipB_stop l h fun hc => ?_
    have hi : i < l.length := Nat.lt_of_le_of_lt (skipB_le l i) h
    have hd : (l.drop i).takeWhile (fun c => decide (c.toNat = 32)) ++ (l.drop i).dropWhile (fun c => decide (c.toNat = 32)) = l.drop i := List.takeWhile_append_dropWhile
    obtain ⟨t, ht⟩ : ∃ t, (l.drop i).takeWhile (fun c => decide (c.toNat = 32)) = t := ⟨_, rfl⟩
    obtain ⟨u, hu⟩ : ∃ u, (l.drop i).dropWhile (fun c => decide (c.toNat = 32)) = u := ⟨_, rfl⟩
    have hs : skipB l i = i + t.length := by unfold skipB; rw [ht]
    rw [ht, hu] at hd
    have hx : l[skipB l i]? = u.head? := by
      have e : l[skipB l i]? = (l.drop i)[t.length]? := by rw [List.getElem?_drop, hs]
      rw [e, ← hd, List.getElem?_append_right (Nat.le_refl _), Nat.sub_self, List.head?_eq_getElem?]
    rw [List.getD_eq_getElem?_getD, List.getElem?_eq_getElem h] at hc
    rw [List.getElem?_eq_getElem h] at hx
    have := List.head?_dropWhile_not (fun c : UInt8 => decide (c.toNat = 32)) (l.drop i)
    rw [hu, ← hx] at this
    simp at this hc
    exact this hc
  · exact skipB_end l (by omega)
theorem isB_chr (i : Nat) (c : Int) (hc : c ≠ 0) : isB l i c = decide (chr l (skipB l i) = c ∧ skipB l i < l.length) := by
  unfold isB chr
  by_cases h : skipB l i < l.length
  · simp [h]
  · simp [h]
theorem isB_skip {i j : Nat} (h : skipB l i = skipB l j) (c : Int) : isB l i c = isB l j c := by unfold isB; rw [h]
theorem take_rel {c : Int} (hc : c ≠ 0) {p : PS} {i : Nat} (he : p.e = 0) (hs : skipB l p.at_ = skipB l i) : takeB l c p = if isB l i c = true then (true, ⟨skipB l i + 1, 0⟩) else (false, ⟨skipB l i, 0⟩) := by
  rw [← isB_skip l hs c, isB_chr l _ c hc, takeB, if_pos he, hs]
  simp only [decide_eq_true_eq]
theorem take_bad {c : Int} {p : PS} (he : p.e ≠ 0) : takeB l c p = (false, p) := by rw [takeB, if_neg he]
theorem digit_num {j : Nat} : digitZ (chr l j) = true ↔ (numR (l.drop j) j 0).1 ≠ j := by
  unfold chr
  by_cases h : j < l.length
  · have hg : l.getD j default = l[j] := by simp [List.getD_eq_getElem?_getD, h]
    rw [if_pos h, List.drop_eq_getElem_cons h, hg]
    constructor
    · intro hd
      have := numR_gt (r := l.drop (j + 1)) (i := j) (n := 0) hd
      omega
    · intro hn
      cases hq : digitZ (l[j].toNat : Int) with
      | true => rfl
      | false => rw [numR, if_neg (by rw [hq]; simp)] at hn; exact absurd rfl hn
  · rw [if_neg h, List.drop_eq_nil_of_le (by omega)]
    simp [numR, digitZ]
theorem number_rel {p : PS} {i : Nat} (he : p.e = 0) (hs : skipB l p.at_ = skipB l i) :
    (numberB l p).2.e = (rNumber l i).2.2 ∧ ((rNumber l i).2.2 = 0 → (numberB l p).1 = (rNumber l i).1 ∧ (numberB l p).2.at_ = (rNumber l i).2.1) := by
  unfold numberB rNumber
  rw [hs]
  obtain ⟨j, hj⟩ : ∃ j, skipB l i = j := ⟨_, rfl⟩
  rw [hj]
  simp only
  obtain ⟨r, hr⟩ : ∃ r, numR (l.drop j) j 0 = r := ⟨_, rfl⟩
  by_cases hd : digitZ (chr l j) = true
  · have hn := (digit_num l).1 hd
    obtain ⟨hlt, hch⟩ := chr_digit l hd
    rw [if_pos hd, hch]
    rw [hr] at hn ⊢
    by_cases h1 : ((l.getD j default).toNat : Int) = 48 ∧ j + 1 < r.1
    · rw [if_pos h1, if_pos (Or.inr ⟨h1.2, h1.1⟩)]
      exact ⟨by simp [failB, he], fun h => by simp at h⟩
    · have h3 : ¬ (r.1 = j ∨ (j + 1 < r.1 ∧ ((l.getD j default).toNat : Int) = 48)) := fun h => by
        rcases h with h | h
        · exact hn h
        · exact h1 ⟨h.2, h.1⟩
      rw [if_neg h1, if_neg h3]
      by_cases h2 : r.2 < 1 ∨ 65535 < r.2
      · have h4 : ¬ (0 < r.2 ∧ r.2 < 65536) := by omega
        rw [if_pos h2, if_neg h4]
        exact ⟨by simp [failB, he], fun h => by simp at h⟩
      · have h4 : 0 < r.2 ∧ r.2 < 65536 := by omega
        rw [if_neg h2, if_pos h4]
        exact ⟨he, fun _ => ⟨rfl, rfl⟩⟩
  · have hn : (numR (l.drop j) j 0).1 = j := by
      cases Nat.decEq (numR (l.drop j) j 0).1 j with
      | isTrue h => exact h
      | isFalse h => exact absurd ((digit_num l).2 h) hd
    rw [if_neg hd, if_pos (Or.inl hn)]
    exact ⟨by simp [failB, he], fun h => by simp at h⟩
def Rel (p : PS) (q : Nat × Int) : Prop := p.e = q.2 ∧ (q.2 = 0 → skipB l p.at_ = skipB l q.1)
theorem number_Rel {p : PS} {i : Nat} (he : p.e = 0) (hs : skipB l p.at_ = skipB l i) : Rel l (numberB l p).2 (rNumber l i).2 := by
  obtain ⟨h1, h2⟩ := number_rel l he hs
  exact ⟨h1, fun h => by rw [(h2 h).2]⟩
theorem part_rel {p : PS} {i : Nat} (he : p.e = 0) (hs : skipB l p.at_ = skipB l i) : Rel l (partB l p) (rPart l i) := by
  obtain ⟨h1, h2⟩ := number_rel l he hs
  unfold partB rPart
  simp only
  by_cases ha : (rNumber l i).2.2 = 0
  · obtain ⟨v1, p1⟩ := h2 ha
    rw [ha] at h1
    have ha' : ¬ (rNumber l i).2.2 ≠ 0 := fun h => h ha
    rw [if_neg ha', take_rel l (by decide) h1 (i := (rNumber l i).2.1) (by rw [p1])]
    by_cases hm : isB l (rNumber l i).2.1 45 = true
    · rw [if_pos hm, if_pos hm]
      simp only [if_true]
      obtain ⟨h3, h4⟩ := number_rel l (p := ⟨skipB l (rNumber l i).2.1 + 1, 0⟩) (i := skipB l (rNumber l i).2.1 + 1) rfl rfl
      by_cases hb : (rNumber l (skipB l (rNumber l i).2.1 + 1)).2.2 = 0
      · obtain ⟨v2, p2⟩ := h4 hb
        rw [hb] at h3
        have hb' : ¬ (rNumber l (skipB l (rNumber l i).2.1 + 1)).2.2 ≠ 0 := fun h => h hb
        rw [if_neg hb', v2, v1]
        by_cases hc : (rNumber l (skipB l (rNumber l i).2.1 + 1)).1 < (rNumber l i).1
        · have hc2 : (numberB l ⟨skipB l (rNumber l i).2.1 + 1, 0⟩).2.e = 0 ∧ (rNumber l (skipB l (rNumber l i).2.1 + 1)).1 < (rNumber l i).1 := ⟨h3, hc⟩
          rw [if_pos hc2, if_pos hc]
          exact ⟨by simp [failB, h3], fun h => by simp at h⟩
        · have hc2 : ¬ ((numberB l ⟨skipB l (rNumber l i).2.1 + 1, 0⟩).2.e = 0 ∧ (rNumber l (skipB l (rNumber l i).2.1 + 1)).1 < (rNumber l i).1) := fun h => hc h.2
          rw [if_neg hc2, if_neg hc]
          exact ⟨h3, fun _ => by rw [p2]⟩
      · have hc2 : ¬ ((numberB l ⟨skipB l (rNumber l i).2.1 + 1, 0⟩).2.e = 0 ∧ (numberB l ⟨skipB l (rNumber l i).2.1 + 1, 0⟩).1 < (numberB l p).1) := fun h => hb (by rw [← h3]; exact h.1)
        rw [if_neg hc2, if_pos hb]
        exact ⟨h3, fun h => absurd h hb⟩
    · rw [if_neg hm, if_neg hm]
      simp only [Bool.false_eq_true, if_false]
      exact ⟨rfl, fun _ => skip_skip l _⟩
  · rw [if_pos ha, take_bad l (by rw [h1]; exact ha)]
    simp only [Bool.false_eq_true, if_false]
    exact ⟨h1, fun h => absurd h ha⟩
theorem set_bad {p : PS} (h : p.e ≠ 0) : ∀ n, setB l n p = p
  | 0 => rfl
  | n + 1 => by rw [setB, if_neg h]
theorem set_rel : ∀ (n : Nat) {p : PS} {i : Nat}, p.e = 0 → skipB l p.at_ = skipB l i → Rel l (setB l n p) (rSet l n i)
  | 0, p, i, he, hs => ⟨he, fun _ => hs⟩
  | n + 1, p, i, he, hs => by
    rw [setB, if_pos he, take_rel l (by decide) he hs, rSet]
    by_cases hm : isB l i 93 = true
    · rw [if_pos hm, if_pos hm]; exact ⟨rfl, fun _ => rfl⟩
    · rw [if_neg hm, if_neg hm]
      simp only [Bool.false_eq_true, if_false]
      have hp := part_rel l (p := ⟨skipB l i, 0⟩) (i := i) rfl (skip_skip l i)
      by_cases hq : (rPart l i).2 = 0
      · have hq' : ¬ (rPart l i).2 ≠ 0 := fun h => h hq
        rw [if_neg hq']
        exact set_rel n (by rw [hp.1]; exact hq) (hp.2 hq)
      · rw [if_pos hq, set_bad l (by rw [hp.1]; exact hq)]; exact hp
variable {ch : PS → PS} {rc : Nat → Nat × Int} (hch : ∀ (p : PS) (i : Nat), p.e = 0 → skipB l p.at_ = skipB l i → Rel l (ch p) (rc i))
include hch
theorem atom_rel {p : PS} {i : Nat} (he : p.e = 0) (hs : skipB l p.at_ = skipB l i) : Rel l (atomB l ch p) (rAtom l rc i) := by
  unfold atomB rAtom
  simp only
  rw [take_rel l (by decide) he hs]
  by_cases h1 : isB l i 46 = true
  · rw [if_pos h1, if_pos h1]; exact ⟨rfl, fun _ => rfl⟩
  rw [if_neg h1, if_neg h1]
  simp only [Bool.false_eq_true, if_false]
  rw [take_rel l (by decide) (p := ⟨skipB l i, 0⟩) (i := i) rfl (skip_skip l i)]
  by_cases h2 : isB l i 91 = true
  · rw [if_pos h2, if_pos h2]
    simp only [if_true]
    unfold rSet1
    have hp := part_rel l (p := ⟨skipB l i + 1, 0⟩) (i := skipB l i + 1) rfl rfl
    by_cases hq : (rPart l (skipB l i + 1)).2 = 0
    · have hq' : ¬ (rPart l (skipB l i + 1)).2 ≠ 0 := fun h => h hq
      rw [if_neg hq']
      exact set_rel l _ (by rw [hp.1]; exact hq) (hp.2 hq)
    · rw [if_pos hq, set_bad l (by rw [hp.1]; exact hq)]; exact hp
  rw [if_neg h2, if_neg h2]
  simp only [Bool.false_eq_true, if_false]
  rw [take_rel l (by decide) (p := ⟨skipB l i, 0⟩) (i := i) rfl (skip_skip l i)]
  by_cases h3 : isB l i 40 = true
  · rw [if_pos h3, if_pos h3]
    simp only [if_true]
    have hp := hch ⟨skipB l i + 1, 0⟩ (skipB l i + 1) rfl rfl
    by_cases hq : (rc (skipB l i + 1)).2 = 0
    · have e0 : (ch ⟨skipB l i + 1, 0⟩).e = 0 := by rw [hp.1]; exact hq
      have hq' : ¬ (rc (skipB l i + 1)).2 ≠ 0 := fun h => h hq
      rw [if_neg hq', if_pos e0, take_rel l (by decide) e0 (hp.2 hq)]
      by_cases h4 : isB l (rc (skipB l i + 1)).1 41 = true
      · rw [if_pos h4, if_pos h4]; exact ⟨rfl, fun _ => rfl⟩
      · rw [if_neg h4, if_neg h4]
        simp only [Bool.false_eq_true, if_false]
        exact ⟨rfl, fun h => by simp at h⟩
    · have e0 : ¬ (ch ⟨skipB l i + 1, 0⟩).e = 0 := fun h => hq (by rw [← hp.1]; exact h)
      rw [if_pos hq, if_neg e0]; exact hp
  rw [if_neg h3, if_neg h3]
  simp only [Bool.false_eq_true, if_false]
  exact number_Rel l rfl (skip_skip l i)
theorem item_rel {p : PS} {i : Nat} (he : p.e = 0) (hs : skipB l p.at_ = skipB l i) : Rel l (itemB l ch p) (if (rAtom l rc i).2 ≠ 0 then rAtom l rc i else (rPost l (rAtom l rc i).1, 0)) := by
  have ha := atom_rel l hch he hs
  unfold itemB
  simp only
  by_cases hq : (rAtom l rc i).2 = 0
  · have e0 : (atomB l ch p).e = 0 := by rw [ha.1]; exact hq
    have hq' : ¬ (rAtom l rc i).2 ≠ 0 := fun h => h hq
    rw [if_neg hq', take_rel l (by decide) e0 (ha.2 hq)]
    unfold rPost
    obtain ⟨k, hk⟩ : ∃ k, (rAtom l rc i).1 = k := ⟨_, rfl⟩
    rw [hk]
    by_cases h1 : isB l k 42 = true
    · rw [if_pos h1, if_pos (Or.inl h1)]; exact ⟨rfl, fun _ => rfl⟩
    rw [if_neg h1]
    simp only [Bool.false_eq_true, if_false]
    rw [take_rel l (by decide) (p := ⟨skipB l k, 0⟩) (i := k) rfl (skip_skip l k)]
    by_cases h2 : isB l k 43 = true
    · rw [if_pos h2, if_pos (Or.inr (Or.inl h2))]; exact ⟨rfl, fun _ => rfl⟩
    rw [if_neg h2]
    simp only [Bool.false_eq_true, if_false]
    rw [take_rel l (by decide) (p := ⟨skipB l k, 0⟩) (i := k) rfl (skip_skip l k)]
    by_cases h3 : isB l k 63 = true
    · rw [if_pos h3, if_pos (Or.inr (Or.inr h3))]; exact ⟨rfl, fun _ => rfl⟩
    have h4 : ¬ (isB l k 42 = true ∨ isB l k 43 = true ∨ isB l k 63 = true) := fun h => by
      rcases h with h | h | h
      · exact h1 h
      · exact h2 h
      · exact h3 h
    rw [if_neg h3, if_neg h4]
    exact ⟨rfl, fun _ => skip_skip l k⟩
  · have e0 : (atomB l ch p).e ≠ 0 := by rw [ha.1]; exact hq
    rw [if_pos hq, take_bad l e0]
    simp only [Bool.false_eq_true, if_false]
    rw [take_bad l e0]
    simp only [Bool.false_eq_true, if_false]
    rw [take_bad l e0]
    exact ha
omit hch in
theorem row_bad {p : PS} (h : p.e ≠ 0) : ∀ n, rowB l ch n p = p
  | 0 => rfl
  | n + 1 => by rw [rowB, if_neg h]
theorem row_rel : ∀ (n : Nat) {p : PS} {i : Nat}, p.e = 0 → skipB l p.at_ = skipB l i → Rel l (rowB l ch n p) (rRow l rc n i)
  | 0, p, i, he, hs => ⟨he, fun _ => hs⟩
  | n + 1, p, i, he, hs => by
    rw [rowB, if_pos he, rRow, hs]
    by_cases hb : beginsZ (chr l (skipB l i)) = true
    · rw [if_pos hb, if_pos hb]
      have hi := item_rel l hch (p := ⟨skipB l i, 0⟩) (i := skipB l i) rfl rfl
      by_cases hq : (rAtom l rc (skipB l i)).2 = 0
      · have hq' : ¬ (rAtom l rc (skipB l i)).2 ≠ 0 := fun h => h hq
        rw [if_neg hq'] at hi ⊢
        exact row_rel n hi.1 (hi.2 rfl)
      · rw [if_pos hq] at hi ⊢
        rw [row_bad l (by rw [hi.1]; exact hq)]; exact hi
    · rw [if_neg hb, if_neg hb]; exact ⟨rfl, fun _ => rfl⟩
theorem alt_rel : ∀ (n : Nat) {p : PS} {i : Nat}, p.e = 0 → skipB l p.at_ = skipB l i → Rel l (altB l ch n p) (rAlt l rc n i)
  | 0, p, i, he, hs => ⟨he, fun _ => hs⟩
  | n + 1, p, i, he, hs => by
    have hr := row_rel l hch (l.length + 2) he hs
    rw [altB, rAlt]
    by_cases hq : (rRow l rc (l.length + 2) i).2 = 0
    · have hq' : ¬ (rRow l rc (l.length + 2) i).2 ≠ 0 := fun h => h hq
      rw [if_neg hq', take_rel l (by decide) (by rw [hr.1]; exact hq) (hr.2 hq)]
      by_cases hm : isB l (rRow l rc (l.length + 2) i).1 124 = true
      · rw [if_pos hm, if_pos hm]
        simp only [if_true]
        exact alt_rel n rfl rfl
      · rw [if_neg hm, if_neg hm]
        simp only [Bool.false_eq_true, if_false]
        exact ⟨hq.symm, fun _ => skip_skip l _⟩
    · rw [if_pos hq, take_bad l (by rw [hr.1]; exact hq)]
      simp only [Bool.false_eq_true, if_false]
      exact hr
omit hch in
theorem choice_rel : ∀ (n : Nat) (p : PS) (i : Nat), p.e = 0 → skipB l p.at_ = skipB l i → Rel l (choiceB l n p) (rChoice l n i)
  | 0, p, i, he, hs => by
    rw [choiceB, rChoice]
    exact ⟨by simp [failB, he], fun h => by simp at h⟩
  | n + 1, p, i, he, hs => alt_rel l (choice_rel n) _ he hs
omit hch in
theorem parse_rel : parseE l = rParse l := by
  unfold parseE rParse
  by_cases h64 : 64 < l.length
  · rw [if_pos h64, if_pos h64]
  rw [if_neg h64, if_neg h64]
  simp only
  have h0 : Rel l (takeB l 94 ⟨0, 0⟩).2 (if isB l 0 94 = true then skipB l 0 + 1 else 0, 0) := by
    rw [take_rel l (by decide) (p := ⟨0, 0⟩) (i := 0) rfl rfl]
    by_cases hm : isB l 0 94 = true
    · rw [if_pos hm, if_pos hm]; exact ⟨rfl, fun _ => rfl⟩
    · rw [if_neg hm, if_neg hm]; exact ⟨rfl, fun _ => skip_skip l 0⟩
  obtain ⟨i0, hi0⟩ : ∃ i0, (if isB l 0 94 = true then skipB l 0 + 1 else 0) = i0 := ⟨_, rfl⟩
  rw [hi0] at h0 ⊢
  have hc := choice_rel l 8 _ i0 h0.1 (h0.2 rfl)
  obtain ⟨q, hq⟩ : ∃ q, rChoice l 8 i0 = q := ⟨_, rfl⟩
  rw [hq] at hc ⊢
  obtain ⟨p, hp⟩ : ∃ p, choiceB l 8 (takeB l 94 ⟨0, 0⟩).2 = p := ⟨_, rfl⟩
  rw [hp] at hc ⊢
  by_cases he : q.2 = 0
  · have e0 : p.e = 0 := by rw [hc.1]; exact he
    have he' : ¬ q.2 ≠ 0 := fun h => h he
    rw [if_neg he', take_rel l (by decide) e0 (hc.2 he)]
    have hb : skipB l p.at_ ≤ l.length := by
      have m0 := (take_mono l 94).len ⟨0, 0⟩ (Nat.zero_le _)
      have m1 := (choice_mono l 8).len _ m0
      simp only [hp] at m1
      exact skipB_len l m1
    rw [hc.2 he] at hb
    by_cases hm : isB l q.1 36 = true
    · rw [if_pos hm, if_pos hm]
      simp only [if_true]
      have hlt : skipB l q.1 < l.length := by
        simp only [isB, Bool.and_eq_true, decide_eq_true_eq] at hm
        exact hm.1
      have h3 := skipB_len l (i := skipB l q.1 + 1) (by omega)
      by_cases h4 : skipB l (skipB l q.1 + 1) = l.length
      · rw [if_neg (by omega), if_pos h4]
      · rw [if_pos (by omega), if_neg h4]
    · rw [if_neg hm, if_neg hm]
      simp only [if_true, skip_skip]
      by_cases h4 : skipB l q.1 = l.length
      · rw [if_neg (by omega), if_pos h4]
      · rw [if_pos (by omega), if_neg h4]
  · have e0 : p.e ≠ 0 := by rw [hc.1]; exact he
    rw [if_pos he, take_bad l e0, if_neg e0, hc.1]
end
end Go.Proofs.YtaealcimocpnnaaGreat
namespace Go.Proofs.YtaealcimocpnnaaGreat
open Go.Kern
set_option maxRecDepth 100000
set_option maxHeartbeats 4000000
attribute [local irreducible] PCall W
def pO (s : ByteArray) (p : PS) : Ob := .arr 213 [.agg [.str s, .int .i64 p.at_, .int .i64 p.e]]
attribute [local go_sem] pO splice
theorem fail_spec (s : ByteArray) (p : PS) (e : Int) (o : Nat) (σ : Store) :
    PCall Tryz.prog 166 [.ptr o 0 0, .int .i64 e] (σ.put o (pO s p)) (fun r t => r = .tup [] ∧ t = σ.put o (pO s (failB e p))) := by
  refine PCall_w [] 13 Tryz.func166 (by rfl) rfl rfl rfl rfl ?_
  by_cases h : p.e = 0
  · simp only [failB, if_pos h]
    repeat' first |refine s1 ?_|refine gS ?_|refine wT rfl ?_|refine wF rfl ?_|(refine wC rfl (fun h=>?_) (fun h=>?_)<;>(try contradiction))|((first|refine rd ?_|refine ry [] c0 fun nu _ _=>?_);simp -dsimp (disch:=omega) only[go_sem,h])|refine e0 (by decide) ?_|(refine And.intro ?_ ?_;omega)|refine And.intro (of_eq_true PutAt_put) ?_|refine gT ?_|refine gF ?_|(refine gI (fun h=>?_) (fun h=>?_)<;>(try contradiction)<;>(try refine rd ?_)<;>(try simp -dsimp (disch:=omega) only[go_sem,h,h]))|refine Exists.intro _ (Exists.intro _ (And.intro (And.intro rfl rfl) ?_)) |fail
  · simp only [failB, if_neg h]
    repeat' first |refine s1 ?_|refine gS ?_|refine wT rfl ?_|refine wF rfl ?_|(refine wC rfl (fun h=>?_) (fun h=>?_)<;>(try contradiction))|((first|refine rd ?_|refine ry [] c0 fun nu _ _=>?_);simp -dsimp (disch:=omega) only[go_sem,h])|refine e0 (by decide) ?_|(refine And.intro ?_ ?_;omega)|refine And.intro (of_eq_true PutAt_put) ?_|refine gT ?_|refine gF ?_|(refine gI (fun h=>?_) (fun h=>?_)<;>(try contradiction)<;>(try refine rd ?_)<;>(try simp -dsimp (disch:=omega) only[go_sem,h,h]))|refine Exists.intro _ (Exists.intro _ (And.intro (And.intro rfl rfl) ?_)) |fail
section
variable (s : ByteArray) (hs : s.size ≤ 1000)
include hs
theorem peek_spec (p : PS) (hp : p.at_ ≤ (B s).length) (o : Nat) (σ : Store) :
    PCall Tryz.prog 165 [.ptr o 0 0] (σ.put o (pO s p)) (fun r t => r = .int .u8 (chr (B s) (skipB (B s) p.at_)) ∧ t = σ.put o (pO s ⟨skipB (B s) p.at_, p.e⟩)) := by
  have hl := length_B s
  refine PCall_w [.tmp 2] 51 Tryz.func165 (by rfl) rfl rfl rfl rfl ?_
  repeat' first |refine s1 ?_|refine gS ?_|refine wT rfl ?_|refine wF rfl ?_|(refine wC rfl (fun h=>?_) (fun h=>?_)<;>(try contradiction))|((first|refine rd ?_|refine ry [] c0 fun nu _ _=>?_);simp -dsimp (disch:=omega) only[go_sem])|refine e0 (by decide) ?_|(refine And.intro ?_ ?_;omega)|refine And.intro (of_eq_true PutAt_put) ?_|refine gT ?_|refine gF ?_|(refine gI (fun h=>?_) (fun h=>?_)<;>(try contradiction)<;>(try refine rd ?_)<;>(try simp -dsimp (disch:=omega) only[go_sem,h]))|refine Exists.intro _ (Exists.intro _ (And.intro (And.intro rfl rfl) ?_)) |fail
  refine W_loop_st (fun i : Nat => [(0, .ptr o 0 0)]) (fun i => σ.put o (pO s ⟨i, p.e⟩)) (fun i => i ≤ (B s).length ∧ skipB (B s) p.at_ = skipB (B s) i) (fun i => (B s).length - i) p.at_ ⟨hp, rfl⟩ (Env.Sub_of_has (by simp [Env.Has, Env.get])) (Store.Sub.refl _) ?_
  rintro i ⟨hi, hor⟩
  by_cases hlt : i < (B s).length
  · by_cases hc : (((B s).getD i default).toNat : Int) = 32
    · have hst := skipB_step (B s) hlt (by omega)
      repeat' first |refine s1 ?_|refine gS ?_|refine wT rfl ?_|refine wF rfl ?_|(refine wC rfl (fun h=>?_) (fun h=>?_)<;>(try contradiction))|((first|refine rd ?_|refine ry (id:=1) [] (cq [3,7,14,18]) fun nu _ _=>?_|refine ry (id:=3) [] (cq [3,7]) fun nu _ _=>?_|refine ry (id:=5) [] (cq [3,7]) fun nu _ _=>?_|refine ry [] c0 fun nu _ _=>?_);simp -dsimp (disch:=omega) only[go_sem,hc])|refine e0 (by decide) ?_|(refine And.intro ?_ ?_;omega)|refine And.intro (of_eq_true PutAt_put) ?_|refine gT ?_|refine gF ?_|(refine gI (fun h=>?_) (fun h=>?_)<;>(try contradiction)<;>(try refine rd ?_)<;>(try simp -dsimp (disch:=omega) only[go_sem,h,hc]))|refine Exists.intro _ (Exists.intro _ (And.intro (And.intro rfl rfl) ?_)) |fail
      exact ⟨i + 1, by omega, ⟨by omega, by rw [hor, hst]⟩, Env.Sub_of_has (by simp [Env.Has, Env.get]), by simp [pO]; exact Store.Sub.refl _⟩
    · have hst := skipB_stop (B s) hlt (by omega)
      rw [hor, hst]
      repeat' first |refine s1 ?_|refine gS ?_|refine wT rfl ?_|refine wF rfl ?_|(refine wC rfl (fun h=>?_) (fun h=>?_)<;>(try contradiction))|((first|refine rd ?_|refine ry (id:=1) [] (cq [3,7,14,18]) fun nu _ _=>?_|refine ry (id:=3) [] (cq [3,7]) fun nu _ _=>?_|refine ry (id:=5) [] (cq [3,7]) fun nu _ _=>?_|refine ry [] c0 fun nu _ _=>?_);simp -dsimp (disch:=omega) only[go_sem,hc, chr, hlt])|refine e0 (by decide) ?_|(refine And.intro ?_ ?_;omega)|refine And.intro (of_eq_true PutAt_put) ?_|refine gT ?_|refine gF ?_|(refine gI (fun h=>?_) (fun h=>?_)<;>(try contradiction)<;>(try refine rd ?_)<;>(try simp -dsimp (disch:=omega) only[go_sem,h,hc, chr, hlt]))|refine Exists.intro _ (Exists.intro _ (And.intro (And.intro rfl rfl) ?_)) |fail
  · have hie : i = (B s).length := by omega
    have hst := skipB_end (B s) (i := i) (by omega)
    rw [hor, hst]
    repeat' first |refine s1 ?_|refine gS ?_|refine wT rfl ?_|refine wF rfl ?_|(refine wC rfl (fun h=>?_) (fun h=>?_)<;>(try contradiction))|((first|refine rd ?_|refine ry (id:=1) [] (cq [3,7,14,18]) fun nu _ _=>?_|refine ry (id:=3) [] (cq [3,7]) fun nu _ _=>?_|refine ry (id:=5) [] (cq [3,7]) fun nu _ _=>?_|refine ry [] c0 fun nu _ _=>?_);simp -dsimp (disch:=omega) only[go_sem,chr, hlt])|refine e0 (by decide) ?_|(refine And.intro ?_ ?_;omega)|refine And.intro (of_eq_true PutAt_put) ?_|refine gT ?_|refine gF ?_|(refine gI (fun h=>?_) (fun h=>?_)<;>(try contradiction)<;>(try refine rd ?_)<;>(try simp -dsimp (disch:=omega) only[go_sem,h,chr, hlt]))|refine Exists.intro _ (Exists.intro _ (And.intro (And.intro rfl rfl) ?_)) |fail
theorem take_spec (p : PS) (hp : p.at_ ≤ (B s).length) (c : Int) (o : Nat) (σ : Store) :
    PCall Tryz.prog 163 [.ptr o 0 0, .int .u8 c] (σ.put o (pO s p)) (fun r t => r = .bool (takeB (B s) c p).1 ∧ t = σ.put o (pO s (takeB (B s) c p).2)) := by
  have hl := length_B s
  obtain ⟨i, e⟩ := p
  simp only at hp
  have h2 := skipB_len (B s) hp
  have hpk := peek_spec s hs ⟨i, e⟩ hp o σ
  refine PCall_w [.tmp 4] 35 Tryz.func163 (by rfl) rfl rfl rfl rfl ?_
  by_cases h : e = 0
  · subst h
    obtain ⟨a, ha⟩ : ∃ a, skipB (B s) i = a := ⟨_, rfl⟩
    simp only [takeB, if_true]
    simp only at hpk
    rw [ha] at hpk h2 ⊢
    by_cases hc : chr (B s) a = c
    · by_cases hlt : a < (B s).length
      · rw [if_pos ⟨hc, hlt⟩]
        repeat' first |refine s1 ?_|refine gS ?_|refine wT rfl ?_|refine wF rfl ?_|(refine wC rfl (fun h=>?_) (fun h=>?_)<;>(try contradiction))|((first|refine rd ?_|refine ry (id:=1) [] (cw [3,15,19] [7] [] [] []) fun nu _ _=>?_|refine ry [] c0 fun nu _ _=>?_);simp -dsimp (disch:=omega) only[go_sem,hc])|refine e0 (by decide) ?_|(refine And.intro ?_ ?_;omega)|refine And.intro (of_eq_true PutAt_put) ?_|refine gT ?_|refine gF ?_|(refine gI (fun h=>?_) (fun h=>?_)<;>(try contradiction)<;>(try refine rd ?_)<;>(try simp -dsimp (disch:=omega) only[go_sem,h,hc]))|refine Exists.intro _ (Exists.intro _ (And.intro (And.intro rfl rfl) ?_)) |refine uw (hpk) ?_ |fail
        exact sub_eq (by simp)
      · rw [if_neg (fun k => hlt k.2)]
        repeat' first |refine s1 ?_|refine gS ?_|refine wT rfl ?_|refine wF rfl ?_|(refine wC rfl (fun h=>?_) (fun h=>?_)<;>(try contradiction))|((first|refine rd ?_|refine ry (id:=1) [] (cw [3,15,19] [7] [] [] []) fun nu _ _=>?_|refine ry [] c0 fun nu _ _=>?_);simp -dsimp (disch:=omega) only[go_sem,hc])|refine e0 (by decide) ?_|(refine And.intro ?_ ?_;omega)|refine And.intro (of_eq_true PutAt_put) ?_|refine gT ?_|refine gF ?_|(refine gI (fun h=>?_) (fun h=>?_)<;>(try contradiction)<;>(try refine rd ?_)<;>(try simp -dsimp (disch:=omega) only[go_sem,h,hc]))|refine Exists.intro _ (Exists.intro _ (And.intro (And.intro rfl rfl) ?_)) |refine uw (hpk) ?_ |fail
    · rw [if_neg (fun k => hc k.1)]
      repeat' first |refine s1 ?_|refine gS ?_|refine wT rfl ?_|refine wF rfl ?_|(refine wC rfl (fun h=>?_) (fun h=>?_)<;>(try contradiction))|((first|refine rd ?_|refine ry (id:=1) [] (cw [3,15,19] [7] [] [] []) fun nu _ _=>?_|refine ry [] c0 fun nu _ _=>?_);simp -dsimp (disch:=omega) only[go_sem,hc])|refine e0 (by decide) ?_|(refine And.intro ?_ ?_;omega)|refine And.intro (of_eq_true PutAt_put) ?_|refine gT ?_|refine gF ?_|(refine gI (fun h=>?_) (fun h=>?_)<;>(try contradiction)<;>(try refine rd ?_)<;>(try simp -dsimp (disch:=omega) only[go_sem,h,hc]))|refine Exists.intro _ (Exists.intro _ (And.intro (And.intro rfl rfl) ?_)) |refine uw (hpk) ?_ |fail
  · simp only [takeB, if_neg h]
    repeat' first |refine s1 ?_|refine gS ?_|refine wT rfl ?_|refine wF rfl ?_|(refine wC rfl (fun h=>?_) (fun h=>?_)<;>(try contradiction))|((first|refine rd ?_|refine ry (id:=1) [] (cw [3,15,19] [7] [] [] []) fun nu _ _=>?_|refine ry [] c0 fun nu _ _=>?_);simp -dsimp (disch:=omega) only[go_sem,h])|refine e0 (by decide) ?_|(refine And.intro ?_ ?_;omega)|refine And.intro (of_eq_true PutAt_put) ?_|refine gT ?_|refine gF ?_|(refine gI (fun h=>?_) (fun h=>?_)<;>(try contradiction)<;>(try refine rd ?_)<;>(try simp -dsimp (disch:=omega) only[go_sem,h,h]))|refine Exists.intro _ (Exists.intro _ (And.intro (And.intro rfl rfl) ?_)) |fail
end
theorem digit_spec (c : Int) : Pure Tryz.prog 205 [.int .u8 c] (.bool (digitZ c)) := by
  intro σ
  refine PCall_q [.tmp 2] 9 Tryz.func205 (by rfl) rfl rfl rfl rfl ?_
  repeat' first |refine s1 ?_|refine gS ?_|refine wT rfl ?_|refine wF rfl ?_|(refine wC rfl (fun h=>?_) (fun h=>?_)<;>(try contradiction))|((first|refine rd ?_|refine ry [] c0 fun nu _ _=>?_);simp -dsimp (disch:=omega) only[go_sem])|refine e0 (by decide) ?_|(refine And.intro ?_ ?_;omega)|refine And.intro (of_eq_true PutAt_put) ?_|refine gT ?_|refine gF ?_|(refine gI (fun h=>?_) (fun h=>?_)<;>(try contradiction)<;>(try refine rd ?_)<;>(try simp -dsimp (disch:=omega) only[go_sem,h]))|refine Exists.intro _ (Exists.intro _ (And.intro (And.intro rfl rfl) ?_)) |fail
  all_goals (simp only [digitZ]; congr 1; rw [Bool.eq_iff_iff]; simp; omega)
theorem wr8 {x : Int} (h1 : 0 ≤ x) (h2 : x ≤ 255) : IntKind.u8.wrap x = x := IntWalk.u8_in _ ⟨h1, h2⟩
attribute [go_sem] wr8
theorem put_self {σ : Store} {o : Nat} {x : Ob} (h : σ o = some x) : σ.put o x = σ := by
  funext p
  simp only [Store.put]
  split
  · rename_i e; rw [e, h]
  · rfl
section
variable (s : ByteArray) (hs : s.size ≤ 1000)
include hs
theorem number_spec (p : PS) (hp : p.at_ ≤ (B s).length) (o : Nat) (σ : Store) :
    PCall Tryz.prog 214 [.ptr o 0 0] (σ.put o (pO s p)) (fun r t => r = .int .i64 (numberB (B s) p).1 ∧ t = σ.put o (pO s (numberB (B s) p).2)) := by
  have hl := length_B s
  obtain ⟨i0, e⟩ := p
  simp only at hp
  have h2 := skipB_len (B s) hp
  have hpk := peek_spec s hs ⟨i0, e⟩ hp o σ
  obtain ⟨a, ha⟩ : ∃ a, skipB (B s) i0 = a := ⟨_, rfl⟩
  simp only at hpk
  rw [ha] at hpk h2
  have hdg := digit_spec (chr (B s) a)
  have hfl : ∀ (e' : Int) (q : PS), PCall Tryz.prog 166 [.ptr o 0 0, .int .i64 e'] (σ.put o (pO s q)) (fun r t => r = .tup [] ∧ t = σ.put o (pO s (failB e' q))) := fun e' q => fail_spec s q e' o σ
  simp only [numberB, ha]
  refine PCall_w [.tmp 2] 88 Tryz.func214 (by rfl) rfl rfl rfl rfl ?_
  rcases Bool.eq_false_or_eq_true (digitZ (chr (B s) a)) with hd | hd
  · rw [if_pos hd]
    obtain ⟨halt, hac⟩ := chr_digit (B s) hd
    obtain ⟨b, n, hbn⟩ : ∃ b n, numR ((B s).drop a) a 0 = (b, n) := ⟨_, _, rfl⟩
    simp only [hbn]
    repeat' first |refine s1 ?_|refine gS ?_|refine wT rfl ?_|refine wF rfl ?_|(refine wC rfl (fun h=>?_) (fun h=>?_)<;>(try contradiction))|((first|refine rd ?_|refine ry [] c0 fun nu _ _=>?_);simp -dsimp (disch:=omega) only[go_sem,hd])|refine e0 (by decide) ?_|(refine And.intro ?_ ?_;omega)|refine And.intro (of_eq_true PutAt_put) ?_|refine gT ?_|refine gF ?_|(refine gI (fun h=>?_) (fun h=>?_)<;>(try contradiction)<;>(try refine rd ?_)<;>(try simp -dsimp (disch:=omega) only[go_sem,h,hd]))|refine Exists.intro _ (Exists.intro _ (And.intro (And.intro rfl rfl) ?_)) |refine uw (hpk) ?_ |refine us (hdg) ?_ |fail
    refine W_loop_st (fun x : Nat × Int => [(0, .ptr o 0 0), (3, .int .i64 a), (4, .int .i64 x.2)]) (fun x => σ.put o (pO s ⟨x.1, e⟩)) (fun x => a ≤ x.1 ∧ x.1 ≤ (B s).length ∧ 0 ≤ x.2 ∧ x.2 ≤ 1000000 ∧ numR ((B s).drop x.1) x.1 x.2 = (b, n)) (fun x => (B s).length - x.1) (a, 0) ⟨Nat.le_refl _, h2, by simp, by simp, hbn⟩ (Env.Sub_of_has (by simp [Env.Has, Env.get, Env.putO])) (Store.Sub.refl _) ?_
    rintro ⟨i, m⟩ ⟨hai, hil, hm0, hm1, hr⟩
    simp only at hai hil hm0 hm1 hr
    by_cases hlt : i < (B s).length
    · have hg : (B s).getD i default = (B s)[i] := by simp [List.getD_eq_getElem?_getD, hlt]
      rw [List.drop_eq_getElem_cons hlt] at hr
      obtain ⟨c, hc⟩ : ∃ c, (B s)[i] = c := ⟨_, rfl⟩
      rw [hc] at hg hr
      have hc255 := c.toNat_lt
      rcases Bool.eq_false_or_eq_true (digitZ c.toNat) with hd2 | hd2
      · have hcb : 48 ≤ (c.toNat : Int) ∧ (c.toNat : Int) ≤ 57 := by simpa [digitZ] using hd2
        rw [numR, if_pos hd2] at hr
        by_cases hbig : 1000000 < m * 10 + ((c.toNat : Int) - 48)
        · rw [if_pos hbig] at hr
          repeat' first |refine s1 ?_|refine gS ?_|refine wT rfl ?_|refine wF rfl ?_|(refine wC rfl (fun h=>?_) (fun h=>?_)<;>(try contradiction))|((first|refine rd ?_|refine ry (id:=5) [] (cq [3,7,14,18]) fun nu _ _=>?_|refine ry (id:=6) [] (cq [5,9]) fun nu _ _=>?_|refine ry [] c0 fun nu _ _=>?_);simp -dsimp (disch:=omega) only[go_sem,hg, hd2, hbig])|refine e0 (by decide) ?_|(refine And.intro ?_ ?_;omega)|refine And.intro (of_eq_true PutAt_put) ?_|refine gT ?_|refine gF ?_|(refine gI (fun h=>?_) (fun h=>?_)<;>(try contradiction)<;>(try refine rd ?_)<;>(try simp -dsimp (disch:=omega) only[go_sem,h,hg, hd2, hbig]))|refine Exists.intro _ (Exists.intro _ (And.intro (And.intro rfl rfl) ?_)) |refine us (digit_spec _) ?_ |fail
          exact ⟨(i + 1, 1000000), by simp only; omega, ⟨by simp only; omega, by simp only; omega, by simp, by simp, hr⟩, Env.Sub_of_has (by simp [Env.Has, Env.get]), by simp [pO]; exact Store.Sub.refl _⟩
        · rw [if_neg hbig] at hr
          repeat' first |refine s1 ?_|refine gS ?_|refine wT rfl ?_|refine wF rfl ?_|(refine wC rfl (fun h=>?_) (fun h=>?_)<;>(try contradiction))|((first|refine rd ?_|refine ry (id:=5) [] (cq [3,7,14,18]) fun nu _ _=>?_|refine ry (id:=6) [] (cq [5,9]) fun nu _ _=>?_|refine ry [] c0 fun nu _ _=>?_);simp -dsimp (disch:=omega) only[go_sem,hg, hd2, hbig])|refine e0 (by decide) ?_|(refine And.intro ?_ ?_;omega)|refine And.intro (of_eq_true PutAt_put) ?_|refine gT ?_|refine gF ?_|(refine gI (fun h=>?_) (fun h=>?_)<;>(try contradiction)<;>(try refine rd ?_)<;>(try simp -dsimp (disch:=omega) only[go_sem,h,hg, hd2, hbig]))|refine Exists.intro _ (Exists.intro _ (And.intro (And.intro rfl rfl) ?_)) |refine us (digit_spec _) ?_ |fail
          exact ⟨(i + 1, m * 10 + ((c.toNat : Int) - 48)), by simp only; omega, ⟨by simp only; omega, by simp only; omega, by simp only; omega, by simp only; omega, hr⟩, Env.Sub_of_has (by simp [Env.Has, Env.get]), by simp [pO]; exact Store.Sub.refl _⟩
      · rw [numR, if_neg (by rw [hd2]; simp)] at hr
        injection hr with q1 q2
        subst q1; subst q2
        rw [hac]
        by_cases hz : ((((B s).getD a default).toNat : Int) = 48) ∧ a + 1 < i
        · rw [if_pos hz]
          have hz1 := hz.1; have hz2 := hz.2
          repeat' first |refine s1 ?_|refine gS ?_|refine wT rfl ?_|refine wF rfl ?_|(refine wC rfl (fun h=>?_) (fun h=>?_)<;>(try contradiction))|((first|refine rd ?_|refine ry (id:=5) [] (cq [3,7,14,18]) fun nu _ _=>?_|refine ry (id:=6) [] (cq [5,9]) fun nu _ _=>?_|refine ry [] c0 fun nu _ _=>?_);simp -dsimp (disch:=omega) only[go_sem,hac, hg, hd2, hz1, hz2])|refine e0 (by decide) ?_|(refine And.intro ?_ ?_;omega)|refine And.intro (of_eq_true PutAt_put) ?_|refine gT ?_|refine gF ?_|(refine gI (fun h=>?_) (fun h=>?_)<;>(try contradiction)<;>(try refine rd ?_)<;>(try simp -dsimp (disch:=omega) only[go_sem,h,hac, hg, hd2, hz1, hz2]))|refine Exists.intro _ (Exists.intro _ (And.intro (And.intro rfl rfl) ?_)) |refine us (digit_spec _) ?_ |refine uw (hfl 4 ⟨i, e⟩) ?_ |fail
        · rw [if_neg hz]
          by_cases hn : m < 1 ∨ 65535 < m
          · rw [if_pos hn]
            by_cases hz1 : ((((B s).getD a default).toNat : Int) = 48) <;> by_cases hn1 : m < 1
            · (try have hz2 : ¬ (a + 1 < i) := fun k => hz ⟨hz1, k⟩)
              repeat' first |refine s1 ?_|refine gS ?_|refine wT rfl ?_|refine wF rfl ?_|(refine wC rfl (fun h=>?_) (fun h=>?_)<;>(try contradiction))|((first|refine rd ?_|refine ry (id:=5) [] (cq [3,7,14,18]) fun nu _ _=>?_|refine ry (id:=6) [] (cq [5,9]) fun nu _ _=>?_|refine ry [] c0 fun nu _ _=>?_);simp -dsimp (disch:=omega) only[go_sem,hac, hg, hd2, hz1, hn1])|refine e0 (by decide) ?_|(refine And.intro ?_ ?_;omega)|refine And.intro (of_eq_true PutAt_put) ?_|refine gT ?_|refine gF ?_|(refine gI (fun h=>?_) (fun h=>?_)<;>(try contradiction)<;>(try refine rd ?_)<;>(try simp -dsimp (disch:=omega) only[go_sem,h,hac, hg, hd2, hz1, hn1]))|refine Exists.intro _ (Exists.intro _ (And.intro (And.intro rfl rfl) ?_)) |refine us (digit_spec _) ?_ |refine uw (hfl 7 ⟨i, e⟩) ?_ |fail
            · (try have hz2 : ¬ (a + 1 < i) := fun k => hz ⟨hz1, k⟩)
              repeat' first |refine s1 ?_|refine gS ?_|refine wT rfl ?_|refine wF rfl ?_|(refine wC rfl (fun h=>?_) (fun h=>?_)<;>(try contradiction))|((first|refine rd ?_|refine ry (id:=5) [] (cq [3,7,14,18]) fun nu _ _=>?_|refine ry (id:=6) [] (cq [5,9]) fun nu _ _=>?_|refine ry [] c0 fun nu _ _=>?_);simp -dsimp (disch:=omega) only[go_sem,hac, hg, hd2, hz1, hn1])|refine e0 (by decide) ?_|(refine And.intro ?_ ?_;omega)|refine And.intro (of_eq_true PutAt_put) ?_|refine gT ?_|refine gF ?_|(refine gI (fun h=>?_) (fun h=>?_)<;>(try contradiction)<;>(try refine rd ?_)<;>(try simp -dsimp (disch:=omega) only[go_sem,h,hac, hg, hd2, hz1, hn1]))|refine Exists.intro _ (Exists.intro _ (And.intro (And.intro rfl rfl) ?_)) |refine us (digit_spec _) ?_ |refine uw (hfl 7 ⟨i, e⟩) ?_ |fail
            · (try have hz2 : ¬ (a + 1 < i) := fun k => hz ⟨hz1, k⟩)
              repeat' first |refine s1 ?_|refine gS ?_|refine wT rfl ?_|refine wF rfl ?_|(refine wC rfl (fun h=>?_) (fun h=>?_)<;>(try contradiction))|((first|refine rd ?_|refine ry (id:=5) [] (cq [3,7,14,18]) fun nu _ _=>?_|refine ry (id:=6) [] (cq [5,9]) fun nu _ _=>?_|refine ry [] c0 fun nu _ _=>?_);simp -dsimp (disch:=omega) only[go_sem,hac, hg, hd2, hz1, hn1])|refine e0 (by decide) ?_|(refine And.intro ?_ ?_;omega)|refine And.intro (of_eq_true PutAt_put) ?_|refine gT ?_|refine gF ?_|(refine gI (fun h=>?_) (fun h=>?_)<;>(try contradiction)<;>(try refine rd ?_)<;>(try simp -dsimp (disch:=omega) only[go_sem,h,hac, hg, hd2, hz1, hn1]))|refine Exists.intro _ (Exists.intro _ (And.intro (And.intro rfl rfl) ?_)) |refine us (digit_spec _) ?_ |refine uw (hfl 7 ⟨i, e⟩) ?_ |fail
            · (try have hz2 : ¬ (a + 1 < i) := fun k => hz ⟨hz1, k⟩)
              repeat' first |refine s1 ?_|refine gS ?_|refine wT rfl ?_|refine wF rfl ?_|(refine wC rfl (fun h=>?_) (fun h=>?_)<;>(try contradiction))|((first|refine rd ?_|refine ry (id:=5) [] (cq [3,7,14,18]) fun nu _ _=>?_|refine ry (id:=6) [] (cq [5,9]) fun nu _ _=>?_|refine ry [] c0 fun nu _ _=>?_);simp -dsimp (disch:=omega) only[go_sem,hac, hg, hd2, hz1, hn1])|refine e0 (by decide) ?_|(refine And.intro ?_ ?_;omega)|refine And.intro (of_eq_true PutAt_put) ?_|refine gT ?_|refine gF ?_|(refine gI (fun h=>?_) (fun h=>?_)<;>(try contradiction)<;>(try refine rd ?_)<;>(try simp -dsimp (disch:=omega) only[go_sem,h,hac, hg, hd2, hz1, hn1]))|refine Exists.intro _ (Exists.intro _ (And.intro (And.intro rfl rfl) ?_)) |refine us (digit_spec _) ?_ |refine uw (hfl 7 ⟨i, e⟩) ?_ |fail
          · rw [if_neg hn]
            by_cases hz1 : ((((B s).getD a default).toNat : Int) = 48)
            · (try have hz2 : ¬ (a + 1 < i) := fun k => hz ⟨hz1, k⟩)
              repeat' first |refine s1 ?_|refine gS ?_|refine wT rfl ?_|refine wF rfl ?_|(refine wC rfl (fun h=>?_) (fun h=>?_)<;>(try contradiction))|((first|refine rd ?_|refine ry (id:=5) [] (cq [3,7,14,18]) fun nu _ _=>?_|refine ry (id:=6) [] (cq [5,9]) fun nu _ _=>?_|refine ry [] c0 fun nu _ _=>?_);simp -dsimp (disch:=omega) only[go_sem,hac, hg, hd2, hz1])|refine e0 (by decide) ?_|(refine And.intro ?_ ?_;omega)|refine And.intro (of_eq_true PutAt_put) ?_|refine gT ?_|refine gF ?_|(refine gI (fun h=>?_) (fun h=>?_)<;>(try contradiction)<;>(try refine rd ?_)<;>(try simp -dsimp (disch:=omega) only[go_sem,h,hac, hg, hd2, hz1]))|refine Exists.intro _ (Exists.intro _ (And.intro (And.intro rfl rfl) ?_)) |refine us (digit_spec _) ?_ |refine uw (hfl 7 ⟨i, e⟩) ?_ |fail
            · (try have hz2 : ¬ (a + 1 < i) := fun k => hz ⟨hz1, k⟩)
              repeat' first |refine s1 ?_|refine gS ?_|refine wT rfl ?_|refine wF rfl ?_|(refine wC rfl (fun h=>?_) (fun h=>?_)<;>(try contradiction))|((first|refine rd ?_|refine ry (id:=5) [] (cq [3,7,14,18]) fun nu _ _=>?_|refine ry (id:=6) [] (cq [5,9]) fun nu _ _=>?_|refine ry [] c0 fun nu _ _=>?_);simp -dsimp (disch:=omega) only[go_sem,hac, hg, hd2, hz1])|refine e0 (by decide) ?_|(refine And.intro ?_ ?_;omega)|refine And.intro (of_eq_true PutAt_put) ?_|refine gT ?_|refine gF ?_|(refine gI (fun h=>?_) (fun h=>?_)<;>(try contradiction)<;>(try refine rd ?_)<;>(try simp -dsimp (disch:=omega) only[go_sem,h,hac, hg, hd2, hz1]))|refine Exists.intro _ (Exists.intro _ (And.intro (And.intro rfl rfl) ?_)) |refine us (digit_spec _) ?_ |refine uw (hfl 7 ⟨i, e⟩) ?_ |fail
    · have hie : i = (B s).length := by omega
      rw [List.drop_eq_nil_of_le (by omega), numR] at hr
      injection hr with q1 q2
      subst q1; subst q2
      rw [hac]
      by_cases hz : ((((B s).getD a default).toNat : Int) = 48) ∧ a + 1 < i
      · rw [if_pos hz]
        have hz1 := hz.1; have hz2 := hz.2
        repeat' first |refine s1 ?_|refine gS ?_|refine wT rfl ?_|refine wF rfl ?_|(refine wC rfl (fun h=>?_) (fun h=>?_)<;>(try contradiction))|((first|refine rd ?_|refine ry (id:=5) [] (cq [3,7,14,18]) fun nu _ _=>?_|refine ry (id:=6) [] (cq [5,9]) fun nu _ _=>?_|refine ry [] c0 fun nu _ _=>?_);simp -dsimp (disch:=omega) only[go_sem,hac, hz1, hz2])|refine e0 (by decide) ?_|(refine And.intro ?_ ?_;omega)|refine And.intro (of_eq_true PutAt_put) ?_|refine gT ?_|refine gF ?_|(refine gI (fun h=>?_) (fun h=>?_)<;>(try contradiction)<;>(try refine rd ?_)<;>(try simp -dsimp (disch:=omega) only[go_sem,h,hac, hz1, hz2]))|refine Exists.intro _ (Exists.intro _ (And.intro (And.intro rfl rfl) ?_)) |refine us (digit_spec _) ?_ |refine uw (hfl 4 ⟨i, e⟩) ?_ |fail
      · rw [if_neg hz]
        by_cases hn : m < 1 ∨ 65535 < m
        · rw [if_pos hn]
          by_cases hz1 : ((((B s).getD a default).toNat : Int) = 48) <;> by_cases hn1 : m < 1
          · (try have hz2 : ¬ (a + 1 < i) := fun k => hz ⟨hz1, k⟩)
            repeat' first |refine s1 ?_|refine gS ?_|refine wT rfl ?_|refine wF rfl ?_|(refine wC rfl (fun h=>?_) (fun h=>?_)<;>(try contradiction))|((first|refine rd ?_|refine ry (id:=5) [] (cq [3,7,14,18]) fun nu _ _=>?_|refine ry (id:=6) [] (cq [5,9]) fun nu _ _=>?_|refine ry [] c0 fun nu _ _=>?_);simp -dsimp (disch:=omega) only[go_sem,hac, hz1, hn1])|refine e0 (by decide) ?_|(refine And.intro ?_ ?_;omega)|refine And.intro (of_eq_true PutAt_put) ?_|refine gT ?_|refine gF ?_|(refine gI (fun h=>?_) (fun h=>?_)<;>(try contradiction)<;>(try refine rd ?_)<;>(try simp -dsimp (disch:=omega) only[go_sem,h,hac, hz1, hn1]))|refine Exists.intro _ (Exists.intro _ (And.intro (And.intro rfl rfl) ?_)) |refine us (digit_spec _) ?_ |refine uw (hfl 7 ⟨i, e⟩) ?_ |fail
          · (try have hz2 : ¬ (a + 1 < i) := fun k => hz ⟨hz1, k⟩)
            repeat' first |refine s1 ?_|refine gS ?_|refine wT rfl ?_|refine wF rfl ?_|(refine wC rfl (fun h=>?_) (fun h=>?_)<;>(try contradiction))|((first|refine rd ?_|refine ry (id:=5) [] (cq [3,7,14,18]) fun nu _ _=>?_|refine ry (id:=6) [] (cq [5,9]) fun nu _ _=>?_|refine ry [] c0 fun nu _ _=>?_);simp -dsimp (disch:=omega) only[go_sem,hac, hz1, hn1])|refine e0 (by decide) ?_|(refine And.intro ?_ ?_;omega)|refine And.intro (of_eq_true PutAt_put) ?_|refine gT ?_|refine gF ?_|(refine gI (fun h=>?_) (fun h=>?_)<;>(try contradiction)<;>(try refine rd ?_)<;>(try simp -dsimp (disch:=omega) only[go_sem,h,hac, hz1, hn1]))|refine Exists.intro _ (Exists.intro _ (And.intro (And.intro rfl rfl) ?_)) |refine us (digit_spec _) ?_ |refine uw (hfl 7 ⟨i, e⟩) ?_ |fail
          · (try have hz2 : ¬ (a + 1 < i) := fun k => hz ⟨hz1, k⟩)
            repeat' first |refine s1 ?_|refine gS ?_|refine wT rfl ?_|refine wF rfl ?_|(refine wC rfl (fun h=>?_) (fun h=>?_)<;>(try contradiction))|((first|refine rd ?_|refine ry (id:=5) [] (cq [3,7,14,18]) fun nu _ _=>?_|refine ry (id:=6) [] (cq [5,9]) fun nu _ _=>?_|refine ry [] c0 fun nu _ _=>?_);simp -dsimp (disch:=omega) only[go_sem,hac, hz1, hn1])|refine e0 (by decide) ?_|(refine And.intro ?_ ?_;omega)|refine And.intro (of_eq_true PutAt_put) ?_|refine gT ?_|refine gF ?_|(refine gI (fun h=>?_) (fun h=>?_)<;>(try contradiction)<;>(try refine rd ?_)<;>(try simp -dsimp (disch:=omega) only[go_sem,h,hac, hz1, hn1]))|refine Exists.intro _ (Exists.intro _ (And.intro (And.intro rfl rfl) ?_)) |refine us (digit_spec _) ?_ |refine uw (hfl 7 ⟨i, e⟩) ?_ |fail
          · (try have hz2 : ¬ (a + 1 < i) := fun k => hz ⟨hz1, k⟩)
            repeat' first |refine s1 ?_|refine gS ?_|refine wT rfl ?_|refine wF rfl ?_|(refine wC rfl (fun h=>?_) (fun h=>?_)<;>(try contradiction))|((first|refine rd ?_|refine ry (id:=5) [] (cq [3,7,14,18]) fun nu _ _=>?_|refine ry (id:=6) [] (cq [5,9]) fun nu _ _=>?_|refine ry [] c0 fun nu _ _=>?_);simp -dsimp (disch:=omega) only[go_sem,hac, hz1, hn1])|refine e0 (by decide) ?_|(refine And.intro ?_ ?_;omega)|refine And.intro (of_eq_true PutAt_put) ?_|refine gT ?_|refine gF ?_|(refine gI (fun h=>?_) (fun h=>?_)<;>(try contradiction)<;>(try refine rd ?_)<;>(try simp -dsimp (disch:=omega) only[go_sem,h,hac, hz1, hn1]))|refine Exists.intro _ (Exists.intro _ (And.intro (And.intro rfl rfl) ?_)) |refine us (digit_spec _) ?_ |refine uw (hfl 7 ⟨i, e⟩) ?_ |fail
        · rw [if_neg hn]
          by_cases hz1 : ((((B s).getD a default).toNat : Int) = 48)
          · (try have hz2 : ¬ (a + 1 < i) := fun k => hz ⟨hz1, k⟩)
            repeat' first |refine s1 ?_|refine gS ?_|refine wT rfl ?_|refine wF rfl ?_|(refine wC rfl (fun h=>?_) (fun h=>?_)<;>(try contradiction))|((first|refine rd ?_|refine ry (id:=5) [] (cq [3,7,14,18]) fun nu _ _=>?_|refine ry (id:=6) [] (cq [5,9]) fun nu _ _=>?_|refine ry [] c0 fun nu _ _=>?_);simp -dsimp (disch:=omega) only[go_sem,hac, hz1])|refine e0 (by decide) ?_|(refine And.intro ?_ ?_;omega)|refine And.intro (of_eq_true PutAt_put) ?_|refine gT ?_|refine gF ?_|(refine gI (fun h=>?_) (fun h=>?_)<;>(try contradiction)<;>(try refine rd ?_)<;>(try simp -dsimp (disch:=omega) only[go_sem,h,hac, hz1]))|refine Exists.intro _ (Exists.intro _ (And.intro (And.intro rfl rfl) ?_)) |refine us (digit_spec _) ?_ |refine uw (hfl 7 ⟨i, e⟩) ?_ |fail
          · (try have hz2 : ¬ (a + 1 < i) := fun k => hz ⟨hz1, k⟩)
            repeat' first |refine s1 ?_|refine gS ?_|refine wT rfl ?_|refine wF rfl ?_|(refine wC rfl (fun h=>?_) (fun h=>?_)<;>(try contradiction))|((first|refine rd ?_|refine ry (id:=5) [] (cq [3,7,14,18]) fun nu _ _=>?_|refine ry (id:=6) [] (cq [5,9]) fun nu _ _=>?_|refine ry [] c0 fun nu _ _=>?_);simp -dsimp (disch:=omega) only[go_sem,hac, hz1])|refine e0 (by decide) ?_|(refine And.intro ?_ ?_;omega)|refine And.intro (of_eq_true PutAt_put) ?_|refine gT ?_|refine gF ?_|(refine gI (fun h=>?_) (fun h=>?_)<;>(try contradiction)<;>(try refine rd ?_)<;>(try simp -dsimp (disch:=omega) only[go_sem,h,hac, hz1]))|refine Exists.intro _ (Exists.intro _ (And.intro (And.intro rfl rfl) ?_)) |refine us (digit_spec _) ?_ |refine uw (hfl 7 ⟨i, e⟩) ?_ |fail
  · rw [if_neg (by rw [hd]; simp)]
    repeat' first |refine s1 ?_|refine gS ?_|refine wT rfl ?_|refine wF rfl ?_|(refine wC rfl (fun h=>?_) (fun h=>?_)<;>(try contradiction))|((first|refine rd ?_|refine ry [] c0 fun nu _ _=>?_);simp -dsimp (disch:=omega) only[go_sem,hd])|refine e0 (by decide) ?_|(refine And.intro ?_ ?_;omega)|refine And.intro (of_eq_true PutAt_put) ?_|refine gT ?_|refine gF ?_|(refine gI (fun h=>?_) (fun h=>?_)<;>(try contradiction)<;>(try refine rd ?_)<;>(try simp -dsimp (disch:=omega) only[go_sem,h,hd]))|refine Exists.intro _ (Exists.intro _ (And.intro (And.intro rfl rfl) ?_)) |refine uw (hpk) ?_ |refine us (hdg) ?_ |refine uw (hfl 4 ⟨a, e⟩) ?_ |fail
end
end Go.Proofs.YtaealcimocpnnaaGreat
namespace Go.Proofs.YtaealcimocpnnaaGreat
open Go.Kern
set_option maxRecDepth 100000
set_option maxHeartbeats 4000000
attribute [local irreducible] PCall W
attribute [local go_sem] pO
theorem Sub_oth {σ : Store} {o c : Nat} {x z : Ob} (hc : σ c = none) : Store.Sub (σ.put o x) ((σ.put c z).put o x) := fun p y hy => by
  simp only [Store.put] at hy ⊢
  split
  · rename_i e; rw [if_pos e] at hy; exact hy
  · rename_i e; rw [if_neg e] at hy
    split
    · rename_i e2; rw [e2, hc] at hy; cases hy
    · exact hy
section
variable (s : ByteArray) (hs : s.size ≤ 1000)
include hs
def partZ (l : List UInt8) (p : PS) : Int :=
  if (takeB l 45 (numberB l p).2).1 = true then (numberB l (takeB l 45 (numberB l p).2).2).1 else (numberB l p).1
theorem part_spec (p : PS) (hp : p.at_ ≤ (B s).length) (o : Nat) (σ : Store) :
    PCall Tryz.prog 213 [.ptr o 0 0] (σ.put o (pO s p)) (fun r t => r = .agg [.int .i64 (numberB (B s) p).1, .int .i64 (partZ (B s) p)] ∧ t = σ.put o (pO s (partB (B s) p))) := by
  have hl := length_B s
  have h1 := number_spec s hs p hp o
  obtain ⟨a, q1, hq1⟩ : ∃ a q1, numberB (B s) p = (a, q1) := ⟨_, _, rfl⟩
  have hn1 := (number_mono (B s)).len p hp
  have h2 := take_spec s hs q1 (by rw [hq1] at hn1; exact hn1) 45 o
  obtain ⟨b1, q2, hq2⟩ : ∃ b1 q2, takeB (B s) 45 q1 = (b1, q2) := ⟨_, _, rfl⟩
  have hn2 := (take_mono (B s) 45).len q1 (by rw [hq1] at hn1; exact hn1)
  have h3 := number_spec s hs q2 (by rw [hq2] at hn2; exact hn2) o
  obtain ⟨b, q3, hq3⟩ : ∃ b q3, numberB (B s) q2 = (b, q3) := ⟨_, _, rfl⟩
  have h4 : ∀ σ : Store, PCall Tryz.prog 166 [.ptr o 0 0, .int .i64 7] (σ.put o (pO s q3)) (fun r t => r = .tup [] ∧ t = σ.put o (pO s (failB 7 q3))) := fun σ => fail_spec s q3 7 o σ
  simp only [hq1, hq2, hq3, partZ, partB] at h1 h2 h3 h4 ⊢
  cases b1 with
  | false =>
    simp only [Bool.false_eq_true, if_false]
    refine PCall_w [.cell 2 265] 30 Tryz.func213 (by rfl) rfl rfl rfl rfl ?_
    repeat' first |((fail_if_success (first|show W _ _ (Code.seq (Code.region 1 _ _) _) _ _ _|show W _ _ (Code.seq (Code.seq (Code.region 1 _ _) _) _) _ _ _));refine s1 ?_)|refine gS ?_|refine wT rfl ?_|refine wF rfl ?_|(refine wC rfl (fun h=>?_) (fun h=>?_)<;>(try contradiction))|((fail_if_success (first|show W _ _ (Code.region 1 _ _) _ _ _));(first|refine rd ?_|refine ry [] c0 fun nu _ _=>?_);simp -dsimp (disch:=omega) only[go_sem])|refine e0 (by decide) ?_|(refine And.intro ?_ ?_;omega)|refine And.intro (of_eq_true PutAt_put) ?_|refine gT ?_|refine gF ?_|(refine gI (fun h=>?_) (fun h=>?_)<;>(try contradiction)<;>(try refine rd ?_)<;>(try simp -dsimp (disch:=omega) only[go_sem,h]))|refine Exists.intro _ (Exists.intro _ (And.intro (And.intro rfl rfl) ?_)) |fail
    intro c hc
    have hco := alloc_ne hc
    have sw := put_swap hco
    have ot := put_oth hco
    rw [ot] at hc
    simp only [sw]
    repeat' first |refine s1 ?_|refine gS ?_|refine wT rfl ?_|refine wF rfl ?_|(refine wC rfl (fun h=>?_) (fun h=>?_)<;>(try contradiction))|((first|refine rd ?_|refine ry [] c0 fun nu _ _=>?_);simp -dsimp (disch:=omega) only[go_sem,sw, ot])|refine e0 (by decide) ?_|(refine And.intro ?_ ?_;omega)|refine And.intro (of_eq_true PutAt_put) ?_|refine gT ?_|refine gF ?_|(refine gI (fun h=>?_) (fun h=>?_)<;>(try contradiction)<;>(try refine rd ?_)<;>(try simp -dsimp (disch:=omega) only[go_sem,h,sw, ot]))|refine Exists.intro _ (Exists.intro _ (And.intro (And.intro rfl rfl) ?_)) |refine uw (h1 _) ?_ |refine uw (h2 _) ?_ |fail
    exact Sub_oth hc
  | true =>
    by_cases hx : q3.e = 0 ∧ b < a
    · simp only [if_true, if_pos hx]
      obtain ⟨a3, e3⟩ := q3
      simp only at hx
      obtain ⟨rfl, hx2⟩ := hx
      refine PCall_w [.cell 2 265] 30 Tryz.func213 (by rfl) rfl rfl rfl rfl ?_
      repeat' first |((fail_if_success (first|show W _ _ (Code.seq (Code.region 1 _ _) _) _ _ _|show W _ _ (Code.seq (Code.seq (Code.region 1 _ _) _) _) _ _ _));refine s1 ?_)|refine gS ?_|refine wT rfl ?_|refine wF rfl ?_|(refine wC rfl (fun h=>?_) (fun h=>?_)<;>(try contradiction))|((fail_if_success (first|show W _ _ (Code.region 1 _ _) _ _ _));(first|refine rd ?_|refine ry [] c0 fun nu _ _=>?_);simp -dsimp (disch:=omega) only[go_sem])|refine e0 (by decide) ?_|(refine And.intro ?_ ?_;omega)|refine And.intro (of_eq_true PutAt_put) ?_|refine gT ?_|refine gF ?_|(refine gI (fun h=>?_) (fun h=>?_)<;>(try contradiction)<;>(try refine rd ?_)<;>(try simp -dsimp (disch:=omega) only[go_sem,h]))|refine Exists.intro _ (Exists.intro _ (And.intro (And.intro rfl rfl) ?_)) |fail
      intro c hc
      have hco := alloc_ne hc
      have sw := put_swap hco
      have ot := put_oth hco
      rw [ot] at hc
      simp only [sw]
      repeat' first |refine s1 ?_|refine gS ?_|refine wT rfl ?_|refine wF rfl ?_|(refine wC rfl (fun h=>?_) (fun h=>?_)<;>(try contradiction))|((first|refine rd ?_|refine ry [] c0 fun nu _ _=>?_);simp -dsimp (disch:=omega) only[go_sem,sw, ot, hx2])|refine e0 (by decide) ?_|(refine And.intro ?_ ?_;omega)|refine And.intro (of_eq_true PutAt_put) ?_|refine gT ?_|refine gF ?_|(refine gI (fun h=>?_) (fun h=>?_)<;>(try contradiction)<;>(try refine rd ?_)<;>(try simp -dsimp (disch:=omega) only[go_sem,h,sw, ot, hx2]))|refine Exists.intro _ (Exists.intro _ (And.intro (And.intro rfl rfl) ?_)) |refine uw (h1 _) ?_ |refine uw (h2 _) ?_ |refine uw (h3 _) ?_ |refine uw (h4 _) ?_ |fail
      exact Sub_oth hc
    · simp only [if_true, if_neg hx]
      refine PCall_w [.cell 2 265] 30 Tryz.func213 (by rfl) rfl rfl rfl rfl ?_
      repeat' first |((fail_if_success (first|show W _ _ (Code.seq (Code.region 1 _ _) _) _ _ _|show W _ _ (Code.seq (Code.seq (Code.region 1 _ _) _) _) _ _ _));refine s1 ?_)|refine gS ?_|refine wT rfl ?_|refine wF rfl ?_|(refine wC rfl (fun h=>?_) (fun h=>?_)<;>(try contradiction))|((fail_if_success (first|show W _ _ (Code.region 1 _ _) _ _ _));(first|refine rd ?_|refine ry [] c0 fun nu _ _=>?_);simp -dsimp (disch:=omega) only[go_sem])|refine e0 (by decide) ?_|(refine And.intro ?_ ?_;omega)|refine And.intro (of_eq_true PutAt_put) ?_|refine gT ?_|refine gF ?_|(refine gI (fun h=>?_) (fun h=>?_)<;>(try contradiction)<;>(try refine rd ?_)<;>(try simp -dsimp (disch:=omega) only[go_sem,h]))|refine Exists.intro _ (Exists.intro _ (And.intro (And.intro rfl rfl) ?_)) |fail
      intro c hc
      have hco := alloc_ne hc
      have sw := put_swap hco
      have ot := put_oth hco
      rw [ot] at hc
      simp only [sw]
      by_cases hx1 : q3.e = 0
      · have hx2 : ¬ b < a := fun k => hx ⟨hx1, k⟩
        repeat' first |refine s1 ?_|refine gS ?_|refine wT rfl ?_|refine wF rfl ?_|(refine wC rfl (fun h=>?_) (fun h=>?_)<;>(try contradiction))|((first|refine rd ?_|refine ry [] c0 fun nu _ _=>?_);simp -dsimp (disch:=omega) only[go_sem,sw, ot, hx1, hx2])|refine e0 (by decide) ?_|(refine And.intro ?_ ?_;omega)|refine And.intro (of_eq_true PutAt_put) ?_|refine gT ?_|refine gF ?_|(refine gI (fun h=>?_) (fun h=>?_)<;>(try contradiction)<;>(try refine rd ?_)<;>(try simp -dsimp (disch:=omega) only[go_sem,h,sw, ot, hx1, hx2]))|refine Exists.intro _ (Exists.intro _ (And.intro (And.intro rfl rfl) ?_)) |refine uw (h1 _) ?_ |refine uw (h2 _) ?_ |refine uw (h3 _) ?_ |refine uw (h4 _) ?_ |fail
        exact Sub_oth hc
      · skip
        repeat' first |refine s1 ?_|refine gS ?_|refine wT rfl ?_|refine wF rfl ?_|(refine wC rfl (fun h=>?_) (fun h=>?_)<;>(try contradiction))|((first|refine rd ?_|refine ry [] c0 fun nu _ _=>?_);simp -dsimp (disch:=omega) only[go_sem,sw, ot, hx1])|refine e0 (by decide) ?_|(refine And.intro ?_ ?_;omega)|refine And.intro (of_eq_true PutAt_put) ?_|refine gT ?_|refine gF ?_|(refine gI (fun h=>?_) (fun h=>?_)<;>(try contradiction)<;>(try refine rd ?_)<;>(try simp -dsimp (disch:=omega) only[go_sem,h,sw, ot, hx1]))|refine Exists.intro _ (Exists.intro _ (And.intro (And.intro rfl rfl) ?_)) |refine uw (h1 _) ?_ |refine uw (h2 _) ?_ |refine uw (h3 _) ?_ |refine uw (h4 _) ?_ |fail
        exact Sub_oth hc
end
end Go.Proofs.YtaealcimocpnnaaGreat
namespace Go.Proofs.YtaealcimocpnnaaGreat
open Go.Kern
def isP (r : AV) : Prop := (∃ q i off, r = .ptr q i off) ∨ ∃ x off, r = .ip x off
theorem isP_ptr {q i off : Nat} : isP (.ptr q i off) = True := eq_true (.inl ⟨q, i, off, rfl⟩)
theorem isP_ip {x : AV} {off : Nat} : isP (.ip x off) = True := eq_true (.inr ⟨x, off, rfl⟩)
attribute [go_sem] isP_ptr isP_ip
theorem PCall_isP {P : Program} {f : FuncId} {args : List AV} {σ τ : Store} (h : PCall P f args σ (fun r t => isP r ∧ t = τ)) : PCall P f args σ (fun r t => r = gpt ∧ t = τ) := by
  refine ⟨h.1, ?_⟩
  refine fun g w vs hl hr hc => (h.2 g w vs hl hr hc).mono ?_
  rintro e w' ⟨v, he, g', r, σ', h1, h2, h3, h4, h5⟩
  refine ⟨v, he, g', gpt, σ', h1, h2, ?_, rfl, h5⟩
  rcases h4 with ⟨q, i, off, rfl⟩ | ⟨x, off, rfl⟩
  · exact h3.gpt
  · cases h3 with
    | ip hs ho hi h => exact .ip (base := _) (vs := fun _ => undef) hs rfl (fun i hi => by simp [AV.cells] at hi) (fun i c hc => by simp [AV.cells] at hc)
set_option maxRecDepth 100000
set_option maxHeartbeats 4000000
attribute [local irreducible] PCall W
attribute [local go_sem] pO
theorem ps_under {c q o : Nat} (h1 : c ≠ q) (h2 : c ≠ o) (s : Store) (N P x : Ob) : PutSome ((s.put q N).put o P) (((s.put c x).put q N).put o P) = True := by
  rw [← put_swap h1, ← put_swap h2]; exact PutSome_self
theorem ps_in {q o : Nat} (h : q ≠ o) (s : Store) (N N' P : Ob) : PutSome ((s.put q N).put o P) ((s.put q N').put o P) = True := by
  have := @PutSome_self q ((s.put q N).put o P) N'
  rw [put_swap h, put_put] at this
  exact this
theorem keep_new {σ τ : Store} {c : Nat} {x : Ob} (h : ∀ c y, σ c = some y → τ c = some y) (hc : σ c = none) : ∀ d y, σ d = some y → (τ.put c x) d = some y := fun d y hd => by
  simp only [Store.put]
  split
  · rename_i e; rw [e, hc] at hd; cases hd
  · exact h d y hd
theorem none_of {σ τ : Store} {c : Nat} (h : ∀ c y, σ c = some y → τ c = some y) (hc : τ c = none) : σ c = none := by
  cases e : σ c with
  | none => rfl
  | some y => rw [h c y e] at hc; cases hc
structure Lp where
  fuel : Nat
  p : PS
  k : SK
  rows : List AV
  τ : Store
def nodeO (kind : Int) (set : Bool) (k : SK) (rows : List AV) (k2 : SK) (kids : List AV) : Ob := .arr 240 [.agg [.int .i64 kind, .bool false, .bool set, .sl k rows, .sl k2 kids]]
def KindOk (σ τ : Store) (q o e sz : Nat) (k : SK) (rows : List AV) : Prop := k = .full ∨ (k = .nil ∧ rows = []) ∨ ∃ t, k = .tip t ∧ τ t = some (.tip rows.length e sz) ∧ t ≠ q ∧ t ≠ o ∧ σ t = none
section
variable (s : ByteArray) (hs : s.size ≤ 1000)
include hs
def ChS (n : Nat) : Prop := ∀ (p : PS), p.at_ ≤ (B s).length → ∀ (o : Nat) (σ : Store), PCall Tryz.prog 164 [.ptr o 0 0, .int .i64 (9 - n)] (σ.put o (pO s p)) (fun r t => r = gpt ∧ t = σ.put o (pO s (choiceB (B s) n p)))
theorem atom_spec (n : Nat) (hn : n ≤ 8) (hch : ChS s n) (p : PS) (hp : p.at_ ≤ (B s).length) (o : Nat) (σ : Store) :
    PCall Tryz.prog 206 [.ptr o 0 0, .int .i64 (8 - n)] (σ.put o (pO s p)) (fun r t => r = gpt ∧ t = σ.put o (pO s (atomB (B s) (choiceB (B s) n) p))) := by
  refine PCall_isP ?_
  have hl := length_B s
  have h1 := take_spec s hs p hp 46 o
  have hl1 := (take_mono (B s) 46).len p hp
  obtain ⟨b1, p1, hp1⟩ : ∃ b1 p1, takeB (B s) 46 p = (b1, p1) := ⟨_, _, rfl⟩
  rw [hp1] at hl1
  have h2 := take_spec s hs p1 hl1 91 o
  have hl2 := (take_mono (B s) 91).len p1 hl1
  obtain ⟨b2, p2, hp2⟩ : ∃ b2 p2, takeB (B s) 91 p1 = (b2, p2) := ⟨_, _, rfl⟩
  rw [hp2] at hl2
  have h3 := take_spec s hs p2 hl2 40 o
  have hl3 := (take_mono (B s) 40).len p2 hl2
  obtain ⟨b3, p3, hp3⟩ : ∃ b3 p3, takeB (B s) 40 p2 = (b3, p3) := ⟨_, _, rfl⟩
  rw [hp3] at hl3
  simp only [atomB, hp1, hp2, hp3] at h1 h2 h3 ⊢
  cases b1 with
  | true =>
    simp only [if_true]
    refine PCall_w [.tmp 4] 73 Tryz.func206 (by rfl) rfl rfl rfl rfl ?_
    repeat' first |refine s1 ?_|refine gS ?_|refine wT rfl ?_|refine wF rfl ?_|(refine wC rfl (fun h=>?_) (fun h=>?_)<;>(try contradiction))|((first|refine rd ?_|refine ry [] c0 fun nu _ _=>?_);simp -dsimp (disch:=omega) only[go_sem])|refine e0 (by decide) ?_|(refine And.intro ?_ ?_;omega)|refine And.intro (of_eq_true PutAt_put) ?_|refine gT ?_|refine gF ?_|(refine gI (fun h=>?_) (fun h=>?_)<;>(try contradiction)<;>(try refine rd ?_)<;>(try simp -dsimp (disch:=omega) only[go_sem,h]))|refine Exists.intro _ (Exists.intro _ (And.intro (And.intro rfl rfl) ?_)) |refine uw (h1 _) ?_ |fail
  | false =>
  cases b2 with
  | true =>
    simp only [Bool.false_eq_true, if_false, if_true]
    have hpt := part_spec s hs p2 hl2 o
    obtain ⟨ra, hra⟩ : ∃ a, (numberB (B s) p2).1 = a := ⟨_, rfl⟩
    obtain ⟨rz, hrz⟩ : ∃ a, partZ (B s) p2 = a := ⟨_, rfl⟩
    obtain ⟨rp, hrp⟩ : ∃ a, partB (B s) p2 = a := ⟨_, rfl⟩
    have hlp := (part_mono (B s)).len p2 hl2
    rw [hrp] at hlp
    simp only [hra, hrz, hrp] at hpt ⊢
    refine PCall_w [.tmp 4] 73 Tryz.func206 (by rfl) rfl rfl rfl rfl ?_
    repeat' first |refine s1 ?_|refine gS ?_|refine wT rfl ?_|refine wF rfl ?_|(refine wC rfl (fun h=>?_) (fun h=>?_)<;>(try contradiction))|((first|refine s3 (mu:=[22]) ?_|refine rd ?_|refine ry [22] c0 fun nu _ _=>?_);simp -dsimp (disch:=omega) only[go_sem])|refine e0 (by decide) ?_|(refine And.intro ?_ ?_;omega)|refine And.intro (of_eq_true PutAt_put) ?_|refine gT ?_|refine gF ?_|(refine gI (fun h=>?_) (fun h=>?_)<;>(try contradiction)<;>(try refine rd ?_)<;>(try simp -dsimp (disch:=omega) only[go_sem,h]))|refine Exists.intro _ (Exists.intro _ (And.intro (And.intro rfl rfl) ?_)) |refine uw (h1 _) ?_ |refine uw (h2 _) ?_ |refine uw (hpt _) ?_ |fail
    intro q hq
    have hqo := alloc_ne hq
    have sw := put_swap hqo
    have ot := put_oth hqo
    rw [ot] at hq
    simp only [sw]
    repeat' first |refine s1 ?_|refine gS ?_|refine wT rfl ?_|refine wF rfl ?_|(refine wC rfl (fun h=>?_) (fun h=>?_)<;>(try contradiction))|((first|refine rd ?_|refine ry [] c0 fun nu _ _=>?_);simp -dsimp (disch:=omega) only[go_sem,sw, ot])|refine e0 (by decide) ?_|(refine And.intro ?_ ?_;omega)|refine And.intro (of_eq_true PutAt_put) ?_|refine gT ?_|refine gF ?_|(refine gI (fun h=>?_) (fun h=>?_)<;>(try contradiction)<;>(try refine rd ?_)<;>(try simp -dsimp (disch:=omega) only[go_sem,h,sw, ot]))|refine Exists.intro _ (Exists.intro _ (And.intro (And.intro rfl rfl) ?_)) |fail
    refine W_loop_st (fun x : Lp => [(0, .ptr o 0 0), (5, .ptr q 0 0)]) (fun x => (x.τ.put q (nodeO 0 true x.k x.rows .nil [])).put o (pO s x.p))
      (fun x => x.p.at_ ≤ (B s).length ∧ setB (B s) x.fuel x.p = setB (B s) ((B s).length + 2) rp ∧ x.rows.length + x.fuel = (B s).length + 3 ∧ (x.p.e = 0 → (B s).length < x.p.at_ + x.fuel) ∧ rowsOk 2 x.rows = true ∧ (∀ c y, σ c = some y → x.τ c = some y) ∧ KindOk σ x.τ q o 265 2 x.k x.rows) (fun x => x.fuel)
      ⟨(B s).length + 2, rp, .full, [.agg [.int .i64 ra, .int .i64 rz]], σ⟩ ⟨hlp, rfl, by simp; omega, fun _ => by simp only; omega, by rfl, fun _ _ h => h, .inl rfl⟩ (Env.Sub_of_has (by simp [Env.Has, Env.get])) (by simp only [pO, nodeO]; exact Store.Sub.refl _) ?_
    rintro ⟨fuel, p5, k, rows, τ⟩ ⟨i1, i2, i3, i4, i5, i6, i7⟩
    simp only at i1 i2 i3 i4 i5 i6 i7 ⊢
    obtain ⟨at5, r5⟩ := p5
    simp only at i1 i4
    rw [← i2]
    have fin : ∀ x, (σ.put o x).Sub ((τ.put q (nodeO 0 true k rows .nil [])).put o x) := fun x c y hy => by
      simp only [Store.put] at hy ⊢
      split
      · rename_i e; rw [if_pos e] at hy; exact hy
      · rename_i e; rw [if_neg e] at hy
        split
        · rename_i e2; rw [e2, hq] at hy; cases hy
        · exact i6 _ _ hy
    by_cases he : r5 = 0
    · subst he
      have hf := i4 rfl
      obtain ⟨f, rfl⟩ : ∃ f, fuel = f + 1 := ⟨fuel - 1, by omega⟩
      have t1 := take_spec s hs ⟨at5, 0⟩ i1 93 o
      have hl5 := (take_mono (B s) 93).len ⟨at5, 0⟩ i1
      have hg5 := (take_mono (B s) 93).le ⟨at5, 0⟩ i1
      obtain ⟨b6, p6, hp6⟩ : ∃ b6 p6, takeB (B s) 93 ⟨at5, 0⟩ = (b6, p6) := ⟨_, _, rfl⟩
      simp only [hp6] at t1 hl5 hg5
      simp only [setB, hp6, if_true]
      cases b6 with
      | true =>
        simp only [if_true]
        simp only [nodeO] at fin ⊢
        repeat' first |refine s1 ?_|refine gS ?_|refine wT rfl ?_|refine wF rfl ?_|(refine wC rfl (fun h=>?_) (fun h=>?_)<;>(try contradiction))|((first|refine rd ?_|refine ry [] c0 fun nu _ _=>?_);simp -dsimp (disch:=omega) only[go_sem])|refine e0 (by decide) ?_|(refine And.intro ?_ ?_;omega)|refine And.intro (of_eq_true PutAt_put) ?_|refine gT ?_|refine gF ?_|(refine gI (fun h=>?_) (fun h=>?_)<;>(try contradiction)<;>(try refine rd ?_)<;>(try simp -dsimp (disch:=omega) only[go_sem,h]))|refine Exists.intro _ (Exists.intro _ (And.intro (And.intro rfl rfl) ?_)) |refine uw (t1 _) ?_ |fail
        exact fin _
      | false =>
        simp only [Bool.false_eq_true, if_false]
        have hpt2 := part_spec s hs p6 hl5 o
        obtain ⟨na, hna⟩ : ∃ a, (numberB (B s) p6).1 = a := ⟨_, rfl⟩
        obtain ⟨nz, hnz⟩ : ∃ a, partZ (B s) p6 = a := ⟨_, rfl⟩
        obtain ⟨p7, hp7⟩ : ∃ a, partB (B s) p6 = a := ⟨_, rfl⟩
        have hl7 := (part_mono (B s)).len p6 hl5
        have hgo := part_go (B s) p6 hl5
        rw [hp7] at hl7 hgo
        simp only [hna, hnz, hp7] at hpt2 ⊢
        have i2' : setB (B s) f p7 = setB (B s) (f + 1) ⟨at5, 0⟩ := by simp only [setB, hp6, hp7, if_true, Bool.false_eq_true, if_false]
        simp only [nodeO]
        repeat' first |((fail_if_success (first|show W _ _ (Code.seq (Code.region 6 _ _) _) _ _ _|show W _ _ (Code.seq (Code.seq (Code.region 6 _ _) _) _) _ _ _));refine s1 ?_)|refine gS ?_|refine wT rfl ?_|refine wF rfl ?_|(refine wC rfl (fun h=>?_) (fun h=>?_)<;>(try contradiction))|((fail_if_success (first|show W _ _ (Code.region 6 _ _) _ _ _));(first|refine rd ?_|refine ry [] c0 fun nu _ _=>?_);simp -dsimp (disch:=omega) only[go_sem])|refine e0 (by decide) ?_|(refine And.intro ?_ ?_;omega)|refine And.intro (of_eq_true PutAt_put) ?_|refine gT ?_|refine gF ?_|(refine gI (fun h=>?_) (fun h=>?_)<;>(try contradiction)<;>(try refine rd ?_)<;>(try simp -dsimp (disch:=omega) only[go_sem,h]))|refine Exists.intro _ (Exists.intro _ (And.intro (And.intro rfl rfl) ?_)) |refine uw (t1 _) ?_ |fail
        refine W_region_late (id:=6) [] ⟨[4],[6,8,11],[],[8],[],[6],o⟩ mx (by kernel_rfl) ⟨_, put_same _ _ _⟩ ?_
        intro nu hnu hni
        have e8 := hnu 8 (by simp)
        have n8 := alloc_ne e8
        rw [put_oth n8] at e8
        have n8q := alloc_ne e8
        rw [put_oth n8q] at e8
        have s8 := put_swap n8
        have s8q := put_swap n8q
        have o8 := put_oth n8
        have o8q := put_oth n8q
        rcases i7 with rfl | ⟨rfl, rfl⟩ | ⟨t, rfl, ht, htq, hto, hts⟩
        · skip
          simp -dsimp (disch:=omega) only[go_sem,sw, ot, s8, s8q, o8, o8q, i5, ps_under n8q n8, ps_in hqo]
          repeat' first |refine s1 ?_|refine gS ?_|refine wT rfl ?_|refine wF rfl ?_|(refine wC rfl (fun h=>?_) (fun h=>?_)<;>(try contradiction))|((first|refine rd ?_|refine ry [] c0 fun nu _ _=>?_);simp -dsimp (disch:=omega) only[go_sem,sw, ot, s8, s8q, o8, o8q, i5, ps_under n8q n8, ps_in hqo])|refine e0 (by decide) ?_|(refine And.intro ?_ ?_;omega)|refine And.intro (of_eq_true PutAt_put) ?_|refine And.intro (show PutSome _ _ by simp only[PutSome_self,PutSome_put,PutSome_same,sw, ot, s8, s8q, o8, o8q, i5, ps_under n8q n8, ps_in hqo]) ?_|refine gT ?_|refine gF ?_|(refine gI (fun h=>?_) (fun h=>?_)<;>(try contradiction)<;>(try refine rd ?_)<;>(try simp -dsimp (disch:=omega) only[go_sem,h,sw, ot, s8, s8q, o8, o8q, i5, ps_under n8q n8, ps_in hqo]))|refine Exists.intro _ (Exists.intro _ (And.intro (And.intro rfl rfl) ?_)) |refine uw (hpt2 _) ?_ |fail
          refine ⟨⟨f, p7, .tip (nu 8), rows ++ [.agg [.int .i64 na, .int .i64 nz]], τ.put (nu 8) (.tip (rows ++ [AV.agg [.int .i64 na, .int .i64 nz]]).length 265 2)⟩, by simp, ⟨hl7, rfl, by simp at i3 ⊢; omega, fun h0 => by have := hgo h0; simp only; omega, by simp only [rowsOk_append, i5]; rfl, keep_new i6 (none_of i6 e8), .inr (.inr ⟨(nu 8), rfl, put_same _ _ _, n8q, n8, none_of i6 e8⟩)⟩, Env.Sub_of_has (by simp [Env.Has, Env.get]), by simp only [pO, List.nil_append]; exact Store.Sub.refl _⟩
        · skip
          simp -dsimp (disch:=omega) only[go_sem,sw, ot, s8, s8q, o8, o8q, i5, ps_under n8q n8, ps_in hqo]
          repeat' first |refine s1 ?_|refine gS ?_|refine wT rfl ?_|refine wF rfl ?_|(refine wC rfl (fun h=>?_) (fun h=>?_)<;>(try contradiction))|((first|refine rd ?_|refine ry [] c0 fun nu _ _=>?_);simp -dsimp (disch:=omega) only[go_sem,sw, ot, s8, s8q, o8, o8q, i5, ps_under n8q n8, ps_in hqo])|refine e0 (by decide) ?_|(refine And.intro ?_ ?_;omega)|refine And.intro (of_eq_true PutAt_put) ?_|refine And.intro (show PutSome _ _ by simp only[PutSome_self,PutSome_put,PutSome_same,sw, ot, s8, s8q, o8, o8q, i5, ps_under n8q n8, ps_in hqo]) ?_|refine gT ?_|refine gF ?_|(refine gI (fun h=>?_) (fun h=>?_)<;>(try contradiction)<;>(try refine rd ?_)<;>(try simp -dsimp (disch:=omega) only[go_sem,h,sw, ot, s8, s8q, o8, o8q, i5, ps_under n8q n8, ps_in hqo]))|refine Exists.intro _ (Exists.intro _ (And.intro (And.intro rfl rfl) ?_)) |refine uw (hpt2 _) ?_ |fail
          refine ⟨⟨f, p7, .tip (nu 8), [] ++ [.agg [.int .i64 na, .int .i64 nz]], τ.put (nu 8) (.tip ([] ++ [AV.agg [.int .i64 na, .int .i64 nz]]).length 265 2)⟩, by simp, ⟨hl7, rfl, by simp at i3 ⊢; omega, fun h0 => by have := hgo h0; simp only; omega, by simp only [rowsOk_append, i5]; rfl, keep_new i6 (none_of i6 e8), .inr (.inr ⟨(nu 8), rfl, put_same _ _ _, n8q, n8, none_of i6 e8⟩)⟩, Env.Sub_of_has (by simp [Env.Has, Env.get]), by simp only [pO, List.nil_append]; exact Store.Sub.refl _⟩
        · have st := put_swap hto
          have stq := put_swap htq
          have ott := put_oth hto
          have otq := put_oth htq
          simp -dsimp (disch:=omega) only[go_sem,sw, ot, st, stq, ott, otq, ht, i5, ps_under htq hto, ps_in hqo]
          repeat' first |refine s1 ?_|refine gS ?_|refine wT rfl ?_|refine wF rfl ?_|(refine wC rfl (fun h=>?_) (fun h=>?_)<;>(try contradiction))|((first|refine rd ?_|refine ry [] c0 fun nu _ _=>?_);simp -dsimp (disch:=omega) only[go_sem,sw, ot, st, stq, ott, otq, ht, i5, ps_under htq hto, ps_in hqo])|refine e0 (by decide) ?_|(refine And.intro ?_ ?_;omega)|refine And.intro (of_eq_true PutAt_put) ?_|refine And.intro (show PutSome _ _ by simp only[PutSome_self,PutSome_put,PutSome_same,sw, ot, st, stq, ott, otq, ht, i5, ps_under htq hto, ps_in hqo]) ?_|refine gT ?_|refine gF ?_|(refine gI (fun h=>?_) (fun h=>?_)<;>(try contradiction)<;>(try refine rd ?_)<;>(try simp -dsimp (disch:=omega) only[go_sem,h,sw, ot, st, stq, ott, otq, ht, i5, ps_under htq hto, ps_in hqo]))|refine Exists.intro _ (Exists.intro _ (And.intro (And.intro rfl rfl) ?_)) |refine uw (hpt2 _) ?_ |fail
          refine ⟨⟨f, p7, .tip t, rows ++ [.agg [.int .i64 na, .int .i64 nz]], τ.put t (.tip (rows ++ [AV.agg [.int .i64 na, .int .i64 nz]]).length 265 2)⟩, by simp, ⟨hl7, rfl, by simp at i3 ⊢; omega, fun h0 => by have := hgo h0; simp only; omega, by simp only [rowsOk_append, i5]; rfl, keep_new i6 hts, .inr (.inr ⟨t, rfl, put_same _ _ _, htq, hto, hts⟩)⟩, Env.Sub_of_has (by simp [Env.Has, Env.get]), by simp only [pO, List.nil_append]; exact Store.Sub.refl _⟩
    · have hz : setB (B s) fuel ⟨at5, r5⟩ = ⟨at5, r5⟩ := by
        cases fuel with
        | zero => rfl
        | succ n => rw [setB, if_neg he]
      rw [hz]
      simp only [nodeO] at fin ⊢
      repeat' first |refine s1 ?_|refine gS ?_|refine wT rfl ?_|refine wF rfl ?_|(refine wC rfl (fun h=>?_) (fun h=>?_)<;>(try contradiction))|((first|refine rd ?_|refine ry [] c0 fun nu _ _=>?_);simp -dsimp (disch:=omega) only[go_sem,he])|refine e0 (by decide) ?_|(refine And.intro ?_ ?_;omega)|refine And.intro (of_eq_true PutAt_put) ?_|refine gT ?_|refine gF ?_|(refine gI (fun h=>?_) (fun h=>?_)<;>(try contradiction)<;>(try refine rd ?_)<;>(try simp -dsimp (disch:=omega) only[go_sem,h,he]))|refine Exists.intro _ (Exists.intro _ (And.intro (And.intro rfl rfl) ?_)) |fail
      exact fin _
  | false =>
  cases b3 with
  | true =>
    simp only [Bool.false_eq_true, if_false, if_true]
    have h4 := hch p3 hl3 o
    have hd : (8 - (n : Int) + 1) = 9 - n := by omega
    obtain ⟨q, hq⟩ : ∃ q, choiceB (B s) n p3 = q := ⟨_, rfl⟩
    have hlq : q.at_ ≤ (B s).length := by rw [← hq]; exact (choice_mono (B s) n).len p3 hl3
    have h5 := take_spec s hs q hlq 41 o
    obtain ⟨b4, p4, hp4⟩ : ∃ b4 p4, takeB (B s) 41 q = (b4, p4) := ⟨_, _, rfl⟩
    have h6 : ∀ σ : Store, PCall Tryz.prog 166 [.ptr o 0 0, .int .i64 4] (σ.put o (pO s p4)) (fun r t => r = .tup [] ∧ t = σ.put o (pO s (failB 4 p4))) := fun σ => fail_spec s p4 4 o σ
    simp only [hq, hp4] at h4 h5 ⊢
    obtain ⟨qa, qe⟩ := q
    by_cases hqe : qe = 0
    · subst hqe
      cases b4 with
      | true =>
        simp only [if_true]
        refine PCall_w [.tmp 4] 73 Tryz.func206 (by rfl) rfl rfl rfl rfl ?_
        repeat' first |refine s1 ?_|refine gS ?_|refine wT rfl ?_|refine wF rfl ?_|(refine wC rfl (fun h=>?_) (fun h=>?_)<;>(try contradiction))|((first|refine rd ?_|refine ry [] c0 fun nu _ _=>?_);simp -dsimp (disch:=omega) only[go_sem,hd])|refine e0 (by decide) ?_|(refine And.intro ?_ ?_;omega)|refine And.intro (of_eq_true PutAt_put) ?_|refine gT ?_|refine gF ?_|(refine gI (fun h=>?_) (fun h=>?_)<;>(try contradiction)<;>(try refine rd ?_)<;>(try simp -dsimp (disch:=omega) only[go_sem,h,hd]))|refine Exists.intro _ (Exists.intro _ (And.intro (And.intro rfl rfl) ?_)) |refine uw (h1 _) ?_ |refine uw (h2 _) ?_ |refine uw (h3 _) ?_ |refine uw (h4 _) ?_ |refine uw (h5 _) ?_ |refine uw (h6 _) ?_ |fail
      | false =>
        simp only [if_true, Bool.false_eq_true, if_false]
        refine PCall_w [.tmp 4] 73 Tryz.func206 (by rfl) rfl rfl rfl rfl ?_
        repeat' first |refine s1 ?_|refine gS ?_|refine wT rfl ?_|refine wF rfl ?_|(refine wC rfl (fun h=>?_) (fun h=>?_)<;>(try contradiction))|((first|refine rd ?_|refine ry [] c0 fun nu _ _=>?_);simp -dsimp (disch:=omega) only[go_sem,hd])|refine e0 (by decide) ?_|(refine And.intro ?_ ?_;omega)|refine And.intro (of_eq_true PutAt_put) ?_|refine gT ?_|refine gF ?_|(refine gI (fun h=>?_) (fun h=>?_)<;>(try contradiction)<;>(try refine rd ?_)<;>(try simp -dsimp (disch:=omega) only[go_sem,h,hd]))|refine Exists.intro _ (Exists.intro _ (And.intro (And.intro rfl rfl) ?_)) |refine uw (h1 _) ?_ |refine uw (h2 _) ?_ |refine uw (h3 _) ?_ |refine uw (h4 _) ?_ |refine uw (h5 _) ?_ |refine uw (h6 _) ?_ |fail
    · simp only [if_neg hqe]
      refine PCall_w [.tmp 4] 73 Tryz.func206 (by rfl) rfl rfl rfl rfl ?_
      repeat' first |refine s1 ?_|refine gS ?_|refine wT rfl ?_|refine wF rfl ?_|(refine wC rfl (fun h=>?_) (fun h=>?_)<;>(try contradiction))|((first|refine rd ?_|refine ry [] c0 fun nu _ _=>?_);simp -dsimp (disch:=omega) only[go_sem,hqe, hd])|refine e0 (by decide) ?_|(refine And.intro ?_ ?_;omega)|refine And.intro (of_eq_true PutAt_put) ?_|refine gT ?_|refine gF ?_|(refine gI (fun h=>?_) (fun h=>?_)<;>(try contradiction)<;>(try refine rd ?_)<;>(try simp -dsimp (disch:=omega) only[go_sem,h,hqe, hd]))|refine Exists.intro _ (Exists.intro _ (And.intro (And.intro rfl rfl) ?_)) |refine uw (h1 _) ?_ |refine uw (h2 _) ?_ |refine uw (h3 _) ?_ |refine uw (h4 _) ?_ |refine uw (h5 _) ?_ |refine uw (h6 _) ?_ |fail
  | false =>
    simp only [Bool.false_eq_true, if_false]
    have h4 := number_spec s hs p3 hl3 o
    obtain ⟨a, q, hq⟩ : ∃ a q, numberB (B s) p3 = (a, q) := ⟨_, _, rfl⟩
    simp only [hq] at h4 ⊢
    refine PCall_w [.tmp 4] 73 Tryz.func206 (by rfl) rfl rfl rfl rfl ?_
    repeat' first |refine s1 ?_|refine gS ?_|refine wT rfl ?_|refine wF rfl ?_|(refine wC rfl (fun h=>?_) (fun h=>?_)<;>(try contradiction))|((first|refine rd ?_|refine ry [] c0 fun nu _ _=>?_);simp -dsimp (disch:=omega) only[go_sem])|refine e0 (by decide) ?_|(refine And.intro ?_ ?_;omega)|refine And.intro (of_eq_true PutAt_put) ?_|refine gT ?_|refine gF ?_|(refine gI (fun h=>?_) (fun h=>?_)<;>(try contradiction)<;>(try refine rd ?_)<;>(try simp -dsimp (disch:=omega) only[go_sem,h]))|refine Exists.intro _ (Exists.intro _ (And.intro (And.intro rfl rfl) ?_)) |refine uw (h1 _) ?_ |refine uw (h2 _) ?_ |refine uw (h3 _) ?_ |refine uw (h4 _) ?_ |fail
end
end Go.Proofs.YtaealcimocpnnaaGreat
namespace Go.Proofs.YtaealcimocpnnaaGreat
open Go.Kern
set_option maxRecDepth 100000
set_option maxHeartbeats 4000000
attribute [local irreducible] PCall W
attribute [local go_sem] pO
theorem begins_spec (c : Int) : Pure Tryz.prog 186 [.int .u8 c] (.bool (beginsZ c)) := by
  intro σ
  refine PCall_q [.tmp 2] 17 Tryz.func186 (by rfl) rfl rfl rfl rfl ?_
  repeat' first |refine s1 ?_|refine gS ?_|refine wT rfl ?_|refine wF rfl ?_|(refine wC rfl (fun h=>?_) (fun h=>?_)<;>(try contradiction))|((first|refine rd ?_|refine ry [] c0 fun nu _ _=>?_);simp -dsimp (disch:=omega) only[go_sem])|refine e0 (by decide) ?_|(refine And.intro ?_ ?_;omega)|refine And.intro (of_eq_true PutAt_put) ?_|refine gT ?_|refine gF ?_|(refine gI (fun h=>?_) (fun h=>?_)<;>(try contradiction)<;>(try refine rd ?_)<;>(try simp -dsimp (disch:=omega) only[go_sem,h]))|refine Exists.intro _ (Exists.intro _ (And.intro (And.intro rfl rfl) ?_)) |refine us (digit_spec c) ?_ |fail
  all_goals (simp only [beginsZ] at *; simp_all)
section
variable (s : ByteArray) (hs : s.size ≤ 1000)
include hs
theorem item_spec (n : Nat) (hn : n ≤ 8) (hch : ChS s n) (p : PS) (hp : p.at_ ≤ (B s).length) (o : Nat) (σ : Store) :
    PCall Tryz.prog 187 [.ptr o 0 0, .int .i64 (8 - n)] (σ.put o (pO s p)) (fun r t => r = gpt ∧ t = σ.put o (pO s (itemB (B s) (choiceB (B s) n) p))) := by
  refine PCall_isP ?_
  have hl := length_B s
  have h0 := atom_spec s hs n hn hch p hp o
  have hl0 := (atom_mono (B s) (choice_mono (B s) n)).len p hp
  obtain ⟨p0, hp0⟩ : ∃ a, atomB (B s) (choiceB (B s) n) p = a := ⟨_, rfl⟩
  rw [hp0] at hl0
  have h1 := take_spec s hs p0 hl0 42 o
  have hl1 := (take_mono (B s) 42).len p0 hl0
  obtain ⟨b1, p1, hp1⟩ : ∃ b1 p1, takeB (B s) 42 p0 = (b1, p1) := ⟨_, _, rfl⟩
  rw [hp1] at hl1
  have h2 := take_spec s hs p1 hl1 43 o
  have hl2 := (take_mono (B s) 43).len p1 hl1
  obtain ⟨b2, p2, hp2⟩ : ∃ b2 p2, takeB (B s) 43 p1 = (b2, p2) := ⟨_, _, rfl⟩
  rw [hp2] at hl2
  have h3 := take_spec s hs p2 hl2 63 o
  obtain ⟨b3, p3, hp3⟩ : ∃ b3 p3, takeB (B s) 63 p2 = (b3, p3) := ⟨_, _, rfl⟩
  simp only [itemB, hp0, hp1, hp2, hp3] at h0 h1 h2 h3 ⊢
  cases b1 with
  | true =>
    simp only [if_true]
    refine PCall_w [.tmp 4] 31 Tryz.func187 (by rfl) rfl rfl rfl rfl ?_
    repeat' first |refine s1 ?_|refine gS ?_|refine wT rfl ?_|refine wF rfl ?_|(refine wC rfl (fun h=>?_) (fun h=>?_)<;>(try contradiction))|((first|refine rd ?_|refine ry [] c0 fun nu _ _=>?_);simp -dsimp (disch:=omega) only[go_sem])|refine e0 (by decide) ?_|(refine And.intro ?_ ?_;omega)|refine And.intro (of_eq_true PutAt_put) ?_|refine gT ?_|refine gF ?_|(refine gI (fun h=>?_) (fun h=>?_)<;>(try contradiction)<;>(try refine rd ?_)<;>(try simp -dsimp (disch:=omega) only[go_sem,h]))|refine Exists.intro _ (Exists.intro _ (And.intro (And.intro rfl rfl) ?_)) |refine uw (h0 _) ?_ |refine uw (h1 _) ?_ |fail
  | false =>
  cases b2 with
  | true =>
    simp only [Bool.false_eq_true, if_false, if_true]
    refine PCall_w [.tmp 4] 31 Tryz.func187 (by rfl) rfl rfl rfl rfl ?_
    repeat' first |refine s1 ?_|refine gS ?_|refine wT rfl ?_|refine wF rfl ?_|(refine wC rfl (fun h=>?_) (fun h=>?_)<;>(try contradiction))|((first|refine rd ?_|refine ry [] c0 fun nu _ _=>?_);simp -dsimp (disch:=omega) only[go_sem])|refine e0 (by decide) ?_|(refine And.intro ?_ ?_;omega)|refine And.intro (of_eq_true PutAt_put) ?_|refine gT ?_|refine gF ?_|(refine gI (fun h=>?_) (fun h=>?_)<;>(try contradiction)<;>(try refine rd ?_)<;>(try simp -dsimp (disch:=omega) only[go_sem,h]))|refine Exists.intro _ (Exists.intro _ (And.intro (And.intro rfl rfl) ?_)) |refine uw (h0 _) ?_ |refine uw (h1 _) ?_ |refine uw (h2 _) ?_ |fail
  | false =>
  simp only [Bool.false_eq_true, if_false]
  cases b3 with
  | true =>
    refine PCall_w [.tmp 4] 31 Tryz.func187 (by rfl) rfl rfl rfl rfl ?_
    repeat' first |refine s1 ?_|refine gS ?_|refine wT rfl ?_|refine wF rfl ?_|(refine wC rfl (fun h=>?_) (fun h=>?_)<;>(try contradiction))|((first|refine rd ?_|refine ry [] c0 fun nu _ _=>?_);simp -dsimp (disch:=omega) only[go_sem])|refine e0 (by decide) ?_|(refine And.intro ?_ ?_;omega)|refine And.intro (of_eq_true PutAt_put) ?_|refine gT ?_|refine gF ?_|(refine gI (fun h=>?_) (fun h=>?_)<;>(try contradiction)<;>(try refine rd ?_)<;>(try simp -dsimp (disch:=omega) only[go_sem,h]))|refine Exists.intro _ (Exists.intro _ (And.intro (And.intro rfl rfl) ?_)) |refine uw (h0 _) ?_ |refine uw (h1 _) ?_ |refine uw (h2 _) ?_ |refine uw (h3 _) ?_ |fail
  | false =>
    refine PCall_w [.tmp 4] 31 Tryz.func187 (by rfl) rfl rfl rfl rfl ?_
    repeat' first |refine s1 ?_|refine gS ?_|refine wT rfl ?_|refine wF rfl ?_|(refine wC rfl (fun h=>?_) (fun h=>?_)<;>(try contradiction))|((first|refine rd ?_|refine ry [] c0 fun nu _ _=>?_);simp -dsimp (disch:=omega) only[go_sem])|refine e0 (by decide) ?_|(refine And.intro ?_ ?_;omega)|refine And.intro (of_eq_true PutAt_put) ?_|refine gT ?_|refine gF ?_|(refine gI (fun h=>?_) (fun h=>?_)<;>(try contradiction)<;>(try refine rd ?_)<;>(try simp -dsimp (disch:=omega) only[go_sem,h]))|refine Exists.intro _ (Exists.intro _ (And.intro (And.intro rfl rfl) ?_)) |refine uw (h0 _) ?_ |refine uw (h1 _) ?_ |refine uw (h2 _) ?_ |refine uw (h3 _) ?_ |fail
end
end Go.Proofs.YtaealcimocpnnaaGreat
namespace Go.Proofs.YtaealcimocpnnaaGreat
open Go.Kern
set_option maxRecDepth 100000
set_option maxHeartbeats 4000000
attribute [local irreducible] PCall W
attribute [local go_sem] pO
theorem Sub_in {σ X : Store} {q o : Nat} {N x : Ob} (h : ∀ c y, σ c = some y → X c = some y) (hq : σ q = none) : Store.Sub (σ.put o x) ((X.put q N).put o x) := fun c y hy => by
  simp only [Store.put] at hy ⊢
  split
  · rename_i e; rw [if_pos e] at hy; exact hy
  · rename_i e; rw [if_neg e] at hy
    split
    · rename_i e2; rw [e2, hq] at hy; cases hy
    · exact h _ _ hy
theorem choice_zero (s : ByteArray) (hs : s.size ≤ 1000) : ChS s 0 := by
  intro p hp o σ
  refine PCall_isP ?_
  have h1 : ∀ σ : Store, PCall Tryz.prog 166 [.ptr o 0 0, .int .i64 2] (σ.put o (pO s p)) (fun r t => r = .tup [] ∧ t = σ.put o (pO s (failB 2 p))) := fun σ => fail_spec s p 2 o σ
  simp only [choiceB]
  refine PCall_w [.tmp 4] 53 Tryz.func164 (by rfl) rfl rfl rfl rfl ?_
  repeat' first |refine s1 ?_|refine gS ?_|refine wT rfl ?_|refine wF rfl ?_|(refine wC rfl (fun h=>?_) (fun h=>?_)<;>(try contradiction))|((first|refine rd ?_|refine ry [] c0 fun nu _ _=>?_);simp -dsimp (disch:=omega) only[go_sem])|refine e0 (by decide) ?_|(refine And.intro ?_ ?_;omega)|refine And.intro (of_eq_true PutAt_put) ?_|refine gT ?_|refine gF ?_|(refine gI (fun h=>?_) (fun h=>?_)<;>(try contradiction)<;>(try refine rd ?_)<;>(try simp -dsimp (disch:=omega) only[go_sem,h]))|refine Exists.intro _ (Exists.intro _ (And.intro (And.intro rfl rfl) ?_)) |refine uw (h1 _) ?_ |fail
section
variable (s : ByteArray) (hs : s.size ≤ 1000)
include hs
theorem choice_spec (n : Nat) (hn : n ≤ 7) (hch : ChS s n) : ChS s (n + 1) := by
  intro p hp o σ
  refine PCall_isP ?_
  have hl := length_B s
  have hd : (9 - ((n + 1 : Nat) : Int)) = 8 - n := by omega
  rw [hd]
  simp only [choiceB]
  obtain ⟨ch, hchE⟩ : ∃ f, choiceB (B s) n = f := ⟨_, rfl⟩
  have hmo := choice_mono (B s) n
  have hit : ∀ (p : PS), p.at_ ≤ (B s).length → ∀ (σ : Store), PCall Tryz.prog 187 [.ptr o 0 0, .int .i64 (8 - n)] (σ.put o (pO s p)) (fun r t => r = gpt ∧ t = σ.put o (pO s (itemB (B s) ch p))) := fun p hp σ => by
    rw [← hchE]; exact item_spec s hs n (by omega) hch p hp o σ
  rw [hchE] at hmo ⊢
  refine PCall_w [.tmp 4] 53 Tryz.func164 (by rfl) rfl rfl rfl rfl ?_
  repeat' first |refine s1 ?_|refine gS ?_|refine wT rfl ?_|refine wF rfl ?_|(refine wC rfl (fun h=>?_) (fun h=>?_)<;>(try contradiction))|((first|refine s3 (mu:=[14]) ?_|refine rd ?_|refine ry [14] c0 fun nu _ _=>?_);simp -dsimp (disch:=omega) only[go_sem])|refine e0 (by decide) ?_|(refine And.intro ?_ ?_;omega)|refine And.intro (of_eq_true PutAt_put) ?_|refine gT ?_|refine gF ?_|(refine gI (fun h=>?_) (fun h=>?_)<;>(try contradiction)<;>(try refine rd ?_)<;>(try simp -dsimp (disch:=omega) only[go_sem,h]))|refine Exists.intro _ (Exists.intro _ (And.intro (And.intro rfl rfl) ?_)) |fail
  intro q hq
  have hqo := alloc_ne hq
  have sw := put_swap hqo
  have ot := put_oth hqo
  rw [ot] at hq
  simp only [sw]
  repeat' first |refine s1 ?_|refine gS ?_|refine wT rfl ?_|refine wF rfl ?_|(refine wC rfl (fun h=>?_) (fun h=>?_)<;>(try contradiction))|((first|refine rd ?_|refine ry [] c0 fun nu _ _=>?_);simp -dsimp (disch:=omega) only[go_sem,sw, ot])|refine e0 (by decide) ?_|(refine And.intro ?_ ?_;omega)|refine And.intro (of_eq_true PutAt_put) ?_|refine gT ?_|refine gF ?_|(refine gI (fun h=>?_) (fun h=>?_)<;>(try contradiction)<;>(try refine rd ?_)<;>(try simp -dsimp (disch:=omega) only[go_sem,h,sw, ot]))|refine Exists.intro _ (Exists.intro _ (And.intro (And.intro rfl rfl) ?_)) |fail
  refine W_loop_st (fun x : Lp => [(0, .ptr o 0 0), (1, .int .i64 (8 - n)), (5, .ptr q 0 0)]) (fun x => (x.τ.put q (nodeO 2 false .nil [] x.k x.rows)).put o (pO s x.p))
    (fun x => x.p.at_ ≤ (B s).length ∧ altB (B s) ch x.fuel x.p = altB (B s) ch ((B s).length + 2) p ∧ x.rows.length + x.fuel = (B s).length + 2 ∧ (B s).length < x.p.at_ + x.fuel ∧ rowsOk 1 x.rows = true ∧ (∀ c y, σ c = some y → x.τ c = some y) ∧ KindOk σ x.τ q o 215 1 x.k x.rows) (fun x => x.fuel)
    ⟨(B s).length + 2, p, .nil, [], σ⟩ ⟨hp, rfl, by simp, by simp only; omega, by rfl, fun _ _ h => h, .inr (.inl ⟨rfl, rfl⟩)⟩ (Env.Sub_of_has (by simp [Env.Has, Env.get])) (by simp only [pO, nodeO]; exact Store.Sub.refl _) ?_
  rintro ⟨fuel, p5, k, rows, τ⟩ ⟨i1, i2, i3, i4, i5, i6, i7⟩
  simp only at i1 i2 i3 i4 i5 i6 i7 ⊢
  rw [← i2]
  obtain ⟨f, rfl⟩ : ∃ f, fuel = f + 1 := ⟨fuel - 1, by omega⟩
  obtain ⟨N, hN⟩ : ∃ N, nodeO 2 false .nil [] k rows = N := ⟨_, rfl⟩
  rw [hN]
  repeat' first |refine s1 ?_|refine gS ?_|refine wT rfl ?_|refine wF rfl ?_|(refine wC rfl (fun h=>?_) (fun h=>?_)<;>(try contradiction))|((first|refine s3 (mu:=[16]) ?_|refine rd ?_|refine ry [16] c0 fun nu _ _=>?_);simp -dsimp (disch:=omega) only[go_sem])|refine e0 (by decide) ?_|(refine And.intro ?_ ?_;omega)|refine And.intro (of_eq_true PutAt_put) ?_|refine gT ?_|refine gF ?_|(refine gI (fun h=>?_) (fun h=>?_)<;>(try contradiction)<;>(try refine rd ?_)<;>(try simp -dsimp (disch:=omega) only[go_sem,h]))|refine Exists.intro _ (Exists.intro _ (And.intro (And.intro rfl rfl) ?_)) |fail
  intro r hr
  have hro := alloc_ne hr
  rw [put_oth hro] at hr
  have hrq := alloc_ne hr
  have swr := put_swap hro
  have otr := put_oth hro
  obtain ⟨τ1, hτ1⟩ : ∃ t, τ.put q N = t := ⟨_, rfl⟩
  rw [hτ1] at hr ⊢
  simp only [swr]
  repeat' first |refine s1 ?_|refine gS ?_|refine wT rfl ?_|refine wF rfl ?_|(refine wC rfl (fun h=>?_) (fun h=>?_)<;>(try contradiction))|((first|refine rd ?_|refine ry [] c0 fun nu _ _=>?_);simp -dsimp (disch:=omega) only[go_sem,swr, otr])|refine e0 (by decide) ?_|(refine And.intro ?_ ?_;omega)|refine And.intro (of_eq_true PutAt_put) ?_|refine gT ?_|refine gF ?_|(refine gI (fun h=>?_) (fun h=>?_)<;>(try contradiction)<;>(try refine rd ?_)<;>(try simp -dsimp (disch:=omega) only[go_sem,h,swr, otr]))|refine Exists.intro _ (Exists.intro _ (And.intro (And.intro rfl rfl) ?_)) |fail
  refine W_loop_st (fun y : Lp => [(0, .ptr o 0 0), (1, .int .i64 (8 - n)), (5, .ptr q 0 0), (6, .ptr r 0 0)]) (fun y => (y.τ.put r (nodeO 1 false .nil [] y.k y.rows)).put o (pO s y.p))
    (fun y => y.p.at_ ≤ (B s).length ∧ rowB (B s) ch y.fuel y.p = rowB (B s) ch ((B s).length + 2) p5 ∧ y.rows.length + y.fuel = (B s).length + 2 ∧ (y.p.e = 0 → (B s).length < y.p.at_ + y.fuel) ∧ rowsOk 1 y.rows = true ∧ (∀ c z, τ1 c = some z → y.τ c = some z) ∧ KindOk τ1 y.τ r o 215 1 y.k y.rows) (fun y => y.fuel)
    ⟨(B s).length + 2, p5, .nil, [], τ1⟩ ⟨i1, rfl, by simp, fun _ => by simp only; omega, by rfl, fun _ _ h => h, .inr (.inl ⟨rfl, rfl⟩)⟩ (Env.Sub_of_has (by simp [Env.Has, Env.get])) (by simp only [pO, nodeO]; exact Store.Sub.refl _) ?_
  rintro ⟨g, p6, k', rows', τ'⟩ ⟨j1, j2, j3, j4, j5, j6, j7⟩
  simp only at j1 j2 j3 j4 j5 j6 j7 ⊢
  have hq1 : τ' q = some N := j6 _ _ (by rw [← hτ1]; exact put_same _ _ _)
  have hq2 : q ≠ r := fun e => by rw [← hτ1, ← e, put_same] at hr; cases hr
  have otq := put_oth hq2
  obtain ⟨at6, r6⟩ := p6
  simp only at j1 j4
  by_cases he : r6 = 0
  · subst he
    have hf := j4 rfl
    obtain ⟨g', rfl⟩ : ∃ f, g = f + 1 := ⟨g - 1, by omega⟩
    have hpk := peek_spec s hs ⟨at6, 0⟩ j1 o
    have hsk := skipB_len (B s) j1
    have hsl := skipB_le (B s) at6
    obtain ⟨a, ha⟩ : ∃ a, skipB (B s) at6 = a := ⟨_, rfl⟩
    simp only [ha] at hpk hsk hsl
    have hb := begins_spec (chr (B s) a)
    simp only [rowB, ha, if_true] at j2
    simp only [nodeO]
    cases hbz : beginsZ (chr (B s) a) with
    | true =>
      rw [hbz] at hb
      rw [if_pos hbz] at j2
      have hit1 := hit ⟨a, 0⟩ hsk
      have hl7 := (item_mono (B s) hmo).len ⟨a, 0⟩ hsk
      have hgo := item_go (B s) hmo ⟨a, 0⟩ hsk
      obtain ⟨p7, hp7⟩ : ∃ x, itemB (B s) ch ⟨a, 0⟩ = x := ⟨_, rfl⟩
      rw [hp7] at hl7 hgo j2
      simp only [hp7] at hit1
      repeat' first |((fail_if_success (first|show W _ _ (Code.seq (Code.region 7 _ _) _) _ _ _|show W _ _ (Code.seq (Code.seq (Code.region 7 _ _) _) _) _ _ _));refine s1 ?_)|refine gS ?_|refine wT rfl ?_|refine wF rfl ?_|(refine wC rfl (fun h=>?_) (fun h=>?_)<;>(try contradiction))|((fail_if_success (first|show W _ _ (Code.region 7 _ _) _ _ _));(first|refine rd ?_|refine ry [] c0 fun nu _ _=>?_);simp -dsimp (disch:=omega) only[go_sem])|refine e0 (by decide) ?_|(refine And.intro ?_ ?_;omega)|refine And.intro (of_eq_true PutAt_put) ?_|refine gT ?_|refine gF ?_|(refine gI (fun h=>?_) (fun h=>?_)<;>(try contradiction)<;>(try refine rd ?_)<;>(try simp -dsimp (disch:=omega) only[go_sem,h]))|refine Exists.intro _ (Exists.intro _ (And.intro (And.intro rfl rfl) ?_)) |refine uw (hpk _) ?_ |refine us (hb) ?_ |fail
      refine W_region_late (id:=7) [] ⟨[4],[7,9,12],[],[9],[],[7],o⟩ mx (by kernel_rfl) ⟨_, put_same _ _ _⟩ ?_
      intro nu hnu hni
      have e9' := hnu 9 (by simp)
      have n9 := alloc_ne e9'
      rw [put_oth n9] at e9'
      have n9r := alloc_ne e9'
      rw [put_oth n9r] at e9'
      have w9 := put_swap n9
      have w9r := put_swap n9r
      have o9 := put_oth n9
      have o9r := put_oth n9r
      rcases j7 with rfl | ⟨rfl, rfl⟩ | ⟨t, rfl, ht, htr, hto, hts⟩
      · skip
        simp -dsimp (disch:=omega) only[go_sem,swr, otr, w9, w9r, o9, o9r, j5, ps_under n9r n9, ps_in hro]
        repeat' first |refine s1 ?_|refine gS ?_|refine wT rfl ?_|refine wF rfl ?_|(refine wC rfl (fun h=>?_) (fun h=>?_)<;>(try contradiction))|((first|refine rd ?_|refine ry [] c0 fun nu _ _=>?_);simp -dsimp (disch:=omega) only[go_sem,swr, otr, w9, w9r, o9, o9r, j5, ps_under n9r n9, ps_in hro])|refine e0 (by decide) ?_|(refine And.intro ?_ ?_;omega)|refine And.intro (of_eq_true PutAt_put) ?_|refine And.intro (show PutSome _ _ by simp only[PutSome_self,PutSome_put,PutSome_same,swr, otr, w9, w9r, o9, o9r, j5, ps_under n9r n9, ps_in hro]) ?_|refine gT ?_|refine gF ?_|(refine gI (fun h=>?_) (fun h=>?_)<;>(try contradiction)<;>(try refine rd ?_)<;>(try simp -dsimp (disch:=omega) only[go_sem,h,swr, otr, w9, w9r, o9, o9r, j5, ps_under n9r n9, ps_in hro]))|refine Exists.intro _ (Exists.intro _ (And.intro (And.intro rfl rfl) ?_)) |refine uw (hit1 _) ?_ |fail
        refine ⟨⟨g', p7, .tip (nu 9), rows' ++ [gpt], τ'.put (nu 9) (.tip (rows' ++ [gpt]).length 215 1)⟩, by simp, ⟨hl7, j2, by simp at j3 ⊢; omega, fun h0 => by have := hgo h0 rfl; simp only at this ⊢; omega, by simp only [rowsOk_append, j5]; rfl, keep_new j6 (none_of j6 e9'), .inr (.inr ⟨(nu 9), rfl, put_same _ _ _, n9r, n9, none_of j6 e9'⟩)⟩, Env.Sub_of_has (by simp [Env.Has, Env.get]), by simp only [pO, List.nil_append]; exact Store.Sub.refl _⟩
      · skip
        simp -dsimp (disch:=omega) only[go_sem,swr, otr, w9, w9r, o9, o9r, j5, ps_under n9r n9, ps_in hro]
        repeat' first |refine s1 ?_|refine gS ?_|refine wT rfl ?_|refine wF rfl ?_|(refine wC rfl (fun h=>?_) (fun h=>?_)<;>(try contradiction))|((first|refine rd ?_|refine ry [] c0 fun nu _ _=>?_);simp -dsimp (disch:=omega) only[go_sem,swr, otr, w9, w9r, o9, o9r, j5, ps_under n9r n9, ps_in hro])|refine e0 (by decide) ?_|(refine And.intro ?_ ?_;omega)|refine And.intro (of_eq_true PutAt_put) ?_|refine And.intro (show PutSome _ _ by simp only[PutSome_self,PutSome_put,PutSome_same,swr, otr, w9, w9r, o9, o9r, j5, ps_under n9r n9, ps_in hro]) ?_|refine gT ?_|refine gF ?_|(refine gI (fun h=>?_) (fun h=>?_)<;>(try contradiction)<;>(try refine rd ?_)<;>(try simp -dsimp (disch:=omega) only[go_sem,h,swr, otr, w9, w9r, o9, o9r, j5, ps_under n9r n9, ps_in hro]))|refine Exists.intro _ (Exists.intro _ (And.intro (And.intro rfl rfl) ?_)) |refine uw (hit1 _) ?_ |fail
        refine ⟨⟨g', p7, .tip (nu 9), [] ++ [gpt], τ'.put (nu 9) (.tip ([] ++ [gpt]).length 215 1)⟩, by simp, ⟨hl7, j2, by simp at j3 ⊢; omega, fun h0 => by have := hgo h0 rfl; simp only at this ⊢; omega, by simp only [rowsOk_append, j5]; rfl, keep_new j6 (none_of j6 e9'), .inr (.inr ⟨(nu 9), rfl, put_same _ _ _, n9r, n9, none_of j6 e9'⟩)⟩, Env.Sub_of_has (by simp [Env.Has, Env.get]), by simp only [pO, List.nil_append]; exact Store.Sub.refl _⟩
      · have wt := put_swap hto
        have wtr := put_swap htr
        have ott := put_oth hto
        have ottr := put_oth htr
        simp -dsimp (disch:=omega) only[go_sem,swr, otr, wt, wtr, ott, ottr, ht, j5, ps_under htr hto, ps_in hro]
        repeat' first |refine s1 ?_|refine gS ?_|refine wT rfl ?_|refine wF rfl ?_|(refine wC rfl (fun h=>?_) (fun h=>?_)<;>(try contradiction))|((first|refine rd ?_|refine ry [] c0 fun nu _ _=>?_);simp -dsimp (disch:=omega) only[go_sem,swr, otr, wt, wtr, ott, ottr, ht, j5, ps_under htr hto, ps_in hro])|refine e0 (by decide) ?_|(refine And.intro ?_ ?_;omega)|refine And.intro (of_eq_true PutAt_put) ?_|refine And.intro (show PutSome _ _ by simp only[PutSome_self,PutSome_put,PutSome_same,swr, otr, wt, wtr, ott, ottr, ht, j5, ps_under htr hto, ps_in hro]) ?_|refine gT ?_|refine gF ?_|(refine gI (fun h=>?_) (fun h=>?_)<;>(try contradiction)<;>(try refine rd ?_)<;>(try simp -dsimp (disch:=omega) only[go_sem,h,swr, otr, wt, wtr, ott, ottr, ht, j5, ps_under htr hto, ps_in hro]))|refine Exists.intro _ (Exists.intro _ (And.intro (And.intro rfl rfl) ?_)) |refine uw (hit1 _) ?_ |fail
        refine ⟨⟨g', p7, .tip t, rows' ++ [gpt], τ'.put t (.tip (rows' ++ [gpt]).length 215 1)⟩, by simp, ⟨hl7, j2, by simp at j3 ⊢; omega, fun h0 => by have := hgo h0 rfl; simp only at this ⊢; omega, by simp only [rowsOk_append, j5]; rfl, keep_new j6 hts, .inr (.inr ⟨t, rfl, put_same _ _ _, htr, hto, hts⟩)⟩, Env.Sub_of_has (by simp [Env.Has, Env.get]), by simp only [pO, List.nil_append]; exact Store.Sub.refl _⟩
    | false =>
      rw [hbz] at hb
      rw [if_neg (by rw [hbz]; simp)] at j2
      repeat' first |((fail_if_success (first|show W _ _ (Code.seq (Code.region 8 _ _) _) _ _ _|show W _ _ (Code.seq (Code.seq (Code.region 8 _ _) _) _) _ _ _));refine s1 ?_)|refine gS ?_|refine wT rfl ?_|refine wF rfl ?_|(refine wC rfl (fun h=>?_) (fun h=>?_)<;>(try contradiction))|((fail_if_success (first|show W _ _ (Code.region 8 _ _) _ _ _));(first|refine rd ?_|refine ry [] c0 fun nu _ _=>?_);simp -dsimp (disch:=omega) only[go_sem])|refine e0 (by decide) ?_|(refine And.intro ?_ ?_;omega)|refine And.intro (of_eq_true PutAt_put) ?_|refine gT ?_|refine gF ?_|(refine gI (fun h=>?_) (fun h=>?_)<;>(try contradiction)<;>(try refine rd ?_)<;>(try simp -dsimp (disch:=omega) only[go_sem,h]))|refine Exists.intro _ (Exists.intro _ (And.intro (And.intro rfl rfl) ?_)) |refine uw (hpk _) ?_ |refine us (hb) ?_ |fail
      have hr2 : rowB (B s) ch ((B s).length + 2) p5 = ⟨a, 0⟩ := j2.symm
      have tk := take_spec s hs ⟨a, 0⟩ hsk 124 o
      have hl8 := (take_mono (B s) 124).len ⟨a, 0⟩ hsk
      have hte := fun h => take_err (B s) (c := 124) (p := ⟨a, 0⟩) h
      have hrm := (row_mono (B s) hmo ((B s).length + 2)).le p5 i1
      obtain ⟨b8, p8, hp8⟩ : ∃ b8 p8, takeB (B s) 124 ⟨a, 0⟩ = (b8, p8) := ⟨_, _, rfl⟩
      rw [hr2] at hrm
      simp only [hp8] at tk hl8 hte hrm
      have k5 : ∀ c y, σ c = some y → τ1 c = some y := by rw [← hτ1]; exact keep_new i6 hq
      have k6 : ∀ c y, σ c = some y → τ' c = some y := fun c y h => j6 c y (k5 c y h)
      obtain ⟨R, hR⟩ : ∃ x, nodeO 1 false .nil [] k' rows' = x := ⟨_, rfl⟩
      have k7 : ∀ c y, σ c = some y → (τ'.put r R) c = some y := keep_new k6 (none_of k5 hr)
      simp only [nodeO] at hR
      rw [hR]
      rw [← hN] at hq1
      simp only [nodeO] at hq1
      rcases i7 with rfl | ⟨rfl, rfl⟩ | ⟨t, rfl, ht, htq, hto, hts⟩
      · skip
        repeat' first |((fail_if_success (first|show W _ _ (Code.seq (Code.region 9 _ _) _) _ _ _|show W _ _ (Code.seq (Code.seq (Code.region 9 _ _) _) _) _ _ _));refine s1 ?_)|refine gS ?_|refine wT rfl ?_|refine wF rfl ?_|(refine wC rfl (fun h=>?_) (fun h=>?_)<;>(try contradiction))|((fail_if_success (first|show W _ _ (Code.region 9 _ _) _ _ _));(first|refine rd ?_|refine ry [] c0 fun nu _ _=>?_);simp -dsimp (disch:=omega) only[go_sem,ot, otq, hq1, i5])|refine e0 (by decide) ?_|(refine And.intro ?_ ?_;omega)|refine And.intro (of_eq_true PutAt_put) ?_|refine gT ?_|refine gF ?_|(refine gI (fun h=>?_) (fun h=>?_)<;>(try contradiction)<;>(try refine rd ?_)<;>(try simp -dsimp (disch:=omega) only[go_sem,h,ot, otq, hq1, i5]))|refine Exists.intro _ (Exists.intro _ (And.intro (And.intro rfl rfl) ?_)) |fail
        intro c hc
        have hco := alloc_ne hc
        rw [put_oth hco] at hc
        have hcr := alloc_ne hc
        rw [put_oth hcr] at hc
        have hqc : q ≠ c := fun e => by rw [← e, hq1] at hc; cases hc
        have hcσ := none_of k6 hc
        have hcq : c ≠ q := fun e => hqc e.symm
        have k8 := keep_new (x := .tip (rows ++ [AV.ptr r 0 0]).length 215 1) k7 hcσ
        cases b8 with
        | true =>
          have haf : altB (B s) ch f p8 = altB (B s) ch (f + 1) p5 := by simp only [altB, hr2, hp8, if_true]
          simp -dsimp (disch:=omega) only[go_sem,sw, ot, otq, hq1, i5, put_swap hco, put_oth hqc]
          repeat' first |refine s1 ?_|refine gS ?_|refine wT rfl ?_|refine wF rfl ?_|(refine wC rfl (fun h=>?_) (fun h=>?_)<;>(try contradiction))|((first|refine rd ?_|refine ry [] c0 fun nu _ _=>?_);simp -dsimp (disch:=omega) only[go_sem,sw, ot, otq, hq1, i5, put_swap hco, put_oth hqc])|refine e0 (by decide) ?_|(refine And.intro ?_ ?_;omega)|refine And.intro (of_eq_true PutAt_put) ?_|refine gT ?_|refine gF ?_|(refine gI (fun h=>?_) (fun h=>?_)<;>(try contradiction)<;>(try refine rd ?_)<;>(try simp -dsimp (disch:=omega) only[go_sem,h,sw, ot, otq, hq1, i5, put_swap hco, put_oth hqc]))|refine Exists.intro _ (Exists.intro _ (And.intro (And.intro rfl rfl) ?_)) |refine uw (tk _) ?_ |fail
          refine ⟨⟨f, p8, .tip c, rows ++ [.ptr r 0 0], (τ'.put r R).put c (.tip (rows ++ [AV.ptr r 0 0]).length 215 1)⟩, by simp, ⟨hl8, by first | exact haf | exact haf.trans i2, by simp at i3 ⊢; omega, by have := (hte rfl).2.2; simp only at this hrm ⊢; omega, by simp only [rowsOk_append, i5]; rfl, k8, .inr (.inr ⟨c, rfl, put_same _ _ _, hcq, hco, hcσ⟩)⟩, Env.Sub_of_has (by simp [Env.Has, Env.get]), by simp only [pO, nodeO, List.nil_append]; exact Store.Sub.refl _⟩
        | false =>
          have haf : altB (B s) ch (f + 1) p5 = p8 := by simp only [altB, hr2, hp8, Bool.false_eq_true, if_false]
          rw [haf]
          simp -dsimp (disch:=omega) only[go_sem,sw, ot, otq, hq1, i5, put_swap hco, put_oth hqc]
          repeat' first |refine s1 ?_|refine gS ?_|refine wT rfl ?_|refine wF rfl ?_|(refine wC rfl (fun h=>?_) (fun h=>?_)<;>(try contradiction))|((first|refine rd ?_|refine ry [] c0 fun nu _ _=>?_);simp -dsimp (disch:=omega) only[go_sem,sw, ot, otq, hq1, i5, put_swap hco, put_oth hqc])|refine e0 (by decide) ?_|(refine And.intro ?_ ?_;omega)|refine And.intro (of_eq_true PutAt_put) ?_|refine gT ?_|refine gF ?_|(refine gI (fun h=>?_) (fun h=>?_)<;>(try contradiction)<;>(try refine rd ?_)<;>(try simp -dsimp (disch:=omega) only[go_sem,h,sw, ot, otq, hq1, i5, put_swap hco, put_oth hqc]))|refine Exists.intro _ (Exists.intro _ (And.intro (And.intro rfl rfl) ?_)) |refine uw (tk _) ?_ |fail
          all_goals exact Sub_in k8 hq
      · skip
        repeat' first |((fail_if_success (first|show W _ _ (Code.seq (Code.region 9 _ _) _) _ _ _|show W _ _ (Code.seq (Code.seq (Code.region 9 _ _) _) _) _ _ _));refine s1 ?_)|refine gS ?_|refine wT rfl ?_|refine wF rfl ?_|(refine wC rfl (fun h=>?_) (fun h=>?_)<;>(try contradiction))|((fail_if_success (first|show W _ _ (Code.region 9 _ _) _ _ _));(first|refine rd ?_|refine ry [] c0 fun nu _ _=>?_);simp -dsimp (disch:=omega) only[go_sem,ot, otq, hq1, i5])|refine e0 (by decide) ?_|(refine And.intro ?_ ?_;omega)|refine And.intro (of_eq_true PutAt_put) ?_|refine gT ?_|refine gF ?_|(refine gI (fun h=>?_) (fun h=>?_)<;>(try contradiction)<;>(try refine rd ?_)<;>(try simp -dsimp (disch:=omega) only[go_sem,h,ot, otq, hq1, i5]))|refine Exists.intro _ (Exists.intro _ (And.intro (And.intro rfl rfl) ?_)) |fail
        intro c hc
        have hco := alloc_ne hc
        rw [put_oth hco] at hc
        have hcr := alloc_ne hc
        rw [put_oth hcr] at hc
        have hqc : q ≠ c := fun e => by rw [← e, hq1] at hc; cases hc
        have hcσ := none_of k6 hc
        have hcq : c ≠ q := fun e => hqc e.symm
        have k8 := keep_new (x := .tip ([] ++ [AV.ptr r 0 0]).length 215 1) k7 hcσ
        cases b8 with
        | true =>
          have haf : altB (B s) ch f p8 = altB (B s) ch (f + 1) p5 := by simp only [altB, hr2, hp8, if_true]
          simp -dsimp (disch:=omega) only[go_sem,sw, ot, otq, hq1, i5, put_swap hco, put_oth hqc]
          repeat' first |refine s1 ?_|refine gS ?_|refine wT rfl ?_|refine wF rfl ?_|(refine wC rfl (fun h=>?_) (fun h=>?_)<;>(try contradiction))|((first|refine rd ?_|refine ry [] c0 fun nu _ _=>?_);simp -dsimp (disch:=omega) only[go_sem,sw, ot, otq, hq1, i5, put_swap hco, put_oth hqc])|refine e0 (by decide) ?_|(refine And.intro ?_ ?_;omega)|refine And.intro (of_eq_true PutAt_put) ?_|refine gT ?_|refine gF ?_|(refine gI (fun h=>?_) (fun h=>?_)<;>(try contradiction)<;>(try refine rd ?_)<;>(try simp -dsimp (disch:=omega) only[go_sem,h,sw, ot, otq, hq1, i5, put_swap hco, put_oth hqc]))|refine Exists.intro _ (Exists.intro _ (And.intro (And.intro rfl rfl) ?_)) |refine uw (tk _) ?_ |fail
          refine ⟨⟨f, p8, .tip c, [] ++ [.ptr r 0 0], (τ'.put r R).put c (.tip ([] ++ [AV.ptr r 0 0]).length 215 1)⟩, by simp, ⟨hl8, by first | exact haf | exact haf.trans i2, by simp at i3 ⊢; omega, by have := (hte rfl).2.2; simp only at this hrm ⊢; omega, by simp only [rowsOk_append, i5]; rfl, k8, .inr (.inr ⟨c, rfl, put_same _ _ _, hcq, hco, hcσ⟩)⟩, Env.Sub_of_has (by simp [Env.Has, Env.get]), by simp only [pO, nodeO, List.nil_append]; exact Store.Sub.refl _⟩
        | false =>
          have haf : altB (B s) ch (f + 1) p5 = p8 := by simp only [altB, hr2, hp8, Bool.false_eq_true, if_false]
          rw [haf]
          simp -dsimp (disch:=omega) only[go_sem,sw, ot, otq, hq1, i5, put_swap hco, put_oth hqc]
          repeat' first |refine s1 ?_|refine gS ?_|refine wT rfl ?_|refine wF rfl ?_|(refine wC rfl (fun h=>?_) (fun h=>?_)<;>(try contradiction))|((first|refine rd ?_|refine ry [] c0 fun nu _ _=>?_);simp -dsimp (disch:=omega) only[go_sem,sw, ot, otq, hq1, i5, put_swap hco, put_oth hqc])|refine e0 (by decide) ?_|(refine And.intro ?_ ?_;omega)|refine And.intro (of_eq_true PutAt_put) ?_|refine gT ?_|refine gF ?_|(refine gI (fun h=>?_) (fun h=>?_)<;>(try contradiction)<;>(try refine rd ?_)<;>(try simp -dsimp (disch:=omega) only[go_sem,h,sw, ot, otq, hq1, i5, put_swap hco, put_oth hqc]))|refine Exists.intro _ (Exists.intro _ (And.intro (And.intro rfl rfl) ?_)) |refine uw (tk _) ?_ |fail
          all_goals exact Sub_in k8 hq
      · have ht1 : τ1 t = some (.tip rows.length 215 1) := by rw [← hτ1, put_oth htq]; exact ht
        have htr : t ≠ r := fun e => by rw [e, hr] at ht1; cases ht1
        have ht2 := j6 _ _ ht1
        have hqt : q ≠ t := fun e => htq e.symm
        have hcσ := hts
        have hcq := htq
        have hco := hto
        have k8 := keep_new (x := .tip (rows ++ [AV.ptr r 0 0]).length 215 1) k7 hcσ
        cases b8 with
        | true =>
          have haf : altB (B s) ch f p8 = altB (B s) ch (f + 1) p5 := by simp only [altB, hr2, hp8, if_true]
          repeat' first |refine s1 ?_|refine gS ?_|refine wT rfl ?_|refine wF rfl ?_|(refine wC rfl (fun h=>?_) (fun h=>?_)<;>(try contradiction))|((first|refine rd ?_|refine ry [] c0 fun nu _ _=>?_);simp -dsimp (disch:=omega) only[go_sem,sw, ot, otq, hq1, i5, put_swap hto, put_oth hto, put_oth htr, ht2, put_oth hqt])|refine e0 (by decide) ?_|(refine And.intro ?_ ?_;omega)|refine And.intro (of_eq_true PutAt_put) ?_|refine gT ?_|refine gF ?_|(refine gI (fun h=>?_) (fun h=>?_)<;>(try contradiction)<;>(try refine rd ?_)<;>(try simp -dsimp (disch:=omega) only[go_sem,h,sw, ot, otq, hq1, i5, put_swap hto, put_oth hto, put_oth htr, ht2, put_oth hqt]))|refine Exists.intro _ (Exists.intro _ (And.intro (And.intro rfl rfl) ?_)) |refine uw (tk _) ?_ |fail
          refine ⟨⟨f, p8, .tip t, rows ++ [.ptr r 0 0], (τ'.put r R).put t (.tip (rows ++ [AV.ptr r 0 0]).length 215 1)⟩, by simp, ⟨hl8, by first | exact haf | exact haf.trans i2, by simp at i3 ⊢; omega, by have := (hte rfl).2.2; simp only at this hrm ⊢; omega, by simp only [rowsOk_append, i5]; rfl, k8, .inr (.inr ⟨t, rfl, put_same _ _ _, hcq, hco, hcσ⟩)⟩, Env.Sub_of_has (by simp [Env.Has, Env.get]), by simp only [pO, nodeO, List.nil_append]; exact Store.Sub.refl _⟩
        | false =>
          have haf : altB (B s) ch (f + 1) p5 = p8 := by simp only [altB, hr2, hp8, Bool.false_eq_true, if_false]
          rw [haf]
          repeat' first |refine s1 ?_|refine gS ?_|refine wT rfl ?_|refine wF rfl ?_|(refine wC rfl (fun h=>?_) (fun h=>?_)<;>(try contradiction))|((first|refine rd ?_|refine ry [] c0 fun nu _ _=>?_);simp -dsimp (disch:=omega) only[go_sem,sw, ot, otq, hq1, i5, put_swap hto, put_oth hto, put_oth htr, ht2, put_oth hqt])|refine e0 (by decide) ?_|(refine And.intro ?_ ?_;omega)|refine And.intro (of_eq_true PutAt_put) ?_|refine gT ?_|refine gF ?_|(refine gI (fun h=>?_) (fun h=>?_)<;>(try contradiction)<;>(try refine rd ?_)<;>(try simp -dsimp (disch:=omega) only[go_sem,h,sw, ot, otq, hq1, i5, put_swap hto, put_oth hto, put_oth htr, ht2, put_oth hqt]))|refine Exists.intro _ (Exists.intro _ (And.intro (And.intro rfl rfl) ?_)) |refine uw (tk _) ?_ |fail
          all_goals exact Sub_in k8 hq
  · have hz : rowB (B s) ch g ⟨at6, r6⟩ = ⟨at6, r6⟩ := by
      cases g with
      | zero => rfl
      | succ n => rw [rowB, if_neg he]
    rw [hz] at j2
    simp only [nodeO]
    repeat' first |((fail_if_success (first|show W _ _ (Code.seq (Code.region 8 _ _) _) _ _ _|show W _ _ (Code.seq (Code.seq (Code.region 8 _ _) _) _) _ _ _));refine s1 ?_)|refine gS ?_|refine wT rfl ?_|refine wF rfl ?_|(refine wC rfl (fun h=>?_) (fun h=>?_)<;>(try contradiction))|((fail_if_success (first|show W _ _ (Code.region 8 _ _) _ _ _));(first|refine rd ?_|refine ry [] c0 fun nu _ _=>?_);simp -dsimp (disch:=omega) only[go_sem,he])|refine e0 (by decide) ?_|(refine And.intro ?_ ?_;omega)|refine And.intro (of_eq_true PutAt_put) ?_|refine gT ?_|refine gF ?_|(refine gI (fun h=>?_) (fun h=>?_)<;>(try contradiction)<;>(try refine rd ?_)<;>(try simp -dsimp (disch:=omega) only[go_sem,h,he]))|refine Exists.intro _ (Exists.intro _ (And.intro (And.intro rfl rfl) ?_)) |fail
    have hr2 : rowB (B s) ch ((B s).length + 2) p5 = ⟨at6, r6⟩ := j2.symm
    have tk := take_spec s hs ⟨at6, r6⟩ j1 124 o
    have hl8 := (take_mono (B s) 124).len ⟨at6, r6⟩ j1
    have hte := fun h => take_err (B s) (c := 124) (p := ⟨at6, r6⟩) h
    have hrm := (row_mono (B s) hmo ((B s).length + 2)).le p5 i1
    obtain ⟨b8, p8, hp8⟩ : ∃ b8 p8, takeB (B s) 124 ⟨at6, r6⟩ = (b8, p8) := ⟨_, _, rfl⟩
    rw [hr2] at hrm
    simp only [hp8] at tk hl8 hte hrm
    have k5 : ∀ c y, σ c = some y → τ1 c = some y := by rw [← hτ1]; exact keep_new i6 hq
    have k6 : ∀ c y, σ c = some y → τ' c = some y := fun c y h => j6 c y (k5 c y h)
    obtain ⟨R, hR⟩ : ∃ x, nodeO 1 false .nil [] k' rows' = x := ⟨_, rfl⟩
    have k7 : ∀ c y, σ c = some y → (τ'.put r R) c = some y := keep_new k6 (none_of k5 hr)
    simp only [nodeO] at hR
    rw [hR]
    rw [← hN] at hq1
    simp only [nodeO] at hq1
    rcases i7 with rfl | ⟨rfl, rfl⟩ | ⟨t, rfl, ht, htq, hto, hts⟩
    · skip
      repeat' first |((fail_if_success (first|show W _ _ (Code.seq (Code.region 9 _ _) _) _ _ _|show W _ _ (Code.seq (Code.seq (Code.region 9 _ _) _) _) _ _ _));refine s1 ?_)|refine gS ?_|refine wT rfl ?_|refine wF rfl ?_|(refine wC rfl (fun h=>?_) (fun h=>?_)<;>(try contradiction))|((fail_if_success (first|show W _ _ (Code.region 9 _ _) _ _ _));(first|refine rd ?_|refine ry [] c0 fun nu _ _=>?_);simp -dsimp (disch:=omega) only[go_sem,ot, otq, hq1, i5])|refine e0 (by decide) ?_|(refine And.intro ?_ ?_;omega)|refine And.intro (of_eq_true PutAt_put) ?_|refine gT ?_|refine gF ?_|(refine gI (fun h=>?_) (fun h=>?_)<;>(try contradiction)<;>(try refine rd ?_)<;>(try simp -dsimp (disch:=omega) only[go_sem,h,ot, otq, hq1, i5]))|refine Exists.intro _ (Exists.intro _ (And.intro (And.intro rfl rfl) ?_)) |fail
      intro c hc
      have hco := alloc_ne hc
      rw [put_oth hco] at hc
      have hcr := alloc_ne hc
      rw [put_oth hcr] at hc
      have hqc : q ≠ c := fun e => by rw [← e, hq1] at hc; cases hc
      have hcσ := none_of k6 hc
      have hcq : c ≠ q := fun e => hqc e.symm
      have k8 := keep_new (x := .tip (rows ++ [AV.ptr r 0 0]).length 215 1) k7 hcσ
      cases b8 with
      | true =>
        have haf : altB (B s) ch f p8 = altB (B s) ch (f + 1) p5 := by simp only [altB, hr2, hp8, if_true]
        simp -dsimp (disch:=omega) only[go_sem,sw, ot, otq, hq1, i5, put_swap hco, put_oth hqc]
        repeat' first |refine s1 ?_|refine gS ?_|refine wT rfl ?_|refine wF rfl ?_|(refine wC rfl (fun h=>?_) (fun h=>?_)<;>(try contradiction))|((first|refine rd ?_|refine ry [] c0 fun nu _ _=>?_);simp -dsimp (disch:=omega) only[go_sem,sw, ot, otq, hq1, i5, put_swap hco, put_oth hqc])|refine e0 (by decide) ?_|(refine And.intro ?_ ?_;omega)|refine And.intro (of_eq_true PutAt_put) ?_|refine gT ?_|refine gF ?_|(refine gI (fun h=>?_) (fun h=>?_)<;>(try contradiction)<;>(try refine rd ?_)<;>(try simp -dsimp (disch:=omega) only[go_sem,h,sw, ot, otq, hq1, i5, put_swap hco, put_oth hqc]))|refine Exists.intro _ (Exists.intro _ (And.intro (And.intro rfl rfl) ?_)) |refine uw (tk _) ?_ |fail
        refine ⟨⟨f, p8, .tip c, rows ++ [.ptr r 0 0], (τ'.put r R).put c (.tip (rows ++ [AV.ptr r 0 0]).length 215 1)⟩, by simp, ⟨hl8, by first | exact haf | exact haf.trans i2, by simp at i3 ⊢; omega, by have := (hte rfl).2.2; simp only at this hrm ⊢; omega, by simp only [rowsOk_append, i5]; rfl, k8, .inr (.inr ⟨c, rfl, put_same _ _ _, hcq, hco, hcσ⟩)⟩, Env.Sub_of_has (by simp [Env.Has, Env.get]), by simp only [pO, nodeO, List.nil_append]; exact Store.Sub.refl _⟩
      | false =>
        have haf : altB (B s) ch (f + 1) p5 = p8 := by simp only [altB, hr2, hp8, Bool.false_eq_true, if_false]
        rw [haf]
        simp -dsimp (disch:=omega) only[go_sem,sw, ot, otq, hq1, i5, put_swap hco, put_oth hqc]
        repeat' first |refine s1 ?_|refine gS ?_|refine wT rfl ?_|refine wF rfl ?_|(refine wC rfl (fun h=>?_) (fun h=>?_)<;>(try contradiction))|((first|refine rd ?_|refine ry [] c0 fun nu _ _=>?_);simp -dsimp (disch:=omega) only[go_sem,sw, ot, otq, hq1, i5, put_swap hco, put_oth hqc])|refine e0 (by decide) ?_|(refine And.intro ?_ ?_;omega)|refine And.intro (of_eq_true PutAt_put) ?_|refine gT ?_|refine gF ?_|(refine gI (fun h=>?_) (fun h=>?_)<;>(try contradiction)<;>(try refine rd ?_)<;>(try simp -dsimp (disch:=omega) only[go_sem,h,sw, ot, otq, hq1, i5, put_swap hco, put_oth hqc]))|refine Exists.intro _ (Exists.intro _ (And.intro (And.intro rfl rfl) ?_)) |refine uw (tk _) ?_ |fail
        all_goals exact Sub_in k8 hq
    · skip
      repeat' first |((fail_if_success (first|show W _ _ (Code.seq (Code.region 9 _ _) _) _ _ _|show W _ _ (Code.seq (Code.seq (Code.region 9 _ _) _) _) _ _ _));refine s1 ?_)|refine gS ?_|refine wT rfl ?_|refine wF rfl ?_|(refine wC rfl (fun h=>?_) (fun h=>?_)<;>(try contradiction))|((fail_if_success (first|show W _ _ (Code.region 9 _ _) _ _ _));(first|refine rd ?_|refine ry [] c0 fun nu _ _=>?_);simp -dsimp (disch:=omega) only[go_sem,ot, otq, hq1, i5])|refine e0 (by decide) ?_|(refine And.intro ?_ ?_;omega)|refine And.intro (of_eq_true PutAt_put) ?_|refine gT ?_|refine gF ?_|(refine gI (fun h=>?_) (fun h=>?_)<;>(try contradiction)<;>(try refine rd ?_)<;>(try simp -dsimp (disch:=omega) only[go_sem,h,ot, otq, hq1, i5]))|refine Exists.intro _ (Exists.intro _ (And.intro (And.intro rfl rfl) ?_)) |fail
      intro c hc
      have hco := alloc_ne hc
      rw [put_oth hco] at hc
      have hcr := alloc_ne hc
      rw [put_oth hcr] at hc
      have hqc : q ≠ c := fun e => by rw [← e, hq1] at hc; cases hc
      have hcσ := none_of k6 hc
      have hcq : c ≠ q := fun e => hqc e.symm
      have k8 := keep_new (x := .tip ([] ++ [AV.ptr r 0 0]).length 215 1) k7 hcσ
      cases b8 with
      | true =>
        have haf : altB (B s) ch f p8 = altB (B s) ch (f + 1) p5 := by simp only [altB, hr2, hp8, if_true]
        simp -dsimp (disch:=omega) only[go_sem,sw, ot, otq, hq1, i5, put_swap hco, put_oth hqc]
        repeat' first |refine s1 ?_|refine gS ?_|refine wT rfl ?_|refine wF rfl ?_|(refine wC rfl (fun h=>?_) (fun h=>?_)<;>(try contradiction))|((first|refine rd ?_|refine ry [] c0 fun nu _ _=>?_);simp -dsimp (disch:=omega) only[go_sem,sw, ot, otq, hq1, i5, put_swap hco, put_oth hqc])|refine e0 (by decide) ?_|(refine And.intro ?_ ?_;omega)|refine And.intro (of_eq_true PutAt_put) ?_|refine gT ?_|refine gF ?_|(refine gI (fun h=>?_) (fun h=>?_)<;>(try contradiction)<;>(try refine rd ?_)<;>(try simp -dsimp (disch:=omega) only[go_sem,h,sw, ot, otq, hq1, i5, put_swap hco, put_oth hqc]))|refine Exists.intro _ (Exists.intro _ (And.intro (And.intro rfl rfl) ?_)) |refine uw (tk _) ?_ |fail
        refine ⟨⟨f, p8, .tip c, [] ++ [.ptr r 0 0], (τ'.put r R).put c (.tip ([] ++ [AV.ptr r 0 0]).length 215 1)⟩, by simp, ⟨hl8, by first | exact haf | exact haf.trans i2, by simp at i3 ⊢; omega, by have := (hte rfl).2.2; simp only at this hrm ⊢; omega, by simp only [rowsOk_append, i5]; rfl, k8, .inr (.inr ⟨c, rfl, put_same _ _ _, hcq, hco, hcσ⟩)⟩, Env.Sub_of_has (by simp [Env.Has, Env.get]), by simp only [pO, nodeO, List.nil_append]; exact Store.Sub.refl _⟩
      | false =>
        have haf : altB (B s) ch (f + 1) p5 = p8 := by simp only [altB, hr2, hp8, Bool.false_eq_true, if_false]
        rw [haf]
        simp -dsimp (disch:=omega) only[go_sem,sw, ot, otq, hq1, i5, put_swap hco, put_oth hqc]
        repeat' first |refine s1 ?_|refine gS ?_|refine wT rfl ?_|refine wF rfl ?_|(refine wC rfl (fun h=>?_) (fun h=>?_)<;>(try contradiction))|((first|refine rd ?_|refine ry [] c0 fun nu _ _=>?_);simp -dsimp (disch:=omega) only[go_sem,sw, ot, otq, hq1, i5, put_swap hco, put_oth hqc])|refine e0 (by decide) ?_|(refine And.intro ?_ ?_;omega)|refine And.intro (of_eq_true PutAt_put) ?_|refine gT ?_|refine gF ?_|(refine gI (fun h=>?_) (fun h=>?_)<;>(try contradiction)<;>(try refine rd ?_)<;>(try simp -dsimp (disch:=omega) only[go_sem,h,sw, ot, otq, hq1, i5, put_swap hco, put_oth hqc]))|refine Exists.intro _ (Exists.intro _ (And.intro (And.intro rfl rfl) ?_)) |refine uw (tk _) ?_ |fail
        all_goals exact Sub_in k8 hq
    · have ht1 : τ1 t = some (.tip rows.length 215 1) := by rw [← hτ1, put_oth htq]; exact ht
      have htr : t ≠ r := fun e => by rw [e, hr] at ht1; cases ht1
      have ht2 := j6 _ _ ht1
      have hqt : q ≠ t := fun e => htq e.symm
      have hcσ := hts
      have hcq := htq
      have hco := hto
      have k8 := keep_new (x := .tip (rows ++ [AV.ptr r 0 0]).length 215 1) k7 hcσ
      cases b8 with
      | true =>
        have haf : altB (B s) ch f p8 = altB (B s) ch (f + 1) p5 := by simp only [altB, hr2, hp8, if_true]
        repeat' first |refine s1 ?_|refine gS ?_|refine wT rfl ?_|refine wF rfl ?_|(refine wC rfl (fun h=>?_) (fun h=>?_)<;>(try contradiction))|((first|refine rd ?_|refine ry [] c0 fun nu _ _=>?_);simp -dsimp (disch:=omega) only[go_sem,sw, ot, otq, hq1, i5, put_swap hto, put_oth hto, put_oth htr, ht2, put_oth hqt])|refine e0 (by decide) ?_|(refine And.intro ?_ ?_;omega)|refine And.intro (of_eq_true PutAt_put) ?_|refine gT ?_|refine gF ?_|(refine gI (fun h=>?_) (fun h=>?_)<;>(try contradiction)<;>(try refine rd ?_)<;>(try simp -dsimp (disch:=omega) only[go_sem,h,sw, ot, otq, hq1, i5, put_swap hto, put_oth hto, put_oth htr, ht2, put_oth hqt]))|refine Exists.intro _ (Exists.intro _ (And.intro (And.intro rfl rfl) ?_)) |refine uw (tk _) ?_ |fail
        refine ⟨⟨f, p8, .tip t, rows ++ [.ptr r 0 0], (τ'.put r R).put t (.tip (rows ++ [AV.ptr r 0 0]).length 215 1)⟩, by simp, ⟨hl8, by first | exact haf | exact haf.trans i2, by simp at i3 ⊢; omega, by have := (hte rfl).2.2; simp only at this hrm ⊢; omega, by simp only [rowsOk_append, i5]; rfl, k8, .inr (.inr ⟨t, rfl, put_same _ _ _, hcq, hco, hcσ⟩)⟩, Env.Sub_of_has (by simp [Env.Has, Env.get]), by simp only [pO, nodeO, List.nil_append]; exact Store.Sub.refl _⟩
      | false =>
        have haf : altB (B s) ch (f + 1) p5 = p8 := by simp only [altB, hr2, hp8, Bool.false_eq_true, if_false]
        rw [haf]
        repeat' first |refine s1 ?_|refine gS ?_|refine wT rfl ?_|refine wF rfl ?_|(refine wC rfl (fun h=>?_) (fun h=>?_)<;>(try contradiction))|((first|refine rd ?_|refine ry [] c0 fun nu _ _=>?_);simp -dsimp (disch:=omega) only[go_sem,sw, ot, otq, hq1, i5, put_swap hto, put_oth hto, put_oth htr, ht2, put_oth hqt])|refine e0 (by decide) ?_|(refine And.intro ?_ ?_;omega)|refine And.intro (of_eq_true PutAt_put) ?_|refine gT ?_|refine gF ?_|(refine gI (fun h=>?_) (fun h=>?_)<;>(try contradiction)<;>(try refine rd ?_)<;>(try simp -dsimp (disch:=omega) only[go_sem,h,sw, ot, otq, hq1, i5, put_swap hto, put_oth hto, put_oth htr, ht2, put_oth hqt]))|refine Exists.intro _ (Exists.intro _ (And.intro (And.intro rfl rfl) ?_)) |refine uw (tk _) ?_ |fail
        all_goals exact Sub_in k8 hq
end
end Go.Proofs.YtaealcimocpnnaaGreat
namespace Go.Proofs.YtaealcimocpnnaaGreat
open Go.Kern
set_option maxRecDepth 100000
set_option maxHeartbeats 4000000
attribute [local irreducible] PCall W
attribute [local go_sem] pO
theorem choice_all (s : ByteArray) (hs : s.size ≤ 1000) : ∀ n, n ≤ 8 → ChS s n
  | 0, _ => choice_zero s hs
  | n + 1, h => choice_spec s hs n (by omega) (choice_all s hs n (by omega))
section
variable (s : ByteArray) (hs : s.size ≤ 1000)
include hs
theorem parse_spec (σ : Store) :
    PCall Tryz.prog 129 [.str s] σ (fun r t => (∃ x, r = .tup [x, .int .i64 (parseE (B s))]) ∧ t = σ) := by
  have hl := length_B s
  by_cases hlong : 64 < (B s).length
  · have hE : parseE (B s) = 2 := by rw [parseE, if_pos hlong]
    rw [hE]
    refine PCall_w [.tmp 2, .tmp 3] 64 Tryz.func129 (by rfl) rfl rfl rfl rfl ?_
    repeat' first |refine s1 ?_|refine gS ?_|refine wT rfl ?_|refine wF rfl ?_|refine wt rfl ?_|refine wf rfl ?_|(refine wC rfl (fun h=>?_) (fun h=>?_)<;>(try contradiction))|((first|refine rd ?_|refine ry [] c0 fun nu _ _=>?_);simp -dsimp (disch:=omega) only[go_sem])|refine e0 (by decide) ?_|(refine And.intro ?_ ?_;omega)|refine And.intro (of_eq_true PutAt_put) ?_|refine gT ?_|refine gF ?_|(refine gI (fun h=>?_) (fun h=>?_)<;>(try contradiction)<;>(try refine rd ?_)<;>(try simp -dsimp (disch:=omega) only[go_sem,h]))|refine Exists.intro _ (Exists.intro _ (And.intro (And.intro rfl rfl) ?_)) |fail
    exact ⟨_, Store.Sub.refl _, ⟨_, rfl⟩, rfl⟩
  · have h1 : ∀ o (σ : Store), _ := fun o σ => take_spec s hs ⟨0, 0⟩ (Nat.zero_le _) 94 o σ
    have hl1 := (take_mono (B s) 94).len ⟨0, 0⟩ (Nat.zero_le _)
    obtain ⟨b1, p1, hp1⟩ : ∃ b1 p1, takeB (B s) 94 ⟨0, 0⟩ = (b1, p1) := ⟨_, _, rfl⟩
    simp only [hp1] at h1 hl1
    have h2 := fun o => choice_all s hs 8 (Nat.le_refl _) p1 hl1 o
    have hl2 := (choice_mono (B s) 8).len p1 hl1
    obtain ⟨p2, hp2⟩ : ∃ x, choiceB (B s) 8 p1 = x := ⟨_, rfl⟩
    simp only [hp2] at h2 hl2
    have h3 := fun o => take_spec s hs p2 hl2 36 o
    have hl3 := (take_mono (B s) 36).len p2 hl2
    obtain ⟨b3, p3, hp3⟩ : ∃ b1 p1, takeB (B s) 36 p2 = (b1, p1) := ⟨_, _, rfl⟩
    simp only [hp3] at h3 hl3
    have h4 := fun o => peek_spec s hs p3 hl3 o
    have hE : parseE (B s) = if p3.e = 0 then (if skipB (B s) p3.at_ < (B s).length then 4 else 0) else p3.e := by
      rw [parseE, if_neg hlong]; simp only [hp1, hp2, hp3]
    have h89 : (9 - ((8 : Nat) : Int)) = 1 := by omega
    simp only [h89] at h2
    have h5 : ∀ (o : Nat) (q : PS) (σ : Store), PCall Tryz.prog 166 [.ptr o 0 0, .int .i64 4] (σ.put o (pO s q)) (fun r t => r = .tup [] ∧ t = σ.put o (pO s (failB 4 q))) := fun o q σ => fail_spec s q 4 o σ
    obtain ⟨a3, e3⟩ := p3
    simp only at hE h4 hl3
    have hsk := skipB_len (B s) hl3
    obtain ⟨a4, ha4⟩ : ∃ x, skipB (B s) a3 = x := ⟨_, rfl⟩
    simp only [ha4] at hE h4 hsk
    rw [hE]
    by_cases he : e3 = 0
    · subst he
      rw [if_pos rfl]
      by_cases hlt : a4 < (B s).length
      · rw [if_pos hlt]
        refine PCall_w [.tmp 2, .tmp 3] 64 Tryz.func129 (by rfl) rfl rfl rfl rfl ?_
        repeat' first |refine s1 ?_|refine gS ?_|refine wT rfl ?_|refine wF rfl ?_|refine wt rfl ?_|refine wf rfl ?_|(refine wC rfl (fun h=>?_) (fun h=>?_)<;>(try contradiction))|((first|refine s3 (mu:=[11,15]) ?_|refine rd ?_|refine ry [11,15] c0 fun nu _ _=>?_);simp -dsimp (disch:=omega) only[go_sem])|refine e0 (by decide) ?_|(refine And.intro ?_ ?_;omega)|refine And.intro (of_eq_true PutAt_put) ?_|refine gT ?_|refine gF ?_|(refine gI (fun h=>?_) (fun h=>?_)<;>(try contradiction)<;>(try refine rd ?_)<;>(try simp -dsimp (disch:=omega) only[go_sem,h]))|refine Exists.intro _ (Exists.intro _ (And.intro (And.intro rfl rfl) ?_)) |fail
        intro o ho
        repeat' first |refine s1 ?_|refine gS ?_|refine wT rfl ?_|refine wF rfl ?_|refine wt rfl ?_|refine wf rfl ?_|(refine wC rfl (fun h=>?_) (fun h=>?_)<;>(try contradiction))|((first|refine s3 (mu:=[11,15]) ?_|refine rd ?_|refine ry [11,15] c0 fun nu _ _=>?_);simp -dsimp (disch:=omega) only[go_sem])|refine e0 (by decide) ?_|(refine And.intro ?_ ?_;omega)|refine And.intro (of_eq_true PutAt_put) ?_|refine gT ?_|refine gF ?_|(refine gI (fun h=>?_) (fun h=>?_)<;>(try contradiction)<;>(try refine rd ?_)<;>(try simp -dsimp (disch:=omega) only[go_sem,h]))|refine Exists.intro _ (Exists.intro _ (And.intro (And.intro rfl rfl) ?_)) |refine uw (h1 o _) ?_ |fail
        intro x hx
        have hxo := alloc_ne hx
        rw [put_oth hxo] at hx
        have sw := put_swap hxo
        have ot := put_oth hxo
        simp only [sw]
        repeat' first |refine s1 ?_|refine gS ?_|refine wT rfl ?_|refine wF rfl ?_|refine wt rfl ?_|refine wf rfl ?_|(refine wC rfl (fun h=>?_) (fun h=>?_)<;>(try contradiction))|((first|refine rd ?_|refine ry (id:=10) [] (cq [3]) fun nu _ _=>?_|refine ry [] c0 fun nu _ _=>?_);simp -dsimp (disch:=omega) only[go_sem,sw, ot])|refine e0 (by decide) ?_|(refine And.intro ?_ ?_;omega)|refine And.intro (of_eq_true PutAt_put) ?_|refine gT ?_|refine gF ?_|(refine gI (fun h=>?_) (fun h=>?_)<;>(try contradiction)<;>(try refine rd ?_)<;>(try simp -dsimp (disch:=omega) only[go_sem,h,sw, ot]))|refine Exists.intro _ (Exists.intro _ (And.intro (And.intro rfl rfl) ?_)) |refine uw (h2 o _) ?_ |refine uw (h3 o _) ?_ |refine uw (h4 o _) ?_ |refine uw (h5 o ⟨a4, 0⟩ _) ?_ |fail
        all_goals exact ⟨_, keep_new (keep_new (fun _ _ h => h) hx) ho, ⟨_, rfl⟩, rfl⟩
      · rw [if_neg hlt]
        have hc0 : chr (B s) a4 = 0 := if_neg hlt
        refine PCall_w [.tmp 2, .tmp 3] 64 Tryz.func129 (by rfl) rfl rfl rfl rfl ?_
        repeat' first |refine s1 ?_|refine gS ?_|refine wT rfl ?_|refine wF rfl ?_|refine wt rfl ?_|refine wf rfl ?_|(refine wC rfl (fun h=>?_) (fun h=>?_)<;>(try contradiction))|((first|refine s3 (mu:=[11,15]) ?_|refine rd ?_|refine ry [11,15] c0 fun nu _ _=>?_);simp -dsimp (disch:=omega) only[go_sem])|refine e0 (by decide) ?_|(refine And.intro ?_ ?_;omega)|refine And.intro (of_eq_true PutAt_put) ?_|refine gT ?_|refine gF ?_|(refine gI (fun h=>?_) (fun h=>?_)<;>(try contradiction)<;>(try refine rd ?_)<;>(try simp -dsimp (disch:=omega) only[go_sem,h]))|refine Exists.intro _ (Exists.intro _ (And.intro (And.intro rfl rfl) ?_)) |fail
        intro o ho
        repeat' first |refine s1 ?_|refine gS ?_|refine wT rfl ?_|refine wF rfl ?_|refine wt rfl ?_|refine wf rfl ?_|(refine wC rfl (fun h=>?_) (fun h=>?_)<;>(try contradiction))|((first|refine s3 (mu:=[11,15]) ?_|refine rd ?_|refine ry [11,15] c0 fun nu _ _=>?_);simp -dsimp (disch:=omega) only[go_sem])|refine e0 (by decide) ?_|(refine And.intro ?_ ?_;omega)|refine And.intro (of_eq_true PutAt_put) ?_|refine gT ?_|refine gF ?_|(refine gI (fun h=>?_) (fun h=>?_)<;>(try contradiction)<;>(try refine rd ?_)<;>(try simp -dsimp (disch:=omega) only[go_sem,h]))|refine Exists.intro _ (Exists.intro _ (And.intro (And.intro rfl rfl) ?_)) |refine uw (h1 o _) ?_ |fail
        intro x hx
        have hxo := alloc_ne hx
        rw [put_oth hxo] at hx
        have sw := put_swap hxo
        have ot := put_oth hxo
        simp only [sw]
        repeat' first |refine s1 ?_|refine gS ?_|refine wT rfl ?_|refine wF rfl ?_|refine wt rfl ?_|refine wf rfl ?_|(refine wC rfl (fun h=>?_) (fun h=>?_)<;>(try contradiction))|((first|refine rd ?_|refine ry (id:=10) [] (cq [3]) fun nu _ _=>?_|refine ry [] c0 fun nu _ _=>?_);simp -dsimp (disch:=omega) only[go_sem,sw, ot, hc0])|refine e0 (by decide) ?_|(refine And.intro ?_ ?_;omega)|refine And.intro (of_eq_true PutAt_put) ?_|refine gT ?_|refine gF ?_|(refine gI (fun h=>?_) (fun h=>?_)<;>(try contradiction)<;>(try refine rd ?_)<;>(try simp -dsimp (disch:=omega) only[go_sem,h,sw, ot, hc0]))|refine Exists.intro _ (Exists.intro _ (And.intro (And.intro rfl rfl) ?_)) |refine uw (h2 o _) ?_ |refine uw (h3 o _) ?_ |refine uw (h4 o _) ?_ |refine uw (h5 o ⟨a4, 0⟩ _) ?_ |fail
        all_goals exact ⟨_, keep_new (keep_new (fun _ _ h => h) hx) ho, ⟨_, rfl⟩, rfl⟩
    · rw [if_neg he]
      refine PCall_w [.tmp 2, .tmp 3] 64 Tryz.func129 (by rfl) rfl rfl rfl rfl ?_
      repeat' first |refine s1 ?_|refine gS ?_|refine wT rfl ?_|refine wF rfl ?_|refine wt rfl ?_|refine wf rfl ?_|(refine wC rfl (fun h=>?_) (fun h=>?_)<;>(try contradiction))|((first|refine s3 (mu:=[11,15]) ?_|refine rd ?_|refine ry [11,15] c0 fun nu _ _=>?_);simp -dsimp (disch:=omega) only[go_sem])|refine e0 (by decide) ?_|(refine And.intro ?_ ?_;omega)|refine And.intro (of_eq_true PutAt_put) ?_|refine gT ?_|refine gF ?_|(refine gI (fun h=>?_) (fun h=>?_)<;>(try contradiction)<;>(try refine rd ?_)<;>(try simp -dsimp (disch:=omega) only[go_sem,h]))|refine Exists.intro _ (Exists.intro _ (And.intro (And.intro rfl rfl) ?_)) |fail
      intro o ho
      repeat' first |refine s1 ?_|refine gS ?_|refine wT rfl ?_|refine wF rfl ?_|refine wt rfl ?_|refine wf rfl ?_|(refine wC rfl (fun h=>?_) (fun h=>?_)<;>(try contradiction))|((first|refine s3 (mu:=[11,15]) ?_|refine rd ?_|refine ry [11,15] c0 fun nu _ _=>?_);simp -dsimp (disch:=omega) only[go_sem])|refine e0 (by decide) ?_|(refine And.intro ?_ ?_;omega)|refine And.intro (of_eq_true PutAt_put) ?_|refine gT ?_|refine gF ?_|(refine gI (fun h=>?_) (fun h=>?_)<;>(try contradiction)<;>(try refine rd ?_)<;>(try simp -dsimp (disch:=omega) only[go_sem,h]))|refine Exists.intro _ (Exists.intro _ (And.intro (And.intro rfl rfl) ?_)) |refine uw (h1 o _) ?_ |fail
      intro x hx
      have hxo := alloc_ne hx
      rw [put_oth hxo] at hx
      have sw := put_swap hxo
      have ot := put_oth hxo
      simp only [sw]
      repeat' first |refine s1 ?_|refine gS ?_|refine wT rfl ?_|refine wF rfl ?_|refine wt rfl ?_|refine wf rfl ?_|(refine wC rfl (fun h=>?_) (fun h=>?_)<;>(try contradiction))|((first|refine rd ?_|refine ry (id:=10) [] (cq [3]) fun nu _ _=>?_|refine ry [] c0 fun nu _ _=>?_);simp -dsimp (disch:=omega) only[go_sem,sw, ot, he])|refine e0 (by decide) ?_|(refine And.intro ?_ ?_;omega)|refine And.intro (of_eq_true PutAt_put) ?_|refine gT ?_|refine gF ?_|(refine gI (fun h=>?_) (fun h=>?_)<;>(try contradiction)<;>(try refine rd ?_)<;>(try simp -dsimp (disch:=omega) only[go_sem,h,sw, ot, he]))|refine Exists.intro _ (Exists.intro _ (And.intro (And.intro rfl rfl) ?_)) |refine uw (h2 o _) ?_ |refine uw (h3 o _) ?_ |refine uw (h4 o _) ?_ |refine uw (h5 o ⟨a4, 0⟩ _) ?_ |fail
      all_goals exact ⟨_, keep_new (keep_new (fun _ _ h => h) hx) ho, ⟨_, rfl⟩, rfl⟩
end
end Go.Proofs.YtaealcimocpnnaaGreat
namespace Go.Proofs.YtaealcimocpnnaaGreat
open Go.Kern
theorem PCall_any2 {P : Program} {f : FuncId} {args : List AV} {σ τ : Store} {y : AV} (h : PCall P f args σ (fun r t => (∃ x, r = .tup [x, y]) ∧ t = τ)) : PCall P f args σ (fun r t => r = .tup [.any, y] ∧ t = τ) := by
  refine ⟨h.1, ?_⟩
  refine fun g w vs hl hr hc => (h.2 g w vs hl hr hc).mono ?_
  rintro e w' ⟨v, he, g', r, σ', h1, h2, h3, ⟨x, rfl⟩, h5⟩
  refine ⟨v, he, g', _, σ', h1, h2, ?_, rfl, h5⟩
  cases h3 with
  | tup hl h =>
    refine .tup hl fun i c v hc hv => ?_
    match i with
    | 0 => simp at hc; subst hc; exact .any _
    | 1 => exact h 1 c v hc hv
    | i + 2 => simp at hc
set_option maxRecDepth 100000
set_option maxHeartbeats 4000000
attribute [local irreducible] PCall W
theorem parse_pure (s : ByteArray) (hs : s.size ≤ 1000) : Pure Tryz.prog 129 [.str s] (.tup [.any, .int .i64 (parseE (B s))]) := fun σ => PCall_any2 (parse_spec s hs σ)
def matMay (m : Mat) : Bool := (decide (m.path.size = 0) || (decide (parseE (B m.path) = 0) && quotableB m.path)) && (usedB m.list && ((decide (m.c.asn = 0) && decide (m.c.n = 0)) || comMay m.c))
theorem matMay_spec (m : Mat) (hp : m.path.size ≤ 1000) (hlst : m.list.size ≤ 1000) : Pure Tryz.prog 78 [eMat m] (.bool (matMay m)) := by
  intro σ
  have h1 := parse_pure m.path hp
  have h2 := quotable_spec m.path (by omega)
  have h3 := used_spec m.list (by omega)
  have h4 := comMay_spec m.c
  by_cases hz : m.path.size = 0
  · have hm := (empty_iff m.path).2 hz
    have hv : matMay m = (usedB m.list && ((decide (m.c.asn = 0) && decide (m.c.n = 0)) || comMay m.c)) := by simp [matMay, hz]
    rw [hv]
    refine PCall_q [.tmp 2] 36 Tryz.func78 (by rfl) rfl rfl rfl rfl ?_
    repeat' first |refine s1 ?_|refine gS ?_|refine wT rfl ?_|refine wF rfl ?_|refine wt rfl ?_|refine wf rfl ?_|(refine wC rfl (fun h=>?_) (fun h=>?_)<;>(try contradiction))|((first|refine rd ?_|refine ry [] c0 fun nu _ _=>?_);simp -dsimp (disch:=omega) only[go_sem,eMat, eCom, hm])|refine e0 (by decide) ?_|(refine And.intro ?_ ?_;omega)|refine And.intro (of_eq_true PutAt_put) ?_|refine gT ?_|refine gF ?_|(refine gI (fun h=>?_) (fun h=>?_)<;>(try contradiction)<;>(try refine rd ?_)<;>(try simp -dsimp (disch:=omega) only[go_sem,h,eMat, eCom, hm]))|refine Exists.intro _ (Exists.intro _ (And.intro (And.intro rfl rfl) ?_)) |refine us (h3) ?_ |refine us (h4) ?_ |fail
    all_goals (first | simp only [*, Bool.true_and, Bool.false_and, Bool.false_or, Bool.true_or])
  · have hm : ¬ m.path = ⟨#[]⟩ := fun k => hz ((empty_iff m.path).1 k)
    by_cases he : parseE (B m.path) = 0
    · have hv : matMay m = (quotableB m.path && (usedB m.list && ((decide (m.c.asn = 0) && decide (m.c.n = 0)) || comMay m.c))) := by simp [matMay, hz, he]
      rw [hv]
      rw [he] at h1
      refine PCall_q [.tmp 2] 36 Tryz.func78 (by rfl) rfl rfl rfl rfl ?_
      repeat' first |refine s1 ?_|refine gS ?_|refine wT rfl ?_|refine wF rfl ?_|refine wt rfl ?_|refine wf rfl ?_|(refine wC rfl (fun h=>?_) (fun h=>?_)<;>(try contradiction))|((first|refine rd ?_|refine ry [] c0 fun nu _ _=>?_);simp -dsimp (disch:=omega) only[go_sem,eMat, eCom, hm])|refine e0 (by decide) ?_|(refine And.intro ?_ ?_;omega)|refine And.intro (of_eq_true PutAt_put) ?_|refine gT ?_|refine gF ?_|(refine gI (fun h=>?_) (fun h=>?_)<;>(try contradiction)<;>(try refine rd ?_)<;>(try simp -dsimp (disch:=omega) only[go_sem,h,eMat, eCom, hm]))|refine Exists.intro _ (Exists.intro _ (And.intro (And.intro rfl rfl) ?_)) |refine us (h1) ?_ |refine us (h2) ?_ |refine us (h3) ?_ |refine us (h4) ?_ |fail
      all_goals (first | simp only [*, Bool.true_and, Bool.false_and, Bool.false_or, Bool.true_or])
    · have hv : matMay m = false := by simp [matMay, hz, he]
      rw [hv]
      refine PCall_q [.tmp 2] 36 Tryz.func78 (by rfl) rfl rfl rfl rfl ?_
      repeat' first |refine s1 ?_|refine gS ?_|refine wT rfl ?_|refine wF rfl ?_|refine wt rfl ?_|refine wf rfl ?_|(refine wC rfl (fun h=>?_) (fun h=>?_)<;>(try contradiction))|((first|refine rd ?_|refine ry [] c0 fun nu _ _=>?_);simp -dsimp (disch:=omega) only[go_sem,eMat, eCom, hm, he])|refine e0 (by decide) ?_|(refine And.intro ?_ ?_;omega)|refine And.intro (of_eq_true PutAt_put) ?_|refine gT ?_|refine gF ?_|(refine gI (fun h=>?_) (fun h=>?_)<;>(try contradiction)<;>(try refine rd ?_)<;>(try simp -dsimp (disch:=omega) only[go_sem,h,eMat, eCom, hm, he]))|refine Exists.intro _ (Exists.intro _ (And.intro (And.intro rfl rfl) ?_)) |refine us (h1) ?_ |refine us (h2) ?_ |refine us (h3) ?_ |refine us (h4) ?_ |fail
end Go.Proofs.YtaealcimocpnnaaGreat
namespace Go.Proofs.YtaealcimocpnnaaGreat
open Go.Kern
set_option maxRecDepth 100000
set_option maxHeartbeats 4000000
attribute [local irreducible] PCall W
def lastO (n : Int) : Ob := .arr 3 [.int .i64 n]
def lastN (last n : Int) : Int := if last < (if 65535 < n then 65535 else n) then (if 65535 < n then 65535 else n) else last
def clsMay (last : Int) (c : Cls) : Bool := withinZ c.n (last + 1) 65535 && (matMay c.m && chgMay c.s)
theorem mapMay1_spec (c : Cls) (hc : c.s.Fits) (hp : c.m.path.size ≤ 1000) (hm : c.m.list.size ≤ 1000) (last : Int) (h0 : 0 ≤ last) (h1 : last ≤ 65535) (o : Nat) (σ : Store) :
    PCall Tryz.prog 76 [eCls c, .ptr o 0 0] (σ.put o (lastO last)) (fun r t => r = .bool (clsMay last c) ∧ t = σ.put o (lastO (lastN last c.n))) := by
  have w1 := within_spec c.n (last + 1) 65535
  have w2 := matMay_spec c.m hp hm
  have w3 := chgMay_spec c.s hc
  obtain ⟨b1, hb1⟩ : ∃ b, withinZ c.n (last + 1) 65535 = b := ⟨_, rfl⟩
  obtain ⟨b2, hb2⟩ : ∃ b, matMay c.m = b := ⟨_, rfl⟩
  obtain ⟨b3, hb3⟩ : ∃ b, chgMay c.s = b := ⟨_, rfl⟩
  simp only [clsMay, hb1, hb2, hb3] at w1 w2 w3 ⊢
  refine PCall_w [.tmp 3] 26 Tryz.func76 (by rfl) rfl rfl rfl rfl ?_
  repeat' first |refine s1 ?_|refine gS ?_|refine wT rfl ?_|refine wF rfl ?_|refine wt rfl ?_|refine wf rfl ?_|(refine wC rfl (fun h=>?_) (fun h=>?_)<;>(try contradiction))|((first|refine rd ?_|refine ry [] c0 fun nu _ _=>?_);simp -dsimp (disch:=omega) only[go_sem,eCls, eMat, eChg, eCom, lastO])|refine e0 (by decide) ?_|(refine And.intro ?_ ?_;omega)|refine And.intro (of_eq_true PutAt_put) ?_|refine gT ?_|refine gF ?_|(refine gI (fun h=>?_) (fun h=>?_)<;>(try contradiction)<;>(try refine rd ?_)<;>(try simp -dsimp (disch:=omega) only[go_sem,h,eCls, eMat, eChg, eCom, lastO]))|refine Exists.intro _ (Exists.intro _ (And.intro (And.intro rfl rfl) ?_)) |refine us (w1) ?_ |refine us (w2) ?_ |refine us (w3) ?_ |fail
  all_goals (simp only [*, Bool.true_and, Bool.false_and]; exact ⟨_, Store.Sub.refl _, trivial, rfl⟩)
end Go.Proofs.YtaealcimocpnnaaGreat
namespace Go.Kern
open Go.RowKit
def joinT (sep : ByteArray) : List ByteArray → ByteArray
  | [] => ⟨#[]⟩
  | y :: r => sep ++ (y ++ joinT sep r)
def joinOf (sep : ByteArray) : List ByteArray → ByteArray
  | [] => ⟨#[]⟩
  | x :: r => x ++ joinT sep r
theorem data_append (a b : ByteArray) : (a ++ b).data.toList = a.data.toList ++ b.data.toList := by simp
theorem joinT_data (sep : ByteArray) : ∀ r : List ByteArray, (joinT sep r).data.toList = Lib.joinTail sep.data.toList (r.map (·.data.toList))
  | [] => rfl
  | y :: r => by
    have ih := joinT_data sep r
    simp only [joinT, data_append, ih, Lib.joinTail, List.map_cons, List.flatten_cons, List.append_assoc]
theorem joinOf_data (sep : ByteArray) : ∀ r : List ByteArray, (joinOf sep r).data.toList = Lib.join (r.map (·.data.toList)) sep.data.toList
  | [] => rfl
  | x :: r => by rw [joinOf, data_append, joinT_data, List.map_cons, Lib.join_cons]
theorem joinOf_eq (sep : ByteArray) (r : List ByteArray) : (⟨(Lib.join (r.map (·.data.toList)) sep.data.toList).toArray⟩ : ByteArray) = joinOf sep r := by
  rw [← joinOf_data]
structure JoinOk (P : Program) (f : FuncId) : Prop where
  fn : ∃ fn, P.funcs[f]? = some fn ∧ (fn.name == "runtime.NumGoroutine") = false ∧ fn.body.isNone = false
  none : ∀ (a : Option Addr) (c : Nat) (sep : ByteArray) (w : World), Calls P f #[.slice a 0 c, .string sep] w fun e w' => e = .returned (.string ⟨#[]⟩) ∧ w' = w
  some : ∀ (bk o c : Nat) (xs : List ByteArray) (sep : ByteArray) (w : World), (∀ (j : Nat) x, xs[j]? = Option.some x → w.cell? ⟨bk, o + j, Option.none⟩ = Option.some (.string x)) → bk < w.heap.size → xs.length ≤ 140737488355328 → xs.length ≤ c →
    (Lib.join (xs.map (·.data.toList)) sep.data.toList).length ≤ 140737488355328 →
    Calls P f #[.slice (Option.some ⟨bk, o, Option.none⟩) xs.length c, .string sep] w fun e w' => e = .returned (.string ⟨(Lib.join (xs.map (·.data.toList)) sep.data.toList).toArray⟩) ∧ Below w.heap.size w w'
theorem args2 {g : Gh} {a : AV} {s : ByteArray} {vs : Array Value} (hl : [a, AV.str s].length = vs.size) (hr : ∀ (i : Nat) (c : AV) (v : Value), [a, AV.str s][i]? = some c → vs[i]? = some v → R g c v) : ∃ u, vs = #[u, .string s] ∧ R g a u := by
  obtain ⟨l⟩ := vs
  match l, hl with
  | [u, x], _ =>
    have h1 := hr 1 _ _ rfl rfl
    cases h1
    exact ⟨u, rfl, hr 0 _ _ rfl rfl⟩
theorem cellsL_strs (xs : List ByteArray) : cellsL (xs.map AV.str) = xs.map AV.str := by
  induction xs with
  | nil => rfl
  | cons x l ih => simp only [cellsL, List.map_cons, List.flatMap_cons] at ih ⊢; rw [ih]; rfl
theorem join_sl {P : Program} {f : FuncId} (J : JoinOk P f) (k : SK) (xs : List ByteArray) (sep : ByteArray) (hN : xs.length ≤ 140737488355328) (hlen : (joinOf sep xs).size ≤ 140737488355328) :
    Pure P f [.sl k (xs.map AV.str), .str sep] (.str (joinOf sep xs)) := fun σ => by
  refine ⟨J.fn, fun g w vs hl hr hc => ?_⟩
  obtain ⟨u, rfl, hu⟩ := args2 hl hr
  have hj := joinOf_eq sep xs
  have hlen' : (Lib.join (xs.map (·.data.toList)) sep.data.toList).length ≤ 140737488355328 := by
    have : (joinOf sep xs).size = (joinOf sep xs).data.toList.length := by simp
    rw [← joinOf_data, ← this]; exact hlen
  generalize hq : xs.map AV.str = q at hu
  cases hu with
  | slnil =>
    have : xs = [] := List.map_eq_nil_iff.1 hq
    subst this
    exact (J.none none 0 sep w).mono fun e w' ⟨he, hw⟩ => ⟨_, he, g, _, σ, .refl g, hw ▸ hc, .str _, rfl, rfl⟩
  | sl hk hs hu hi h =>
    rename_i a cap sz us
    subst hq
    rw [List.length_map]
    by_cases h0 : xs = []
    · subst h0
      exact (J.none (some a) cap sep w).mono fun e w' ⟨he, hw⟩ => ⟨_, he, g, _, σ, .refl g, hw ▸ hc, .str _, rfl, rfl⟩
    · have hsp := hs (by simpa using h0)
      obtain ⟨bk, o, sp⟩ := a
      simp only at hsp; subst hsp
      rw [cellsL_strs] at hi h
      simp only at hi
      have hcell : ∀ (j : Nat) x, xs[j]? = some x → w.cell? ⟨bk, o + j, none⟩ = some (.string x) := fun j x hx => by
        have hj := (List.getElem?_eq_some_iff.1 hx).1
        have h1 := hc.imm _ _ _ (hi j (by simpa using hj))
        have h2 := h j (.str x) (by simp [hx])
        rw [h1]
        generalize us j = v at h2
        cases h2
        rfl
      have hbk : bk < w.heap.size := by
        obtain ⟨x, hx⟩ : ∃ x, xs[0]? = some x := by
          cases xs with
          | nil => exact absurd rfl h0
          | cons x l => exact ⟨x, rfl⟩
        exact hc.imm_lt (hi 0 (by simpa using (List.getElem?_eq_some_iff.1 hx).1))
      have hcap : xs.length ≤ cap := by
        cases k with
        | nil => exact hk.elim
        | imm => simpa [SKOk] using hk
        | full => simp [SKOk] at hk; omega
        | tip o => have := hk.1; simpa using this
      refine (J.some bk o cap xs sep w hcell hbk hN hcap hlen').mono fun e w' ⟨he, hw⟩ => ⟨_, he, g, _, σ, .refl g, hc.grow hw, .str _, ?_, rfl⟩
      rw [hj]
theorem join_ms {P : Program} {f : FuncId} (J : JoinOk P f) (o : Nat) (e : TypeId) (xs : List ByteArray) (sep : ByteArray) (hN : xs.length ≤ 140737488355328) (hlen : (joinOf sep xs).size ≤ 140737488355328) (hne : xs ≠ []) (σ : Store) (ho : σ o = some (.arr e (xs.map AV.str))) :
    PCall P f [.ms o 1 0 xs.length, .str sep] σ (fun r s => r = .str (joinOf sep xs) ∧ s = σ) := by
  refine ⟨J.fn, fun g w vs hl hr hc => ?_⟩
  obtain ⟨u, rfl, hu⟩ := args2 hl hr
  have hj := joinOf_eq sep xs
  have hlen' : (Lib.join (xs.map (·.data.toList)) sep.data.toList).length ≤ 140737488355328 := by
    have : (joinOf sep xs).size = (joinOf sep xs).data.toList.length := by simp
    rw [← joinOf_data, ← this]; exact hlen
  have hpos : 0 < xs.length := List.length_pos_iff.2 hne
  cases hu with
  | ms hb hcp hle ha =>
    rename_i b n cap a
    have ha := ha (by omega)
    subst ha
    obtain ⟨_, cells, hh, _, hcs, hrr, _⟩ := arr_at hc ho hb
    rw [cellsL_strs] at hrr
    simp only [List.length_map, Nat.mul_one] at hcs
    have hcell : ∀ (j : Nat) x, xs[j]? = some x → w.cell? ⟨b, 0 * 1 + j, none⟩ = some (.string x) := fun j x hx => by
      have hj := (List.getElem?_eq_some_iff.1 hx).1
      have hv : cells[j]? = some cells[j] := Array.getElem?_eq_getElem (by omega)
      have h2 := hrr j (.str x) _ (by simp [hx]) hv
      rw [Nat.zero_mul, Nat.zero_add]
      have h3 : w.cell? ⟨b, j, none⟩ = cells[j]? := by simp [World.cell?, hh]
      rw [h3, hv]
      generalize cells[j] = v at h2
      cases h2
      rfl
    refine (J.some b (0 * 1) cap xs sep w hcell (Array.getElem?_eq_some_iff.1 hh).1 hN hle hlen').mono fun e w' ⟨he, hw⟩ => ⟨_, he, g, _, σ, .refl g, hc.grow hw, .str _, ?_, rfl⟩
    rw [hj]
end Go.Kern
namespace Go.Proofs
open Go.Shelf
def Tryz.lays156_ren : Go.Shelf.Ren := ⟨fun | 156 => 116 | 165 => 154 | 166 => 114 | 169 => 22 | 240 => 151 | 241 => 184 | 276 => 180 | 277 => 202 | n => n, fun | 31 => 33 | 9 => 9 | 3 => 3 | 4 => 4 | 0 => 0 | 20 => 20 | 72 => 68 | 76 => 167 | 70 => 65 | 37 => 66 | 75 => 166 | 127 => 114 | 164 => 230 | 5 => 5 | 80 => 75 | n => n, fun | n => n⟩
theorem Tryz.lays156 : Go.Proofs.Lays.n156 Tryz.prog Tryz.lays156_ren := {
  mixed := by kernel_rfl
  f156 := Tryz.func116.trans (congrArg some (by kernel_rfl))
  f165 := Tryz.func154.trans (congrArg some (by kernel_rfl))
  f166 := Tryz.func114.trans (congrArg some (by kernel_rfl))
  f169 := Tryz.func22.trans (congrArg some (by kernel_rfl))
  f240 := Tryz.func151.trans (congrArg some (by kernel_rfl))
  f241 := Tryz.func184.trans (congrArg some (by kernel_rfl))
  f276 := Tryz.func180.trans (congrArg some (by kernel_rfl))
  f277 := Tryz.func202.trans (congrArg some (by kernel_rfl))
  t0 := Tryz.underlying0
  a0 := Tryz.isAgg0
  z0 := Tryz.sizeOf0
  v0 := Tryz.zeroValue0
  t3 := Tryz.underlying3
  a3 := Tryz.isAgg3
  z3 := Tryz.sizeOf3
  v3 := Tryz.zeroValue3
  t4 := Tryz.underlying4
  a4 := Tryz.isAgg4
  z4 := Tryz.sizeOf4
  v4 := Tryz.zeroValue4
  t9 := Tryz.underlying9
  a9 := Tryz.isAgg9
  z9 := Tryz.sizeOf9
  v9 := Tryz.zeroValue9
  t20 := Tryz.underlying20
  a20 := Tryz.isAgg20
  z20 := Tryz.sizeOf20
  v20 := Tryz.zeroValue20
  t31 := Tryz.underlying33
  a31 := Tryz.isAgg33
  z31 := Tryz.sizeOf33
  v31 := Tryz.zeroValue33
  t37 := Tryz.underlying66
  a37 := Tryz.isAgg66
  z37 := Tryz.sizeOf66
  v37 := Tryz.zeroValue66
  t70 := Tryz.underlying65
  a70 := Tryz.isAgg65
  z70 := Tryz.sizeOf65
  v70 := Tryz.zeroValue65
  t72 := Tryz.underlying68
  a72 := Tryz.isAgg68
  z72 := Tryz.sizeOf68
  v72 := Tryz.zeroValue68
  t75 := Tryz.underlying166
  a75 := Tryz.isAgg166
  z75 := Tryz.sizeOf166
  v75 := Tryz.zeroValue166
  t76 := Tryz.underlying167
  a76 := Tryz.isAgg167
  z76 := Tryz.sizeOf167
  v76 := Tryz.zeroValue167
  t127 := Tryz.underlying114
  a127 := Tryz.isAgg114
  z127 := Tryz.sizeOf114
  v127 := Tryz.zeroValue114
  t164 := Tryz.underlying230
  a164 := Tryz.isAgg230
  z164 := Tryz.sizeOf230
  v164 := Tryz.zeroValue230 }
theorem Tryz.Builder_Extra_156 : Builder.Extra Tryz.prog Tryz.lays156_ren := {
  sizeBuilder := by kernel_rfl
  liesBuilder := by kernel_rfl
  t5 := Tryz.underlying5
  a5 := Tryz.isAgg5
  z5 := Tryz.sizeOf5
  v5 := Tryz.zeroValue5
  infoByte := by kernel_rfl
  cellsByte := by kernel_rfl
  sizeByte := by kernel_rfl
  neB5 := by decide }
open Go.RowKit in
theorem Tryz.strings_Join_none (a : Option Addr) (c : Nat) (sep : ByteArray) (w : World) :
    Calls Tryz.prog 116 #[.slice a 0 c, .string sep] w fun e w' => e = .returned (.string ⟨#[]⟩) ∧ w' = w := Any.strings_Join_none Tryz.lays156 Tryz.Builder_Extra_156 a c sep w
open Go.RowKit in
theorem Tryz.strings_Join (bk o c : Nat) (xs : List ByteArray) (sep : ByteArray) (w : World) (hcells : ∀ (j : Nat) x, xs[j]? = some x → w.cell? ⟨bk, o + j, none⟩ = some (.string x)) (hbk : bk < w.heap.size) (hN : xs.length ≤ 140737488355328) (hcap : xs.length ≤ c) (hlen : (Lib.join (xs.map (·.data.toList)) sep.data.toList).length ≤ 140737488355328) :
    Calls Tryz.prog 116 #[.slice (some ⟨bk, o, none⟩) xs.length c, .string sep] w fun e w' => e = .returned (.string ⟨(Lib.join (xs.map (·.data.toList)) sep.data.toList).toArray⟩) ∧ Below w.heap.size w w' := Any.strings_Join Tryz.lays156 Tryz.Builder_Extra_156 bk o c xs sep w hcells hbk hN hcap hlen
def Tryz.lays105_ren : Go.Shelf.Ren := ⟨fun | 105 => 115 | 212 => 152 | 99 => 153 | 165 => 154 | 166 => 114 | 170 => 21 | 169 => 22 | 263 => 181 | 264 => 182 | 206 => 183 | 240 => 151 | 241 => 184 | 276 => 180 | 277 => 202 | n => n, fun | 9 => 9 | 3 => 3 | 4 => 4 | 20 => 20 | 0 => 0 | 46 => 200 | 109 => 201 | 5 => 5 | 72 => 68 | 76 => 167 | 51 => 92 | 146 => 232 | 53 => 234 | 148 => 235 | 70 => 65 | 37 => 66 | 75 => 166 | 127 => 114 | 164 => 230 | 80 => 75 | n => n, fun | n => n⟩
theorem Tryz.lays105 : Go.Proofs.Lays.n105 Tryz.prog Tryz.lays105_ren := {
  mixed := by kernel_rfl
  f99 := Tryz.func153.trans (congrArg some (by kernel_rfl))
  f105 := Tryz.func115.trans (congrArg some (by kernel_rfl))
  f165 := Tryz.func154.trans (congrArg some (by kernel_rfl))
  f166 := Tryz.func114.trans (congrArg some (by kernel_rfl))
  f169 := Tryz.func22.trans (congrArg some (by kernel_rfl))
  f170 := Tryz.func21.trans (congrArg some (by kernel_rfl))
  f206 := Tryz.func183.trans (congrArg some (by kernel_rfl))
  f212 := Tryz.func152.trans (congrArg some (by kernel_rfl))
  f240 := Tryz.func151.trans (congrArg some (by kernel_rfl))
  f241 := Tryz.func184.trans (congrArg some (by kernel_rfl))
  f263 := Tryz.func181.trans (congrArg some (by kernel_rfl))
  f264 := Tryz.func182.trans (congrArg some (by kernel_rfl))
  f276 := Tryz.func180.trans (congrArg some (by kernel_rfl))
  f277 := Tryz.func202.trans (congrArg some (by kernel_rfl))
  t0 := Tryz.underlying0
  a0 := Tryz.isAgg0
  z0 := Tryz.sizeOf0
  v0 := Tryz.zeroValue0
  t3 := Tryz.underlying3
  a3 := Tryz.isAgg3
  z3 := Tryz.sizeOf3
  v3 := Tryz.zeroValue3
  t4 := Tryz.underlying4
  a4 := Tryz.isAgg4
  z4 := Tryz.sizeOf4
  v4 := Tryz.zeroValue4
  t5 := Tryz.underlying5
  a5 := Tryz.isAgg5
  z5 := Tryz.sizeOf5
  v5 := Tryz.zeroValue5
  t9 := Tryz.underlying9
  a9 := Tryz.isAgg9
  z9 := Tryz.sizeOf9
  v9 := Tryz.zeroValue9
  t20 := Tryz.underlying20
  a20 := Tryz.isAgg20
  z20 := Tryz.sizeOf20
  v20 := Tryz.zeroValue20
  t37 := Tryz.underlying66
  a37 := Tryz.isAgg66
  z37 := Tryz.sizeOf66
  v37 := Tryz.zeroValue66
  t46 := Tryz.underlying200
  a46 := Tryz.isAgg200
  z46 := Tryz.sizeOf200
  v46 := Tryz.zeroValue200
  t51 := Tryz.underlying92
  a51 := Tryz.isAgg92
  z51 := Tryz.sizeOf92
  v51 := Tryz.zeroValue92
  t53 := Tryz.underlying234
  a53 := Tryz.isAgg234
  z53 := Tryz.sizeOf234
  v53 := Tryz.zeroValue234
  t70 := Tryz.underlying65
  a70 := Tryz.isAgg65
  z70 := Tryz.sizeOf65
  v70 := Tryz.zeroValue65
  t72 := Tryz.underlying68
  a72 := Tryz.isAgg68
  z72 := Tryz.sizeOf68
  v72 := Tryz.zeroValue68
  t75 := Tryz.underlying166
  a75 := Tryz.isAgg166
  z75 := Tryz.sizeOf166
  v75 := Tryz.zeroValue166
  t76 := Tryz.underlying167
  a76 := Tryz.isAgg167
  z76 := Tryz.sizeOf167
  v76 := Tryz.zeroValue167
  t109 := Tryz.underlying201
  a109 := Tryz.isAgg201
  z109 := Tryz.sizeOf201
  v109 := Tryz.zeroValue201
  t127 := Tryz.underlying114
  a127 := Tryz.isAgg114
  z127 := Tryz.sizeOf114
  v127 := Tryz.zeroValue114
  t146 := Tryz.underlying232
  a146 := Tryz.isAgg232
  z146 := Tryz.sizeOf232
  v146 := Tryz.zeroValue232
  t148 := Tryz.underlying235
  a148 := Tryz.isAgg235
  z148 := Tryz.sizeOf235
  v148 := Tryz.zeroValue235
  t164 := Tryz.underlying230
  a164 := Tryz.isAgg230
  z164 := Tryz.sizeOf230
  v164 := Tryz.zeroValue230 }
theorem Tryz.Builder_Extra_105 : Builder.Extra Tryz.prog Tryz.lays105_ren := {
  sizeBuilder := by kernel_rfl
  liesBuilder := by kernel_rfl
  t5 := Tryz.underlying5
  a5 := Tryz.isAgg5
  z5 := Tryz.sizeOf5
  v5 := Tryz.zeroValue5
  infoByte := by kernel_rfl
  cellsByte := by kernel_rfl
  sizeByte := by kernel_rfl
  neB5 := by decide }
open Go.RowKit Go.Lib in
theorem Tryz.strings_Repeat (s : ByteArray) (c : Nat) (w : World) (hc : c ≤ 9223372036854775807) (hlen : s.size * c ≤ 140737488355328) :
    Calls Tryz.prog 115 #[.string s, .int .i64 c] w fun e w' => e = .returned (.string ⟨(Lib.repeatL s.data.toList c).toArray⟩) ∧ Below w.heap.size w w' := Any.strings_Repeat Tryz.lays105 Tryz.Builder_Extra_105 s c w hc hlen
end Go.Proofs
namespace Go.Proofs.YtaealcimocpnnaaGreat
open Go.Kern Go.RowKit
theorem joinOk : JoinOk Tryz.prog 116 where
  fn := ⟨_, Tryz.func116, rfl, rfl⟩
  none := fun a c sep w => Tryz.strings_Join_none a c sep w
  some := fun bk o c xs sep w h1 h2 h3 h4 h5 => Tryz.strings_Join bk o c xs sep w h1 h2 h3 h4 h5
theorem repeat_spec (s : ByteArray) (c : Nat) (hc : c ≤ 9223372036854775807) (hlen : s.size * c ≤ 140737488355328) : Pure Tryz.prog 115 [.str s, .int .i64 c] (.str ⟨(Lib.repeatL s.data.toList c).toArray⟩) := fun σ => by
  refine ⟨⟨_, Tryz.func115, rfl, rfl⟩, fun g w vs hl hr hcn => ?_⟩
  obtain ⟨l⟩ := vs
  match l, hl with
  | [u, x], _ =>
    have h0 := hr 0 _ _ rfl rfl
    have h1 := hr 1 _ _ rfl rfl
    cases h0
    cases h1
    exact (Tryz.strings_Repeat s c w hc hlen).mono fun e w' ⟨he, hw⟩ => ⟨_, he, g, _, σ, .refl g, hcn.grow hw, .str _, rfl, rfl⟩
end Go.Proofs.YtaealcimocpnnaaGreat
namespace Go.Proofs.YtaealcimocpnnaaGreat
open Go.Kern
theorem szA (a b : ByteArray) : (a ++ b).size = a.size + b.size := ByteArray.size_append
theorem asA (a b c : ByteArray) : (a ++ b) ++ c = a ++ (b ++ c) := ByteArray.append_assoc
theorem emA (a : ByteArray) : a ++ (⟨#[]⟩ : ByteArray) = a := ByteArray.append_empty
theorem eA (a : ByteArray) : (⟨#[]⟩ : ByteArray) ++ a = a := ByteArray.empty_append
theorem szL (l : List UInt8) : (⟨l.toArray⟩ : ByteArray).size = l.length := by simp [ByteArray.size]
theorem szE : (⟨#[]⟩ : ByteArray).size = 0 := rfl
def digN (n : Nat) : List UInt8 := if n < 10 then [UInt8.ofNat (48 + n)] else digN (n / 10) ++ [UInt8.ofNat (48 + n % 10)]
termination_by n
decreasing_by omega
theorem digN_len : ∀ (k n : Nat), n < 10 ^ (k + 1) → (digN n).length ≤ k + 1
  | 0, n, h => by
    rw [digN, if_pos (by omega)]; simp
  | k + 1, n, h => by
    rw [digN]
    split
    · simp
    · have := digN_len k (n / 10) (by rw [Nat.pow_succ] at h; omega)
      simp only [List.length_append, List.length_cons, List.length_nil]; omega
def digB (n : Int) : ByteArray := ⟨(digN n.toNat).toArray⟩
theorem digB_size (n : Int) (h : n < 18446744073709551616) : (digB n).size ≤ 20 := by
  rw [digB, szL]
  exact digN_len 19 n.toNat (by omega)
theorem digB_small (n : Int) (h1 : n < 10) : digB n = ⟨#[UInt8.ofNat (48 + n.toNat)]⟩ := by
  rw [digB, digN, if_pos (by omega)]
theorem digB_step (n : Int) (h0 : 0 ≤ n) (h1 : ¬ n < 10) : digB n = digB (n / 10) ++ ⟨#[UInt8.ofNat (48 + (n % 10).toNat)]⟩ := by
  rw [digB, digN, if_neg (by omega)]
  have e1 : n.toNat / 10 = (n / 10).toNat := by omega
  have e2 : n.toNat % 10 = (n % 10).toNat := by omega
  rw [e1, e2, digB]
  apply B_inj.1
  simp [B]
def catB : List ByteArray → ByteArray
  | [] => ⟨#[]⟩
  | x :: r => x ++ catB r
theorem catB_append : ∀ a b : List ByteArray, catB (a ++ b) = catB a ++ catB b
  | [], b => by rw [List.nil_append, catB, eA]
  | x :: r, b => by rw [List.cons_append, catB, catB, catB_append r b, asA]
theorem catB_size (m : Nat) : ∀ l : List ByteArray, (∀ x ∈ l, x.size ≤ m) → (catB l).size ≤ l.length * m
  | [], _ => by rw [catB, szE]; exact Nat.zero_le _
  | x :: r, h => by
    have h1 := h x List.mem_cons_self
    have h2 := catB_size m r fun y hy => h y (List.mem_cons_of_mem _ hy)
    rw [catB, szA, List.length_cons, Nat.succ_mul]; omega
theorem catB_map {α : Type} (f : α → ByteArray) (m : Nat) (l : List α) (h : ∀ x ∈ l, (f x).size ≤ m) : (catB (l.map f)).size ≤ l.length * m := by
  have := catB_size m (l.map f) fun y hy => by
    obtain ⟨x, hx, rfl⟩ := List.mem_map.1 hy
    exact h x hx
  rwa [List.length_map] at this
theorem joinT_size (m : Nat) (sep : ByteArray) : ∀ l : List ByteArray, (∀ x ∈ l, x.size ≤ m) → (joinT sep l).size ≤ l.length * (m + sep.size)
  | [], _ => by rw [joinT, szE]; exact Nat.zero_le _
  | x :: r, h => by
    have h1 := h x List.mem_cons_self
    have h2 := joinT_size m sep r fun y hy => h y (List.mem_cons_of_mem _ hy)
    rw [joinT, szA, szA, List.length_cons, Nat.succ_mul]; omega
theorem joinOf_size (m : Nat) (sep : ByteArray) (l : List ByteArray) (h : ∀ x ∈ l, x.size ≤ m) : (joinOf sep l).size ≤ l.length * (m + sep.size) := by
  cases l with
  | nil => rw [joinOf, szE]; exact Nat.zero_le _
  | cons x r =>
    have h1 := h x List.mem_cons_self
    have h2 := joinT_size m sep r fun y hy => h y (List.mem_cons_of_mem _ hy)
    rw [joinOf, szA, List.length_cons, Nat.succ_mul]; omega
theorem joinOf_map {α : Type} (f : α → ByteArray) (m : Nat) (sep : ByteArray) (l : List α) (h : ∀ x ∈ l, (f x).size ≤ m) : (joinOf sep (l.map f)).size ≤ l.length * (m + sep.size) := by
  have := joinOf_size m sep (l.map f) fun y hy => by
    obtain ⟨x, hx, rfl⟩ := List.mem_map.1 hy
    exact h x hx
  rwa [List.length_map] at this
def blk : ByteArray := (⟨#[32]⟩ : ByteArray)
def comText (c : Com) : ByteArray :=
  if comMay c = true then
    (if c.asn = 65535 ∧ c.n = 65281 then (⟨#[110, 111, 45, 101, 120, 112, 111, 114, 116]⟩ : ByteArray) else if c.asn = 65535 ∧ c.n = 65282 then (⟨#[110, 111, 45, 97, 100, 118, 101, 114, 116, 105, 115, 101]⟩ : ByteArray) else if c.asn = 65535 ∧ c.n = 65283 then (⟨#[108, 111, 99, 97, 108]⟩ : ByteArray) else digB c.asn ++ (⟨#[58]⟩ : ByteArray) ++ digB c.n)
  else ⟨#[]⟩
theorem comMay_iff (c : Com) : comMay c = true ↔ 1 ≤ c.asn ∧ c.asn ≤ 65535 ∧ 0 ≤ c.n ∧ c.n ≤ 65535 := by
  simp [comMay, withinZ]; omega
theorem comText_size (c : Com) : (comText c).size ≤ 50 := by
  unfold comText
  split
  · rename_i h
    have h := (comMay_iff c).1 h
    split
    · decide
    · split
      · decide
      · split
        · decide
        · have h1 := digB_size c.asn (by omega)
          have h2 := digB_size c.n (by omega)
          rw [szA, szA]
          have : ((⟨#[58]⟩ : ByteArray)).size = 1 := rfl
          omega
  · decide
def octZ (a : Int) (k : Nat) : Int := bits .and .u32 (a.fdiv (2 ^ k)) 255
def pfxText (p : Pfx) : ByteArray :=
  if pfxMay p = true then joinOf (⟨#[46]⟩ : ByteArray) [digB (octZ p.a 24), digB (octZ p.a 16), digB (octZ p.a 8), digB (octZ p.a 0)] ++ (⟨#[47]⟩ : ByteArray) ++ digB p.b else ⟨#[]⟩
def Pfx.Ok (p : Pfx) : Prop := 0 ≤ p.a ∧ p.a < 4294967296
theorem octZ_eq {a : Int} (h0 : 0 ≤ a) (h1 : a < 4294967296) (k : Nat) : octZ a k = a / 2 ^ k % 256 := by
  unfold octZ
  have hp : (0 : Int) < 2 ^ k := Int.pow_pos (by decide)
  rw [Int.fdiv_eq_ediv_of_nonneg _ (Int.le_of_lt hp)]
  have g0 : 0 ≤ a / 2 ^ k := Int.ediv_nonneg h0 (Int.le_of_lt hp)
  have g1 : a / 2 ^ k ≤ a := Int.ediv_le_self _ h0
  rw [u32_and _ _ g0 (by omega) (by decide) (by decide)]
  have e : (255 : Int).toNat = 2 ^ 8 - 1 := rfl
  rw [e, Nat.and_two_pow_sub_one_eq_mod]
  omega
theorem octZ_ok {a : Int} (h0 : 0 ≤ a) (h1 : a < 4294967296) (k : Nat) : 0 ≤ octZ a k ∧ octZ a k < 256 := by
  rw [octZ_eq h0 h1]; omega
theorem pfxText_size (p : Pfx) (hp : p.Ok) : (pfxText p).size ≤ 200 := by
  unfold pfxText
  split
  · rename_i hm
    have hb : 0 ≤ p.b ∧ p.b ≤ 32 := by
      simp only [pfxMay, Bool.and_eq_true, decide_eq_true_eq] at hm
      exact hm.1
    have h := joinOf_size 20 (⟨#[46]⟩ : ByteArray) [digB (octZ p.a 24), digB (octZ p.a 16), digB (octZ p.a 8), digB (octZ p.a 0)] (by
      intro x hx
      simp only [List.mem_cons, List.not_mem_nil, or_false] at hx
      rcases hx with rfl | rfl | rfl | rfl
      all_goals exact digB_size _ (by have := (octZ_ok hp.1 hp.2 24).2; have := (octZ_ok hp.1 hp.2 16).2; have := (octZ_ok hp.1 hp.2 8).2; have := (octZ_ok hp.1 hp.2 0).2; omega))
    have h2 := digB_size p.b (by omega)
    have y1 : ((⟨#[46]⟩ : ByteArray)).size = 1 := rfl
    have y2 : ((⟨#[47]⟩ : ByteArray)).size = 1 := rfl
    simp only [List.length_cons, List.length_nil, y1] at h
    rw [szA, szA, y2]
    omega
  · rw [szE]; omega
def rngText (r : Rng) : ByteArray :=
  if rngMay r = true then
    (let s := (if r.permit = true then (⟨#[112, 101, 114, 109, 105, 116, 32]⟩ : ByteArray) else (⟨#[100, 101, 110, 121, 32]⟩ : ByteArray)) ++ pfxText r.p
     let s := if r.ge = r.p.b then s else s ++ ((⟨#[32, 103, 101, 32]⟩ : ByteArray) ++ digB r.ge)
     if r.le = r.ge then s else s ++ ((⟨#[32, 108, 101, 32]⟩ : ByteArray) ++ digB r.le))
  else ⟨#[]⟩
theorem rngText_size (r : Rng) (hp : r.p.Ok) : (rngText r).size ≤ 400 := by
  unfold rngText
  split
  · rename_i hm
    have hb : r.ge ≤ 32 ∧ r.le ≤ 32 := by
      simp only [rngMay, Bool.and_eq_true, decide_eq_true_eq] at hm
      omega
    have h1 := pfxText_size r.p hp
    have h2 := digB_size r.ge (by omega)
    have h3 := digB_size r.le (by omega)
    have y1 : ((⟨#[112, 101, 114, 109, 105, 116, 32]⟩ : ByteArray)).size = 7 := rfl
    have y2 : ((⟨#[100, 101, 110, 121, 32]⟩ : ByteArray)).size = 5 := rfl
    have y3 : ((⟨#[32, 103, 101, 32]⟩ : ByteArray)).size = 4 := rfl
    have y4 : ((⟨#[32, 108, 101, 32]⟩ : ByteArray)).size = 4 := rfl
    simp only
    split <;> split <;> split <;> simp only [szA, y1, y2, y3, y4] <;> omega
  · rw [szE]; omega
def repB (n : Nat) : ByteArray := ⟨(List.replicate n 32).toArray⟩
def lineB (n : Nat) (ws : List ByteArray) : ByteArray := repB n ++ (joinOf blk ws ++ (⟨#[10]⟩ : ByteArray))
def semi : List ByteArray → List ByteArray
  | [] => []
  | [x] => [x ++ (⟨#[59]⟩ : ByteArray)]
  | x :: r => x :: semi r
def someB (is : Bool) (ws : List ByteArray) : ByteArray := if is = true then lineB 2 (semi ws) else ⟨#[]⟩
def origin (n : Int) : ByteArray := if n = 1 then (⟨#[101, 103, 112]⟩ : ByteArray) else if n = 2 then (⟨#[110, 111, 110, 101]⟩ : ByteArray) else (⟨#[105, 103, 112]⟩ : ByteArray)
def max0 (n : Int) : Int := if n < 0 then 0 else n
def quoted (s : ByteArray) : ByteArray := (⟨#[34]⟩ : ByteArray) ++ s ++ (⟨#[34]⟩ : ByteArray)
def clsLines (c : Cls) : List ByteArray :=
  [lineB 1 [if c.permit = true then (⟨#[112, 101, 114, 109, 105, 116]⟩ : ByteArray) else (⟨#[100, 101, 110, 121]⟩ : ByteArray), digB c.n, (⟨#[123]⟩ : ByteArray)],
   someB (!decide (c.m.list = ⟨#[]⟩)) [(⟨#[109, 97, 116, 99, 104, 32, 112, 114, 101, 102, 105, 120]⟩ : ByteArray), c.m.list],
   someB (!decide (c.m.path = ⟨#[]⟩)) [(⟨#[109, 97, 116, 99, 104, 32, 112, 97, 116, 104]⟩ : ByteArray), quoted c.m.path],
   someB (!(decide (c.m.c.asn = 0) && decide (c.m.c.n = 0))) [(⟨#[109, 97, 116, 99, 104, 32, 99, 111, 109, 109, 117, 110, 105, 116, 121]⟩ : ByteArray), comText c.m.c],
   someB (decide ((0 : Int) ≤ c.s.pref)) [(⟨#[115, 101, 116, 32, 112, 114, 101, 102]⟩ : ByteArray), digB (max0 c.s.pref)],
   someB (decide ((0 : Int) ≤ c.s.med)) [(⟨#[115, 101, 116, 32, 109, 101, 100]⟩ : ByteArray), digB (max0 c.s.med)],
   someB (decide ((0 : Int) ≤ c.s.origin)) [(⟨#[115, 101, 116, 32, 111, 114, 105, 103, 105, 110]⟩ : ByteArray), origin (max0 c.s.origin)],
   someB c.s.clear [(⟨#[115, 101, 116, 32, 99, 111, 109, 109, 117, 110, 105, 116, 121, 32, 99, 108, 101, 97, 114]⟩ : ByteArray)],
   someB (decide ((0 : Int) < (c.s.del.length : Int))) [(⟨#[115, 101, 116, 32, 99, 111, 109, 109, 117, 110, 105, 116, 121, 32, 100, 101, 108]⟩ : ByteArray), joinOf blk (c.s.del.map comText)],
   someB (decide ((0 : Int) < (c.s.add.length : Int))) [(⟨#[115, 101, 116, 32, 99, 111, 109, 109, 117, 110, 105, 116, 121, 32, 97, 100, 100]⟩ : ByteArray), joinOf blk (c.s.add.map comText)],
   someB (decide ((0 : Int) < (c.s.pre.length : Int))) [(⟨#[115, 101, 116, 32, 112, 114, 101, 112, 101, 110, 100]⟩ : ByteArray), joinOf blk (c.s.pre.map digB)],
   lineB 1 [(⟨#[125]⟩ : ByteArray)]]
def clsText (c : Cls) : ByteArray := catB (clsLines c)
def lstText (x : LstD) : ByteArray := lineB 0 [(⟨#[112, 114, 101, 102, 105, 120, 45, 108, 105, 115, 116]⟩ : ByteArray), x.name, (⟨#[123]⟩ : ByteArray)] ++ (catB (x.l.map fun r => lineB 1 [rngText r ++ (⟨#[59]⟩ : ByteArray)]) ++ lineB 0 [(⟨#[125]⟩ : ByteArray)])
def mapText (x : MapD) : ByteArray := lineB 0 [(⟨#[114, 111, 117, 116, 101, 45, 109, 97, 112]⟩ : ByteArray), x.name, (⟨#[123]⟩ : ByteArray)] ++ (catB (x.l.map clsText) ++ lineB 0 [(⟨#[125]⟩ : ByteArray)])
def nw1 (n : Nbr) : ByteArray := if n.imp = ⟨#[]⟩ then n.name else n.name ++ ((⟨#[32, 105, 109, 112, 111, 114, 116, 32]⟩ : ByteArray) ++ n.imp)
def nw2 (n : Nbr) : ByteArray := if n.exp = ⟨#[]⟩ then nw1 n else nw1 n ++ ((⟨#[32, 101, 120, 112, 111, 114, 116, 32]⟩ : ByteArray) ++ n.exp)
def nbrWord (n : Nbr) : ByteArray := if n.client = true then nw2 n ++ (⟨#[32, 99, 108, 105, 101, 110, 116]⟩ : ByteArray) else nw2 n
def rtrText (x : Rtr) : ByteArray :=
  lineB 0 [(⟨#[114, 111, 117, 116, 101, 114]⟩ : ByteArray), x.name, (⟨#[123]⟩ : ByteArray)] ++ (lineB 1 [(⟨#[97, 115]⟩ : ByteArray), digB x.asn ++ (⟨#[59]⟩ : ByteArray)] ++ (lineB 1 [(⟨#[105, 100]⟩ : ByteArray), digB x.id ++ (⟨#[59]⟩ : ByteArray)] ++
    (catB (x.nets.map fun p => lineB 1 [(⟨#[110, 101, 116, 119, 111, 114, 107]⟩ : ByteArray), pfxText p ++ (⟨#[59]⟩ : ByteArray)]) ++ (catB (x.nbrs.map fun n => lineB 1 [(⟨#[110, 101, 105, 103, 104, 98, 111, 114]⟩ : ByteArray), nbrWord n ++ (⟨#[59]⟩ : ByteArray)]) ++
      (catB (x.links.map fun l => lineB 1 [(⟨#[108, 105, 110, 107]⟩ : ByteArray), l.name, (⟨#[99, 111, 115, 116]⟩ : ByteArray), digB l.cost ++ (⟨#[59]⟩ : ByteArray)]) ++ lineB 0 [(⟨#[125]⟩ : ByteArray)])))))
def cfgText (c : Cfg) : ByteArray := catB (c.lists.map lstText) ++ (catB (c.maps.map mapText) ++ catB (c.routers.map rtrText))
end Go.Proofs.YtaealcimocpnnaaGreat
namespace Go.Proofs.YtaealcimocpnnaaGreat
open Go.Kern Go.RowKit
theorem ck {P : Program} {f : FuncId} {args : List AV} {σ : Store} {K0 k : KK} {t : Tag k} (h : PCall P f args σ K0) (hk : ∀ r s, K0 r s → k r s) : PCall P f args σ (Hold k t) := h.mono hk
theorem ct {P : Program} {f : FuncId} {args : List AV} {v : AV} {k : AV → Prop} {σ : Store} (h : PCall P f args σ (fun r s' => r = v ∧ s' = σ)) (hk : k v) : ∃ v, PCall P f args σ (Hold (fun r s' => r = v ∧ s' = σ) .mk) ∧ k v := ⟨v, h, hk⟩
theorem liesW : LiesIn Tryz.prog 70 68 = true := by kernel_rfl
theorem xidE : XId Tryz.prog 180 := fun v w => by
  rw [run_callFunc_extern Tryz.func180 (by kernel_rfl) (by kernel_rfl) (by kernel_rfl) (e := Extern.AbiNoEscape.same) (by kernel_rfl)]
  rfl
set_option maxRecDepth 100000
set_option maxHeartbeats 4000000
attribute [local irreducible] PCall W
abbrev bldO (p buf : AV) : Ob := .arr 70 [.agg [p, buf]]
theorem copy_new (w : Nat) (buf : AV) (t : Store) (h : t w = some (bldO .nilp buf)) :
    PCall Tryz.prog 151 [.ptr w 0 0] t (fun r s => r = .tup [] ∧ s = t.put w (bldO (.ptr w 0 0) buf)) := by
  have hx := xidE
  have hl := liesW
  refine PCall_w [] 20 Tryz.func151 (by rfl) rfl rfl rfl rfl ?_
  repeat' first |refine s1 ?_|refine gS ?_|refine wT rfl ?_|refine wF rfl ?_|refine wt rfl ?_|refine wf rfl ?_|(refine wC rfl (fun h=>?_) (fun h=>?_)<;>(try contradiction))|((first|refine s3 (mu:=[1000010]) ?_|refine rd ?_|refine ry [1000010] c0 fun nu _ _=>?_);simp -dsimp (disch:=omega) only[go_sem,h, hx, hl])|refine e0 (by decide) ?_|(refine And.intro ?_ ?_;omega)|refine And.intro (of_eq_true PutAt_put) ?_|refine gT ?_|refine gF ?_|(refine gI (fun h=>?_) (fun h=>?_)<;>(try contradiction)<;>(try refine rd ?_)<;>(try simp -dsimp (disch:=omega) only[go_sem,h,h, hx, hl]))|refine Exists.intro _ (Exists.intro _ (And.intro (And.intro rfl rfl) ?_)) |fail
theorem copy_old (w : Nat) (buf : AV) (t : Store) (h : t w = some (bldO (.ptr w 0 0) buf)) :
    PCall Tryz.prog 151 [.ptr w 0 0] t (fun r s => r = .tup [] ∧ s = t) := by
  refine PCall_w [] 20 Tryz.func151 (by rfl) rfl rfl rfl rfl ?_
  repeat' first |refine s1 ?_|refine gS ?_|refine wT rfl ?_|refine wF rfl ?_|refine wt rfl ?_|refine wf rfl ?_|(refine wC rfl (fun h=>?_) (fun h=>?_)<;>(try contradiction))|((first|refine rd ?_|refine ry [] c0 fun nu _ _=>?_);simp -dsimp (disch:=omega) only[go_sem,h])|refine e0 (by decide) ?_|(refine And.intro ?_ ?_;omega)|refine And.intro (of_eq_true PutAt_put) ?_|refine gT ?_|refine gF ?_|(refine gI (fun h=>?_) (fun h=>?_)<;>(try contradiction)<;>(try refine rd ?_)<;>(try simp -dsimp (disch:=omega) only[go_sem,h,h]))|refine Exists.intro _ (Exists.intro _ (And.intro (And.intro rfl rfl) ?_)) |fail
def WS (σ : Store) (w : Nat) (s : ByteArray) (t : Store) : Prop :=
  σ.Sub t ∧ σ w = none ∧ ((s = ⟨#[]⟩ ∧ (t w = some (bldO .nilp (.sl .nil [])) ∨ t w = some (bldO (.ptr w 0 0) (.sl .nil [])))) ∨
    (0 < s.size ∧ ∃ o, o ≠ w ∧ σ o = none ∧ t w = some (bldO (.ptr w 0 0) (.ms o 1 0 s.size)) ∧ t o = some (.arr 5 (encL eB (B s)))))
theorem WS_put {σ t : Store} {w nu : Nat} {s : ByteArray} {x : Ob} (h : WS σ w s t) (hn : t nu = none) : WS σ w s (t.put nu x) := by
  obtain ⟨h1, h2, h3⟩ := h
  have hp : ∀ p y, t p = some y → (t.put nu x) p = some y := fun p y hy => by
    simp only [Store.put]
    rw [if_neg (fun e => by rw [e, hn] at hy; cases hy)]; exact hy
  refine ⟨fun p y hy => hp p y (h1 p y hy), h2, ?_⟩
  rcases h3 with ⟨h4, h5 | h5⟩ | ⟨h8, o, h4, h5, h6, h7⟩
  · exact .inl ⟨h4, .inl (hp _ _ h5)⟩
  · exact .inl ⟨h4, .inr (hp _ _ h5)⟩
  · exact .inr ⟨h8, o, h4, h5, hp _ _ h6, hp _ _ h7⟩
theorem WS_sub {σ σ' t : Store} {w : Nat} {s : ByteArray} (h : WS σ' w s t) (hs : σ.Sub σ') : WS σ w s t := by
  obtain ⟨h1, h2, h3⟩ := h
  have hn : ∀ p, σ' p = none → σ p = none := fun p hp => by
    cases hq : σ p with
    | none => rfl
    | some y => rw [hs p y hq] at hp; cases hp
  refine ⟨fun p y hy => h1 p y (hs p y hy), hn _ h2, ?_⟩
  rcases h3 with h3 | ⟨h8, o, h4, h5, h6⟩
  · exact .inl h3
  · exact .inr ⟨h8, o, h4, hn _ h5, h6⟩
theorem WS_ne {σ t : Store} {w nu : Nat} {s : ByteArray} (h : WS σ w s t) (hn : t nu = none) : nu ≠ w := fun e => by
  obtain ⟨_, _, h3⟩ := h
  rcases h3 with ⟨_, h3 | h3⟩ | ⟨_, _, _, _, h3, _⟩ <;> (rw [e, h3] at hn; cases hn)
theorem WS_put2 {σ t : Store} {w nu : Nat} {s : ByteArray} {x : Ob} (h : WS σ w s t) (hn : t nu = none) : WS (σ.put nu x) w s (t.put nu x) := by
  have hne := WS_ne h hn
  obtain ⟨h1, h2, h3⟩ := h
  have hp : ∀ p y, t p = some y → (t.put nu x) p = some y := fun p y hy => by
    simp only [Store.put]
    rw [if_neg (fun e => by rw [e, hn] at hy; cases hy)]; exact hy
  refine ⟨fun p y hy => ?_, by rw [put_ne (Ne.symm hne)]; exact h2, ?_⟩
  · simp only [Store.put] at hy ⊢
    split
    · rename_i e; rw [if_pos e] at hy; exact hy
    · rename_i e; rw [if_neg e] at hy; exact h1 p y hy
  rcases h3 with ⟨h4, h5 | h5⟩ | ⟨h8, o, h4, h5, h6, h7⟩
  · exact .inl ⟨h4, .inl (hp _ _ h5)⟩
  · exact .inl ⟨h4, .inr (hp _ _ h5)⟩
  · exact .inr ⟨h8, o, h4, by rw [put_ne (fun e => by rw [e, hn] at h7; cases h7)]; exact h5, hp _ _ h6, hp _ _ h7⟩
theorem Sub_none {σ t : Store} {o : Nat} (h : σ.Sub t) (ho : t o = none) : σ o = none := by
  cases hq : σ o with
  | none => rfl
  | some y => rw [h o y hq] at ho; cases ho
theorem B_app (a b : ByteArray) : B (a ++ b) = B a ++ B b := by simp [B]
theorem str_spec {σ t : Store} {w : Nat} {s : ByteArray} (x : ByteArray) (h : WS σ w s t) (hb : s.size + x.size ≤ 140737488355328) :
    PCall Tryz.prog 114 [.ptr w 0 0, .str x] t (fun r t' => r = .tup [.int .i64 x.size, .nilifc] ∧ WS σ w (s ++ x) t') := by
  obtain ⟨h1, h2, h3⟩ := h
  have hsub : ∀ (y : Ob), σ.Sub (t.put w y) := fun y => Sub_put h1 h2 y
  have hlx : (bytesA x).length = x.size := length_bytesA x
  rcases h3 with ⟨rfl, h5⟩ | ⟨h8, o, h4, h5, h6, h7⟩
  · have hc : PCall Tryz.prog 151 [.ptr w 0 0] t (fun r s => r = .tup [] ∧ s = t.put w (bldO (.ptr w 0 0) (.sl .nil []))) := by
      rcases h5 with h5 | h5
      · exact copy_new w _ t h5
      · rw [put_self h5]; exact copy_old w _ t h5
    by_cases hx : x.size = 0
    · skip
      refine PCall_w [.tmp 4, .tmp 5] 19 Tryz.func114 (by rfl) rfl rfl rfl rfl ?_
      repeat' first |refine s1 ?_|refine gS ?_|refine wT rfl ?_|refine wF rfl ?_|refine wt rfl ?_|refine wf rfl ?_|(refine wC rfl (fun h=>?_) (fun h=>?_)<;>(try contradiction))|((first|refine rd ?_|refine ry [] c0 fun nu _ _=>?_);simp -dsimp (disch:=omega) only[go_sem,hx])|refine e0 (by decide) ?_|(refine And.intro ?_ ?_;omega)|refine And.intro (of_eq_true PutAt_put) ?_|refine gT ?_|refine gF ?_|(refine gI (fun h=>?_) (fun h=>?_)<;>(try contradiction)<;>(try refine rd ?_)<;>(try simp -dsimp (disch:=omega) only[go_sem,h,hx]))|refine Exists.intro _ (Exists.intro _ (And.intro (And.intro rfl rfl) ?_)) |refine uw (hc) ?_ |fail
      refine ⟨_, Store.Sub.refl _, hsub _, h2, .inl ⟨?_, .inr (put_same ..)⟩⟩
      rw [(empty_iff x).2 hx]; rfl
    · skip
      refine PCall_w [.tmp 4, .tmp 5] 19 Tryz.func114 (by rfl) rfl rfl rfl rfl ?_
      repeat' first |refine s1 ?_|refine gS ?_|refine wT rfl ?_|refine wF rfl ?_|refine wt rfl ?_|refine wf rfl ?_|(refine wC rfl (fun h=>?_) (fun h=>?_)<;>(try contradiction))|((first|refine rd ?_|refine ry [] c0 fun nu _ _=>?_);simp -dsimp (disch:=omega) only[go_sem,hx])|refine e0 (by decide) ?_|(refine And.intro ?_ ?_;omega)|refine And.intro (of_eq_true PutAt_put) ?_|refine gT ?_|refine gF ?_|(refine gI (fun h=>?_) (fun h=>?_)<;>(try contradiction)<;>(try refine rd ?_)<;>(try simp -dsimp (disch:=omega) only[go_sem,h,hx]))|refine Exists.intro _ (Exists.intro _ (And.intro (And.intro rfl rfl) ?_)) |refine uw (hc) ?_ |fail
      intro o' ho'
      have hne := alloc_ne ho'
      have hot : t o' = none := by rw [← put_oth hne t]; exact ho'
      have hpn : ∀ (s : Store) (x : Ob), (s.put o' x) w = s w := fun s x => put_ne (Ne.symm hne)
      simp -dsimp (disch:=omega) only[go_sem,hpn]
      repeat' first |refine s1 ?_|refine gS ?_|refine wT rfl ?_|refine wF rfl ?_|refine wt rfl ?_|refine wf rfl ?_|(refine wC rfl (fun h=>?_) (fun h=>?_)<;>(try contradiction))|((first|refine rd ?_|refine ry [] c0 fun nu _ _=>?_);simp -dsimp (disch:=omega) only[go_sem,hpn])|refine e0 (by decide) ?_|(refine And.intro ?_ ?_;omega)|refine And.intro (of_eq_true PutAt_put) ?_|refine gT ?_|refine gF ?_|(refine gI (fun h=>?_) (fun h=>?_)<;>(try contradiction)<;>(try refine rd ?_)<;>(try simp -dsimp (disch:=omega) only[go_sem,h,hpn]))|refine Exists.intro _ (Exists.intro _ (And.intro (And.intro rfl rfl) ?_)) |fail
      have hem : (⟨#[]⟩ : ByteArray) ++ x = x := eA x
      refine ⟨_, Store.Sub.refl _, ?_, h2, .inr ⟨by rw [szA]; omega, o', hne, ?_, ?_, ?_⟩⟩
      · exact Sub_put (Sub_put (hsub _) (Sub_none h1 hot) _) h2 _
      · exact Sub_none h1 hot
      · rw [put_same, hem]
      · rw [put_ne hne, put_same, hem]
  · have hlb := length_B s
    have htk : (encL eB (B s)).take s.size = encL eB (B s) := by rw [take_encL, ← hlb, List.take_length]
    by_cases hx : x.size = 0
    · skip
      refine PCall_w [.tmp 4, .tmp 5] 19 Tryz.func114 (by rfl) rfl rfl rfl rfl ?_
      repeat' first |refine s1 ?_|refine gS ?_|refine wT rfl ?_|refine wF rfl ?_|refine wt rfl ?_|refine wf rfl ?_|(refine wC rfl (fun h=>?_) (fun h=>?_)<;>(try contradiction))|((first|refine rd ?_|refine ry [] c0 fun nu _ _=>?_);simp -dsimp (disch:=omega) only[go_sem,hx, h6, h7, hlb])|refine e0 (by decide) ?_|(refine And.intro ?_ ?_;omega)|refine And.intro (of_eq_true PutAt_put) ?_|refine gT ?_|refine gF ?_|(refine gI (fun h=>?_) (fun h=>?_)<;>(try contradiction)<;>(try refine rd ?_)<;>(try simp -dsimp (disch:=omega) only[go_sem,h,hx, h6, h7, hlb]))|refine Exists.intro _ (Exists.intro _ (And.intro (And.intro rfl rfl) ?_)) |refine uw (copy_old w _ t h6) ?_ |fail
      refine ⟨_, Store.Sub.refl _, ?_⟩
      rw [put_self h6, (empty_iff x).2 hx, emA]
      exact ⟨h1, h2, .inr ⟨h8, o, h4, h5, h6, h7⟩⟩
    · skip
      refine PCall_w [.tmp 4, .tmp 5] 19 Tryz.func114 (by rfl) rfl rfl rfl rfl ?_
      repeat' first |refine s1 ?_|refine gS ?_|refine wT rfl ?_|refine wF rfl ?_|refine wt rfl ?_|refine wf rfl ?_|(refine wC rfl (fun h=>?_) (fun h=>?_)<;>(try contradiction))|((first|refine rd ?_|refine ry [] c0 fun nu _ _=>?_);simp -dsimp (disch:=omega) only[go_sem,hx, h6, h7, hlb, htk, app_encL])|refine e0 (by decide) ?_|(refine And.intro ?_ ?_;omega)|refine And.intro (of_eq_true PutAt_put) ?_|refine gT ?_|refine gF ?_|(refine gI (fun h=>?_) (fun h=>?_)<;>(try contradiction)<;>(try refine rd ?_)<;>(try simp -dsimp (disch:=omega) only[go_sem,h,hx, h6, h7, hlb, htk, app_encL]))|refine Exists.intro _ (Exists.intro _ (And.intro (And.intro rfl rfl) ?_)) |refine uw (copy_old w _ t h6) ?_ |fail
      intro o' ho'
      have hne : o' ≠ w := fun e => by rw [e, h6] at ho'; cases ho'
      have hpn : ∀ (s : Store) (x : Ob), (s.put o' x) w = s w := fun s x => put_ne (Ne.symm hne)
      have hdr : (t.drop o) w = t w := by simp only [Store.drop]; rw [if_neg (Ne.symm h4)]
      simp -dsimp (disch:=omega) only[go_sem,hpn, hdr, h6]
      repeat' first |refine s1 ?_|refine gS ?_|refine wT rfl ?_|refine wF rfl ?_|refine wt rfl ?_|refine wf rfl ?_|(refine wC rfl (fun h=>?_) (fun h=>?_)<;>(try contradiction))|((first|refine rd ?_|refine ry [] c0 fun nu _ _=>?_);simp -dsimp (disch:=omega) only[go_sem,hpn, hdr, h6])|refine e0 (by decide) ?_|(refine And.intro ?_ ?_;omega)|refine And.intro (of_eq_true PutAt_put) ?_|refine gT ?_|refine gF ?_|(refine gI (fun h=>?_) (fun h=>?_)<;>(try contradiction)<;>(try refine rd ?_)<;>(try simp -dsimp (disch:=omega) only[go_sem,h,hpn, hdr, h6]))|refine Exists.intro _ (Exists.intro _ (And.intro (And.intro rfl rfl) ?_)) |fail
      refine ⟨_, Store.Sub.refl _, ?_, h2, .inr ⟨by rw [szA]; omega, o', hne, ?_, ?_, ?_⟩⟩
      · refine Sub_put (Sub_put (fun p y hp => ?_) (Sub_none h1 ho') _) h2 _
        simp only [Store.drop]
        rw [if_neg (fun e => by rw [e, h5] at hp; cases hp)]
        exact h1 p y hp
      · exact Sub_none h1 ho'
      · rw [put_same, szA]
      · rw [put_ne hne, put_same, B_app]
theorem rep_spec (n : Nat) (h : n ≤ 2) : Pure Tryz.prog 115 [.str ⟨#[32]⟩, .int .i64 n] (.str (repB n)) := by
  have h1 := repeat_spec ⟨#[32]⟩ n (by omega) (by simp [ByteArray.size]; omega)
  have e : (⟨(Lib.repeatL (⟨#[32]⟩ : ByteArray).data.toList n).toArray⟩ : ByteArray) = repB n := by
    match n, h with
    | 0, _ => rfl
    | 1, _ => rfl
    | 2, _ => rfl
  rw [e] at h1
  exact h1
theorem line_any {σ t : Store} {w : Nat} {s : ByteArray} (n : Nat) (ws : AV) (j : ByteArray) (h : WS σ w s t) (hn : n ≤ 2) (hj : ∀ t', σ.Sub t' → PCall Tryz.prog 116 [ws, .str ⟨#[32]⟩] t' (fun r s => r = .str j ∧ s = t'))
    (hb : s.size + (repB n ++ (j ++ (⟨#[10]⟩ : ByteArray))).size ≤ 140737488355328) :
    PCall Tryz.prog 56 [.ptr w 0 0, .int .i64 n, ws] t (fun r t' => r = .tup [] ∧ WS σ w (s ++ (repB n ++ (j ++ (⟨#[10]⟩ : ByteArray)))) t') := by
  have h1 := rep_spec n hn
  simp only [szA] at hb
  refine PCall_w [] 22 Tryz.func56 (by rfl) rfl rfl rfl rfl ?_
  repeat' first |refine s1 ?_|refine gS ?_|refine wT rfl ?_|refine wF rfl ?_|refine wt rfl ?_|refine wf rfl ?_|(refine wC rfl (fun h=>?_) (fun h=>?_)<;>(try contradiction))|((first|refine rd ?_|refine ry (id:=0) [] (cw [] [5] [] [] [5]) fun nu _ _=>?_|refine ry (id:=1) [] (cw [4] [5] [] [] [5]) fun nu _ _=>?_|refine ry [] c0 fun nu _ _=>?_);simp -dsimp (disch:=omega) only[go_sem])|refine e0 (by decide) ?_|(refine And.intro ?_ ?_;omega)|refine And.intro (of_eq_true PutAt_put) ?_|refine gT ?_|refine gF ?_|(refine gI (fun h=>?_) (fun h=>?_)<;>(try contradiction)<;>(try refine rd ?_)<;>(try simp -dsimp (disch:=omega) only[go_sem,h]))|refine Exists.intro _ (Exists.intro _ (And.intro (And.intro rfl rfl) ?_)) |refine us (h1) ?_ |fail
  refine ck (str_spec _ h (by omega)) ?_
  rintro _ t1 ⟨rfl, hw⟩
  repeat' first |refine s1 ?_|refine gS ?_|refine wT rfl ?_|refine wF rfl ?_|refine wt rfl ?_|refine wf rfl ?_|(refine wC rfl (fun h=>?_) (fun h=>?_)<;>(try contradiction))|((first|refine rd ?_|refine ry (id:=1) [] (cw [4] [5] [] [] [5]) fun nu _ _=>?_|refine ry [] c0 fun nu _ _=>?_);simp -dsimp (disch:=omega) only[go_sem])|refine e0 (by decide) ?_|(refine And.intro ?_ ?_;omega)|refine And.intro (of_eq_true PutAt_put) ?_|refine gT ?_|refine gF ?_|(refine gI (fun h=>?_) (fun h=>?_)<;>(try contradiction)<;>(try refine rd ?_)<;>(try simp -dsimp (disch:=omega) only[go_sem,h]))|refine Exists.intro _ (Exists.intro _ (And.intro (And.intro rfl rfl) ?_)) |refine ct (hj _ hw.1) ?_ |fail
  refine ck (str_spec _ hw (by simp only [szA]; omega)) ?_
  rintro _ t2 ⟨rfl, hw2⟩
  repeat' first |refine s1 ?_|refine gS ?_|refine wT rfl ?_|refine wF rfl ?_|refine wt rfl ?_|refine wf rfl ?_|(refine wC rfl (fun h=>?_) (fun h=>?_)<;>(try contradiction))|((first|refine rd ?_|refine ry [] c0 fun nu _ _=>?_);simp -dsimp (disch:=omega) only[go_sem])|refine e0 (by decide) ?_|(refine And.intro ?_ ?_;omega)|refine And.intro (of_eq_true PutAt_put) ?_|refine gT ?_|refine gF ?_|(refine gI (fun h=>?_) (fun h=>?_)<;>(try contradiction)<;>(try refine rd ?_)<;>(try simp -dsimp (disch:=omega) only[go_sem,h]))|refine Exists.intro _ (Exists.intro _ (And.intro (And.intro rfl rfl) ?_)) |fail
  refine ck (str_spec _ hw2 (by simp only [szA]; omega)) ?_
  rintro _ t3 ⟨rfl, hw3⟩
  repeat' first |refine s1 ?_|refine gS ?_|refine wT rfl ?_|refine wF rfl ?_|refine wt rfl ?_|refine wf rfl ?_|(refine wC rfl (fun h=>?_) (fun h=>?_)<;>(try contradiction))|((first|refine rd ?_|refine ry [] c0 fun nu _ _=>?_);simp -dsimp (disch:=omega) only[go_sem])|refine e0 (by decide) ?_|(refine And.intro ?_ ?_;omega)|refine And.intro (of_eq_true PutAt_put) ?_|refine gT ?_|refine gF ?_|(refine gI (fun h=>?_) (fun h=>?_)<;>(try contradiction)<;>(try refine rd ?_)<;>(try simp -dsimp (disch:=omega) only[go_sem,h]))|refine Exists.intro _ (Exists.intro _ (And.intro (And.intro rfl rfl) ?_)) |fail
  refine ⟨_, Store.Sub.refl _, ?_⟩
  simp only [asA] at hw3
  exact hw3
theorem line_sl {σ t : Store} {w : Nat} {s : ByteArray} (n : Nat) (k : SK) (ws : List ByteArray) (h : WS σ w s t) (hn : n ≤ 2) (hl : ws.length ≤ 10) (hb : s.size + (lineB n ws).size ≤ 140737488355328) :
    PCall Tryz.prog 56 [.ptr w 0 0, .int .i64 n, .sl k (ws.map AV.str)] t (fun r t' => r = .tup [] ∧ WS σ w (s ++ lineB n ws) t') :=
  line_any n _ _ h hn (fun t' _ => join_sl joinOk k ws blk (by omega) (by unfold lineB at hb; simp only [szA] at hb; omega) t') hb
theorem line_ms {σ t : Store} {w o : Nat} {e : TypeId} {s : ByteArray} (n : Nat) (ws : List ByteArray) (h : WS σ w s t) (ho : σ o = some (.arr e (ws.map AV.str))) (hne : ws ≠ []) (hn : n ≤ 2) (hl : ws.length ≤ 10) (hb : s.size + (lineB n ws).size ≤ 140737488355328) :
    PCall Tryz.prog 56 [.ptr w 0 0, .int .i64 n, .ms o 1 0 ws.length] t (fun r t' => r = .tup [] ∧ WS σ w (s ++ lineB n ws) t') :=
  line_any n _ _ h hn (fun t' ht => join_ms joinOk o e ws blk (by omega) (by unfold lineB at hb; simp only [szA] at hb; omega) hne t' (ht o _ ho)) hb
theorem line1 {σ t : Store} {w : Nat} {s : ByteArray} (n : Nat) (k : SK) (a : ByteArray) (h : WS σ w s t) (hn : n ≤ 2) (hb : s.size + (lineB n [a]).size ≤ 140737488355328) :
    PCall Tryz.prog 56 [.ptr w 0 0, .int .i64 n, .sl k [.str a]] t (fun r t' => r = .tup [] ∧ WS σ w (s ++ lineB n [a]) t') := line_sl n k [a] h hn (by simp) hb
theorem line2 {σ t : Store} {w : Nat} {s : ByteArray} (n : Nat) (k : SK) (a b : ByteArray) (h : WS σ w s t) (hn : n ≤ 2) (hb : s.size + (lineB n [a, b]).size ≤ 140737488355328) :
    PCall Tryz.prog 56 [.ptr w 0 0, .int .i64 n, .sl k [.str a, .str b]] t (fun r t' => r = .tup [] ∧ WS σ w (s ++ lineB n [a, b]) t') := line_sl n k [a, b] h hn (by simp) hb
theorem line3 {σ t : Store} {w : Nat} {s : ByteArray} (n : Nat) (k : SK) (a b c : ByteArray) (h : WS σ w s t) (hn : n ≤ 2) (hb : s.size + (lineB n [a, b, c]).size ≤ 140737488355328) :
    PCall Tryz.prog 56 [.ptr w 0 0, .int .i64 n, .sl k [.str a, .str b, .str c]] t (fun r t' => r = .tup [] ∧ WS σ w (s ++ lineB n [a, b, c]) t') := line_sl n k [a, b, c] h hn (by simp) hb
theorem line4 {σ t : Store} {w : Nat} {s : ByteArray} (n : Nat) (k : SK) (a b c d : ByteArray) (h : WS σ w s t) (hn : n ≤ 2) (hb : s.size + (lineB n [a, b, c, d]).size ≤ 140737488355328) :
    PCall Tryz.prog 56 [.ptr w 0 0, .int .i64 n, .sl k [.str a, .str b, .str c, .str d]] t (fun r t' => r = .tup [] ∧ WS σ w (s ++ lineB n [a, b, c, d]) t') := line_sl n k [a, b, c, d] h hn (by simp) hb
theorem some1 {σ t : Store} {w o : Nat} {e : TypeId} {s : ByteArray} (is : Bool) (a : ByteArray) (h : WS σ w s t) (hn : t o = none) (hb : s.size + (someB is [a]).size ≤ 140737488355328) (hb1 : a.size ≤ 140737488355328) :
    PCall Tryz.prog 118 [.ptr w 0 0, .bool is, .ms o 1 0 1] (t.put o (.arr e [.str a])) (fun r t' => r = .tup [] ∧ WS σ w (s ++ someB is [a]) t') := by
  have hσo := Sub_none h.1 hn
  refine PCall_w [] 18 Tryz.func118 (by rfl) rfl rfl rfl rfl ?_
  rcases Bool.eq_false_or_eq_true is with rfl | rfl
  · have hs1 : (⟨#[59]⟩ : ByteArray).size = 1 := rfl
    have hi1 : (((1 : Nat) : Int) - 1).toNat = 0 := rfl
    repeat' first |refine s1 ?_|refine gS ?_|refine wT rfl ?_|refine wF rfl ?_|refine wt rfl ?_|refine wf rfl ?_|(refine wC rfl (fun h=>?_) (fun h=>?_)<;>(try contradiction))|((first|refine rd ?_|refine ry [] c0 fun nu _ _=>?_);simp -dsimp (disch:=omega) only[go_sem,szA, hs1, hi1])|refine e0 (by decide) ?_|(refine And.intro ?_ ?_;omega)|refine And.intro (of_eq_true PutAt_put) ?_|refine gT ?_|refine gF ?_|(refine gI (fun h=>?_) (fun h=>?_)<;>(try contradiction)<;>(try refine rd ?_)<;>(try simp -dsimp (disch:=omega) only[go_sem,h,szA, hs1, hi1]))|refine Exists.intro _ (Exists.intro _ (And.intro (And.intro rfl rfl) ?_)) |fail
    have hw1 : WS (σ.put o (.arr e [.str (a ++ (⟨#[59]⟩ : ByteArray))])) w s (t.put o (.arr e [.str (a ++ (⟨#[59]⟩ : ByteArray))])) := WS_put2 h hn
    refine ck (line_ms 2 [a ++ (⟨#[59]⟩ : ByteArray)] hw1 (put_same ..) (by simp) (by omega) (by simp) hb) ?_
    rintro _ t1 ⟨rfl, hw⟩
    repeat' first |refine s1 ?_|refine gS ?_|refine wT rfl ?_|refine wF rfl ?_|refine wt rfl ?_|refine wf rfl ?_|(refine wC rfl (fun h=>?_) (fun h=>?_)<;>(try contradiction))|((first|refine rd ?_|refine ry [] c0 fun nu _ _=>?_);simp -dsimp (disch:=omega) only[go_sem])|refine e0 (by decide) ?_|(refine And.intro ?_ ?_;omega)|refine And.intro (of_eq_true PutAt_put) ?_|refine gT ?_|refine gF ?_|(refine gI (fun h=>?_) (fun h=>?_)<;>(try contradiction)<;>(try refine rd ?_)<;>(try simp -dsimp (disch:=omega) only[go_sem,h]))|refine Exists.intro _ (Exists.intro _ (And.intro (And.intro rfl rfl) ?_)) |fail
    exact ⟨_, Store.Sub.refl _, WS_sub hw (Sub_new hσo)⟩
  · skip
    repeat' first |refine s1 ?_|refine gS ?_|refine wT rfl ?_|refine wF rfl ?_|refine wt rfl ?_|refine wf rfl ?_|(refine wC rfl (fun h=>?_) (fun h=>?_)<;>(try contradiction))|((first|refine rd ?_|refine ry [] c0 fun nu _ _=>?_);simp -dsimp (disch:=omega) only[go_sem])|refine e0 (by decide) ?_|(refine And.intro ?_ ?_;omega)|refine And.intro (of_eq_true PutAt_put) ?_|refine gT ?_|refine gF ?_|(refine gI (fun h=>?_) (fun h=>?_)<;>(try contradiction)<;>(try refine rd ?_)<;>(try simp -dsimp (disch:=omega) only[go_sem,h]))|refine Exists.intro _ (Exists.intro _ (And.intro (And.intro rfl rfl) ?_)) |fail
    refine ⟨_, Store.Sub.refl _, ?_⟩
    rw [show someB false [a] = ⟨#[]⟩ from rfl, emA]
    exact WS_put h hn
theorem some2 {σ t : Store} {w o : Nat} {e : TypeId} {s : ByteArray} (is : Bool) (a b : ByteArray) (h : WS σ w s t) (hn : t o = none) (hb : s.size + (someB is [a, b]).size ≤ 140737488355328) (hb1 : b.size ≤ 140737488355328) :
    PCall Tryz.prog 118 [.ptr w 0 0, .bool is, .ms o 1 0 2] (t.put o (.arr e [.str a, .str b])) (fun r t' => r = .tup [] ∧ WS σ w (s ++ someB is [a, b]) t') := by
  have hσo := Sub_none h.1 hn
  refine PCall_w [] 18 Tryz.func118 (by rfl) rfl rfl rfl rfl ?_
  rcases Bool.eq_false_or_eq_true is with rfl | rfl
  · have hs1 : (⟨#[59]⟩ : ByteArray).size = 1 := rfl
    have hi1 : (((2 : Nat) : Int) - 1).toNat = 1 := rfl
    repeat' first |refine s1 ?_|refine gS ?_|refine wT rfl ?_|refine wF rfl ?_|refine wt rfl ?_|refine wf rfl ?_|(refine wC rfl (fun h=>?_) (fun h=>?_)<;>(try contradiction))|((first|refine rd ?_|refine ry [] c0 fun nu _ _=>?_);simp -dsimp (disch:=omega) only[go_sem,szA, hs1, hi1])|refine e0 (by decide) ?_|(refine And.intro ?_ ?_;omega)|refine And.intro (of_eq_true PutAt_put) ?_|refine gT ?_|refine gF ?_|(refine gI (fun h=>?_) (fun h=>?_)<;>(try contradiction)<;>(try refine rd ?_)<;>(try simp -dsimp (disch:=omega) only[go_sem,h,szA, hs1, hi1]))|refine Exists.intro _ (Exists.intro _ (And.intro (And.intro rfl rfl) ?_)) |fail
    have hw1 : WS (σ.put o (.arr e [.str a, .str (b ++ (⟨#[59]⟩ : ByteArray))])) w s (t.put o (.arr e [.str a, .str (b ++ (⟨#[59]⟩ : ByteArray))])) := WS_put2 h hn
    refine ck (line_ms 2 [a, b ++ (⟨#[59]⟩ : ByteArray)] hw1 (put_same ..) (by simp) (by omega) (by simp) hb) ?_
    rintro _ t1 ⟨rfl, hw⟩
    repeat' first |refine s1 ?_|refine gS ?_|refine wT rfl ?_|refine wF rfl ?_|refine wt rfl ?_|refine wf rfl ?_|(refine wC rfl (fun h=>?_) (fun h=>?_)<;>(try contradiction))|((first|refine rd ?_|refine ry [] c0 fun nu _ _=>?_);simp -dsimp (disch:=omega) only[go_sem])|refine e0 (by decide) ?_|(refine And.intro ?_ ?_;omega)|refine And.intro (of_eq_true PutAt_put) ?_|refine gT ?_|refine gF ?_|(refine gI (fun h=>?_) (fun h=>?_)<;>(try contradiction)<;>(try refine rd ?_)<;>(try simp -dsimp (disch:=omega) only[go_sem,h]))|refine Exists.intro _ (Exists.intro _ (And.intro (And.intro rfl rfl) ?_)) |fail
    exact ⟨_, Store.Sub.refl _, WS_sub hw (Sub_new hσo)⟩
  · skip
    repeat' first |refine s1 ?_|refine gS ?_|refine wT rfl ?_|refine wF rfl ?_|refine wt rfl ?_|refine wf rfl ?_|(refine wC rfl (fun h=>?_) (fun h=>?_)<;>(try contradiction))|((first|refine rd ?_|refine ry [] c0 fun nu _ _=>?_);simp -dsimp (disch:=omega) only[go_sem])|refine e0 (by decide) ?_|(refine And.intro ?_ ?_;omega)|refine And.intro (of_eq_true PutAt_put) ?_|refine gT ?_|refine gF ?_|(refine gI (fun h=>?_) (fun h=>?_)<;>(try contradiction)<;>(try refine rd ?_)<;>(try simp -dsimp (disch:=omega) only[go_sem,h]))|refine Exists.intro _ (Exists.intro _ (And.intro (And.intro rfl rfl) ?_)) |fail
    refine ⟨_, Store.Sub.refl _, ?_⟩
    rw [show someB false [a, b] = ⟨#[]⟩ from rfl, emA]
    exact WS_put h hn
end Go.Proofs.YtaealcimocpnnaaGreat
