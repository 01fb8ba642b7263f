/- What the claim needs, part 4: Br Bs Bn Bt Bu Bv Bw Bx Cb Cg Ch. Conditions: none. -/
import Derived.Test.YtaealcimocpnnaaGreatPrc
set_option linter.unusedVariables false
set_option linter.unusedSimpArgs false
set_option linter.unusedSectionVars false
namespace Go.Proofs.YtaealcimocpnnaaGreat
open Go.Kern Go.RowKit
theorem wr32 {x : Int} (h1 : 0 ≤ x) (h2 : x ≤ 4294967295) : IntKind.u32.wrap x = x := IntWalk.u32_in _ ⟨h1, h2⟩
theorem sz1 (x : UInt8) : (⟨#[x]⟩ : ByteArray).size = 1 := rfl
theorem wr8' {x : Int} (h1 : 0 ≤ x) (h2 : x < 10) : IntKind.u8.wrap (48 + x) = 48 + x := wr8 (by omega) (by omega)
theorem toN {x : Int} (h1 : 0 ≤ x) : (48 + x).toNat = 48 + x.toNat := by omega
theorem t10 : ((10 : Int) = 0) = False := eq_false (by decide)
theorem un1 (x : UInt8) : ({ data := #[x] ++ ByteArray.empty.data } : ByteArray) = ⟨#[x]⟩ := rfl
theorem un2 (x y : UInt8) : ({ data := #[x] ++ #[y] } : ByteArray) = ⟨#[x, y]⟩ := rfl
set_option maxRecDepth 100000
set_option maxHeartbeats 4000000
attribute [local irreducible] PCall W
theorem digS_spec : ∀ (m : Nat) (n : Int), 0 ≤ n → n.toNat < m → n ≤ 9223372036854775807 → Pure Tryz.prog 59 [.int .i64 n] (.str (digB n))
  | 0, n, h0, hm, hb => absurd hm (Nat.not_lt_zero _)
  | m + 1, n, h0, hm, hb => by
    intro σ
    have w1 : IntKind.i64.wrap (48 + n % 10) = 48 + n % 10 := wrI (by omega) (by omega)
    have hr : n.tmod 10 = n % 10 := Int.tmod_eq_emod_of_nonneg h0
    have hq : n.tdiv 10 = n / 10 := Int.tdiv_eq_ediv_of_nonneg h0
    have w2 : IntKind.i64.wrap (n / 10) = n / 10 := wrI (by omega) (by omega)
    by_cases h : n < 10
    · have w3 : IntKind.i64.wrap (48 + n) = 48 + n := wrI (by omega) (by omega)
      rw [digB_small n h, ← toN h0]
      refine PCall_q [.tmp 2] 20 Tryz.func59 (by rfl) rfl rfl rfl rfl ?_
      repeat' first |refine s1 ?_|refine gS ?_|refine wT rfl ?_|refine wF rfl ?_|refine wt rfl ?_|refine wf rfl ?_|(refine wC rfl (fun h=>?_) (fun h=>?_)<;>(try contradiction))|((first|refine rd ?_|refine ry [] c0 fun nu _ _=>?_);simp -dsimp (disch:=omega) only[go_sem,w3, wr8' h0 h, un1])|refine e0 (by decide) ?_|(refine And.intro ?_ ?_;omega)|refine And.intro (of_eq_true PutAt_put) ?_|refine gT ?_|refine gF ?_|(refine gI (fun h=>?_) (fun h=>?_)<;>(try contradiction)<;>(try refine rd ?_)<;>(try simp -dsimp (disch:=omega) only[go_sem,h,w3, wr8' h0 h, un1]))|refine Exists.intro _ (Exists.intro _ (And.intro (And.intro rfl rfl) ?_)) |fail
    · have ih := digS_spec m (n / 10) (by omega) (by omega) (by omega)
      have z := digB_size (n / 10) (by omega)
      have h2 := wr8' (x := n % 10) (by omega) (by omega)
      rw [digB_step n h0 h, ← toN (x := n % 10) (by omega)]
      refine PCall_q [.tmp 2] 20 Tryz.func59 (by rfl) rfl rfl rfl rfl ?_
      repeat' first |refine s1 ?_|refine gS ?_|refine wT rfl ?_|refine wF rfl ?_|refine wt rfl ?_|refine wf rfl ?_|(refine wC rfl (fun h=>?_) (fun h=>?_)<;>(try contradiction))|((first|refine rd ?_|refine ry [] c0 fun nu _ _=>?_);simp -dsimp (disch:=omega) only[go_sem,hq, hr, w1, w2, h2, sz1, t10, un1, c0])|refine e0 (by decide) ?_|(refine And.intro ?_ ?_;omega)|refine And.intro (of_eq_true PutAt_put) ?_|refine gT ?_|refine gF ?_|(refine gI (fun h=>?_) (fun h=>?_)<;>(try contradiction)<;>(try refine rd ?_)<;>(try simp -dsimp (disch:=omega) only[go_sem,h,hq, hr, w1, w2, h2, sz1, t10, un1, c0]))|refine Exists.intro _ (Exists.intro _ (And.intro (And.intro rfl rfl) ?_)) |refine us (ih) ?_ |fail
theorem digC_spec : ∀ (m : Nat) (n : Int), 0 ≤ n → n.toNat < m → n ≤ 9223372036854775807 → Pure Tryz.prog 158 [.int .i64 n] (.str (digB n))
  | 0, n, h0, hm, hb => absurd hm (Nat.not_lt_zero _)
  | m + 1, n, h0, hm, hb => by
    intro σ
    have w1 : IntKind.i64.wrap (48 + n % 10) = 48 + n % 10 := wrI (by omega) (by omega)
    have hr : n.tmod 10 = n % 10 := Int.tmod_eq_emod_of_nonneg h0
    have hq : n.tdiv 10 = n / 10 := Int.tdiv_eq_ediv_of_nonneg h0
    have w2 : IntKind.i64.wrap (n / 10) = n / 10 := wrI (by omega) (by omega)
    by_cases h : n < 10
    · have w3 : IntKind.i64.wrap (48 + n) = 48 + n := wrI (by omega) (by omega)
      rw [digB_small n h, ← toN h0]
      refine PCall_q [.tmp 2] 20 Tryz.func158 (by rfl) rfl rfl rfl rfl ?_
      repeat' first |refine s1 ?_|refine gS ?_|refine wT rfl ?_|refine wF rfl ?_|refine wt rfl ?_|refine wf rfl ?_|(refine wC rfl (fun h=>?_) (fun h=>?_)<;>(try contradiction))|((first|refine rd ?_|refine ry [] c0 fun nu _ _=>?_);simp -dsimp (disch:=omega) only[go_sem,w3, wr8' h0 h, un1])|refine e0 (by decide) ?_|(refine And.intro ?_ ?_;omega)|refine And.intro (of_eq_true PutAt_put) ?_|refine gT ?_|refine gF ?_|(refine gI (fun h=>?_) (fun h=>?_)<;>(try contradiction)<;>(try refine rd ?_)<;>(try simp -dsimp (disch:=omega) only[go_sem,h,w3, wr8' h0 h, un1]))|refine Exists.intro _ (Exists.intro _ (And.intro (And.intro rfl rfl) ?_)) |fail
    · have ih := digC_spec m (n / 10) (by omega) (by omega) (by omega)
      have z := digB_size (n / 10) (by omega)
      have h2 := wr8' (x := n % 10) (by omega) (by omega)
      rw [digB_step n h0 h, ← toN (x := n % 10) (by omega)]
      refine PCall_q [.tmp 2] 20 Tryz.func158 (by rfl) rfl rfl rfl rfl ?_
      repeat' first |refine s1 ?_|refine gS ?_|refine wT rfl ?_|refine wF rfl ?_|refine wt rfl ?_|refine wf rfl ?_|(refine wC rfl (fun h=>?_) (fun h=>?_)<;>(try contradiction))|((first|refine rd ?_|refine ry [] c0 fun nu _ _=>?_);simp -dsimp (disch:=omega) only[go_sem,hq, hr, w1, w2, h2, sz1, t10, un1, c0])|refine e0 (by decide) ?_|(refine And.intro ?_ ?_;omega)|refine And.intro (of_eq_true PutAt_put) ?_|refine gT ?_|refine gF ?_|(refine gI (fun h=>?_) (fun h=>?_)<;>(try contradiction)<;>(try refine rd ?_)<;>(try simp -dsimp (disch:=omega) only[go_sem,h,hq, hr, w1, w2, h2, sz1, t10, un1, c0]))|refine Exists.intro _ (Exists.intro _ (And.intro (And.intro rfl rfl) ?_)) |refine us (ih) ?_ |fail
theorem digA_spec : ∀ (m : Nat) (n : Int), 0 ≤ n → n.toNat < m → n ≤ 4294967295 → Pure Tryz.prog 122 [.int .u32 n] (.str (digB n))
  | 0, n, h0, hm, hb => absurd hm (Nat.not_lt_zero _)
  | m + 1, n, h0, hm, hb => by
    intro σ
    have w1 : IntKind.u32.wrap (48 + n % 10) = 48 + n % 10 := wr32 (by omega) (by omega)
    have hr : n.tmod 10 = n % 10 := Int.tmod_eq_emod_of_nonneg h0
    have hq : n.tdiv 10 = n / 10 := Int.tdiv_eq_ediv_of_nonneg h0
    have w2 : IntKind.u32.wrap (n / 10) = n / 10 := wr32 (by omega) (by omega)
    by_cases h : n < 10
    · have w3 : IntKind.u32.wrap (48 + n) = 48 + n := wr32 (by omega) (by omega)
      rw [digB_small n h, ← toN h0]
      refine PCall_q [.tmp 2] 20 Tryz.func122 (by rfl) rfl rfl rfl rfl ?_
      repeat' first |refine s1 ?_|refine gS ?_|refine wT rfl ?_|refine wF rfl ?_|refine wt rfl ?_|refine wf rfl ?_|(refine wC rfl (fun h=>?_) (fun h=>?_)<;>(try contradiction))|((first|refine rd ?_|refine ry [] c0 fun nu _ _=>?_);simp -dsimp (disch:=omega) only[go_sem,w3, wr8' h0 h, un1])|refine e0 (by decide) ?_|(refine And.intro ?_ ?_;omega)|refine And.intro (of_eq_true PutAt_put) ?_|refine gT ?_|refine gF ?_|(refine gI (fun h=>?_) (fun h=>?_)<;>(try contradiction)<;>(try refine rd ?_)<;>(try simp -dsimp (disch:=omega) only[go_sem,h,w3, wr8' h0 h, un1]))|refine Exists.intro _ (Exists.intro _ (And.intro (And.intro rfl rfl) ?_)) |fail
    · have ih := digA_spec m (n / 10) (by omega) (by omega) (by omega)
      have z := digB_size (n / 10) (by omega)
      have h2 := wr8' (x := n % 10) (by omega) (by omega)
      rw [digB_step n h0 h, ← toN (x := n % 10) (by omega)]
      refine PCall_q [.tmp 2] 20 Tryz.func122 (by rfl) rfl rfl rfl rfl ?_
      repeat' first |refine s1 ?_|refine gS ?_|refine wT rfl ?_|refine wF rfl ?_|refine wt rfl ?_|refine wf rfl ?_|(refine wC rfl (fun h=>?_) (fun h=>?_)<;>(try contradiction))|((first|refine rd ?_|refine ry [] c0 fun nu _ _=>?_);simp -dsimp (disch:=omega) only[go_sem,hq, hr, w1, w2, h2, sz1, t10, un1, c0])|refine e0 (by decide) ?_|(refine And.intro ?_ ?_;omega)|refine And.intro (of_eq_true PutAt_put) ?_|refine gT ?_|refine gF ?_|(refine gI (fun h=>?_) (fun h=>?_)<;>(try contradiction)<;>(try refine rd ?_)<;>(try simp -dsimp (disch:=omega) only[go_sem,h,hq, hr, w1, w2, h2, sz1, t10, un1, c0]))|refine Exists.intro _ (Exists.intro _ (And.intro (And.intro rfl rfl) ?_)) |refine us (ih) ?_ |fail
theorem digP_spec (n : Int) (h0 : 0 ≤ n) (h1 : n < 100) : Pure Tryz.prog 117 [.int .i64 n] (.str (digB n)) := by
  intro σ
  have hr : n.tmod 10 = n % 10 := Int.tmod_eq_emod_of_nonneg h0
  have hq : n.tdiv 10 = n / 10 := Int.tdiv_eq_ediv_of_nonneg h0
  by_cases h : n < 10
  · rw [digB_small n h, ← toN h0]
    refine PCall_q [.tmp 2] 20 Tryz.func117 (by rfl) rfl rfl rfl rfl ?_
    repeat' first |refine s1 ?_|refine gS ?_|refine wT rfl ?_|refine wF rfl ?_|refine wt rfl ?_|refine wf rfl ?_|(refine wC rfl (fun h=>?_) (fun h=>?_)<;>(try contradiction))|((first|refine rd ?_|refine ry [] c0 fun nu _ _=>?_);simp -dsimp (disch:=omega) only[go_sem,wr8' h0 h, un1])|refine e0 (by decide) ?_|(refine And.intro ?_ ?_;omega)|refine And.intro (of_eq_true PutAt_put) ?_|refine gT ?_|refine gF ?_|(refine gI (fun h=>?_) (fun h=>?_)<;>(try contradiction)<;>(try refine rd ?_)<;>(try simp -dsimp (disch:=omega) only[go_sem,h,wr8' h0 h, un1]))|refine Exists.intro _ (Exists.intro _ (And.intro (And.intro rfl rfl) ?_)) |fail
  · have h2 := wr8' (x := n % 10) (by omega) (by omega)
    have h3 := wr8' (x := n / 10) (by omega) (by omega)
    have e : digB n = ⟨#[UInt8.ofNat (48 + n / 10).toNat, UInt8.ofNat (48 + n % 10).toNat]⟩ := by
      rw [digB_step n h0 h, digB_small (n / 10) (by omega), ← toN (x := n % 10) (by omega), ← toN (x := n / 10) (by omega)]
      rfl
    rw [e]
    refine PCall_q [.tmp 2] 20 Tryz.func117 (by rfl) rfl rfl rfl rfl ?_
    repeat' first |refine s1 ?_|refine gS ?_|refine wT rfl ?_|refine wF rfl ?_|refine wt rfl ?_|refine wf rfl ?_|(refine wC rfl (fun h=>?_) (fun h=>?_)<;>(try contradiction))|((first|refine rd ?_|refine ry [] c0 fun nu _ _=>?_);simp -dsimp (disch:=omega) only[go_sem,hq, hr, h2, h3, t10, un1, un2, c0])|refine e0 (by decide) ?_|(refine And.intro ?_ ?_;omega)|refine And.intro (of_eq_true PutAt_put) ?_|refine gT ?_|refine gF ?_|(refine gI (fun h=>?_) (fun h=>?_)<;>(try contradiction)<;>(try refine rd ?_)<;>(try simp -dsimp (disch:=omega) only[go_sem,h,hq, hr, h2, h3, t10, un1, un2, c0]))|refine Exists.intro _ (Exists.intro _ (And.intro (And.intro rfl rfl) ?_)) |fail
theorem noExport_spec : Pure Tryz.prog 155 [] (.agg [.int .i64 65535, .int .i64 65281]) := by
  intro σ
  refine PCall_q [.cell 0 46] 2 Tryz.func155 (by rfl) rfl rfl rfl rfl ?_
  repeat' first |refine s1 ?_|refine gS ?_|refine wT rfl ?_|refine wF rfl ?_|refine wt rfl ?_|refine wf rfl ?_|(refine wC rfl (fun h=>?_) (fun h=>?_)<;>(try contradiction))|((first|refine rd ?_|refine ry [] c0 fun nu _ _=>?_);simp -dsimp (disch:=omega) only[go_sem])|refine e0 (by decide) ?_|(refine And.intro ?_ ?_;omega)|refine And.intro (of_eq_true PutAt_put) ?_|refine gT ?_|refine gF ?_|(refine gI (fun h=>?_) (fun h=>?_)<;>(try contradiction)<;>(try refine rd ?_)<;>(try simp -dsimp (disch:=omega) only[go_sem,h]))|refine Exists.intro _ (Exists.intro _ (And.intro (And.intro rfl rfl) ?_)) |fail
  intro o ho
  repeat' first |refine s1 ?_|refine gS ?_|refine wT rfl ?_|refine wF rfl ?_|refine wt rfl ?_|refine wf rfl ?_|(refine wC rfl (fun h=>?_) (fun h=>?_)<;>(try contradiction))|((first|refine rd ?_|refine ry [] c0 fun nu _ _=>?_);simp -dsimp (disch:=omega) only[go_sem])|refine e0 (by decide) ?_|(refine And.intro ?_ ?_;omega)|refine And.intro (of_eq_true PutAt_put) ?_|refine gT ?_|refine gF ?_|(refine gI (fun h=>?_) (fun h=>?_)<;>(try contradiction)<;>(try refine rd ?_)<;>(try simp -dsimp (disch:=omega) only[go_sem,h]))|refine Exists.intro _ (Exists.intro _ (And.intro (And.intro rfl rfl) ?_)) |fail
  all_goals exact Sub_put (Store.Sub.refl _) ho _
theorem noAdv_spec : Pure Tryz.prog 156 [] (.agg [.int .i64 65535, .int .i64 65282]) := by
  intro σ
  refine PCall_q [.cell 0 46] 2 Tryz.func156 (by rfl) rfl rfl rfl rfl ?_
  repeat' first |refine s1 ?_|refine gS ?_|refine wT rfl ?_|refine wF rfl ?_|refine wt rfl ?_|refine wf rfl ?_|(refine wC rfl (fun h=>?_) (fun h=>?_)<;>(try contradiction))|((first|refine rd ?_|refine ry [] c0 fun nu _ _=>?_);simp -dsimp (disch:=omega) only[go_sem])|refine e0 (by decide) ?_|(refine And.intro ?_ ?_;omega)|refine And.intro (of_eq_true PutAt_put) ?_|refine gT ?_|refine gF ?_|(refine gI (fun h=>?_) (fun h=>?_)<;>(try contradiction)<;>(try refine rd ?_)<;>(try simp -dsimp (disch:=omega) only[go_sem,h]))|refine Exists.intro _ (Exists.intro _ (And.intro (And.intro rfl rfl) ?_)) |fail
  intro o ho
  repeat' first |refine s1 ?_|refine gS ?_|refine wT rfl ?_|refine wF rfl ?_|refine wt rfl ?_|refine wf rfl ?_|(refine wC rfl (fun h=>?_) (fun h=>?_)<;>(try contradiction))|((first|refine rd ?_|refine ry [] c0 fun nu _ _=>?_);simp -dsimp (disch:=omega) only[go_sem])|refine e0 (by decide) ?_|(refine And.intro ?_ ?_;omega)|refine And.intro (of_eq_true PutAt_put) ?_|refine gT ?_|refine gF ?_|(refine gI (fun h=>?_) (fun h=>?_)<;>(try contradiction)<;>(try refine rd ?_)<;>(try simp -dsimp (disch:=omega) only[go_sem,h]))|refine Exists.intro _ (Exists.intro _ (And.intro (And.intro rfl rfl) ?_)) |fail
  all_goals exact Sub_put (Store.Sub.refl _) ho _
theorem local_spec : Pure Tryz.prog 157 [] (.agg [.int .i64 65535, .int .i64 65283]) := by
  intro σ
  refine PCall_q [.cell 0 46] 2 Tryz.func157 (by rfl) rfl rfl rfl rfl ?_
  repeat' first |refine s1 ?_|refine gS ?_|refine wT rfl ?_|refine wF rfl ?_|refine wt rfl ?_|refine wf rfl ?_|(refine wC rfl (fun h=>?_) (fun h=>?_)<;>(try contradiction))|((first|refine rd ?_|refine ry [] c0 fun nu _ _=>?_);simp -dsimp (disch:=omega) only[go_sem])|refine e0 (by decide) ?_|(refine And.intro ?_ ?_;omega)|refine And.intro (of_eq_true PutAt_put) ?_|refine gT ?_|refine gF ?_|(refine gI (fun h=>?_) (fun h=>?_)<;>(try contradiction)<;>(try refine rd ?_)<;>(try simp -dsimp (disch:=omega) only[go_sem,h]))|refine Exists.intro _ (Exists.intro _ (And.intro (And.intro rfl rfl) ?_)) |fail
  intro o ho
  repeat' first |refine s1 ?_|refine gS ?_|refine wT rfl ?_|refine wF rfl ?_|refine wt rfl ?_|refine wf rfl ?_|(refine wC rfl (fun h=>?_) (fun h=>?_)<;>(try contradiction))|((first|refine rd ?_|refine ry [] c0 fun nu _ _=>?_);simp -dsimp (disch:=omega) only[go_sem])|refine e0 (by decide) ?_|(refine And.intro ?_ ?_;omega)|refine And.intro (of_eq_true PutAt_put) ?_|refine gT ?_|refine gF ?_|(refine gI (fun h=>?_) (fun h=>?_)<;>(try contradiction)<;>(try refine rd ?_)<;>(try simp -dsimp (disch:=omega) only[go_sem,h]))|refine Exists.intro _ (Exists.intro _ (And.intro (And.intro rfl rfl) ?_)) |fail
  all_goals exact Sub_put (Store.Sub.refl _) ho _
theorem comText_spec (c : Com) : Pure Tryz.prog 119 [eCom c] (.str (comText c)) := by
  intro σ
  have h1 := comMay_spec c
  have h2 := noExport_spec
  have h3 := noAdv_spec
  have h4 := local_spec
  by_cases hm : comMay c = true
  · have hb := (comMay_iff c).1 hm
    have d1 := digC_spec _ c.asn (by omega) (Nat.lt_succ_self _) (by omega)
    have d2 := digC_spec _ c.n (by omega) (Nat.lt_succ_self _) (by omega)
    have z1 := digB_size c.asn (by omega)
    have z2 := digB_size c.n (by omega)
    rw [hm] at h1
    refine PCall_q [.tmp 2] 27 Tryz.func119 (by rfl) rfl rfl rfl rfl ?_
    repeat' first |refine s1 ?_|refine gS ?_|refine wT rfl ?_|refine wF rfl ?_|refine wt rfl ?_|refine wf rfl ?_|(refine wC rfl (fun h=>?_) (fun h=>?_)<;>(try contradiction))|((first|refine rd ?_|refine ry [] c0 fun nu _ _=>?_);simp -dsimp (disch:=omega) only[go_sem,szA, sz1, c0])|refine e0 (by decide) ?_|(refine And.intro ?_ ?_;omega)|refine And.intro (of_eq_true PutAt_put) ?_|refine gT ?_|refine gF ?_|(refine gI (fun h=>?_) (fun h=>?_)<;>(try contradiction)<;>(try refine rd ?_)<;>(try simp -dsimp (disch:=omega) only[go_sem,h,szA, sz1, c0]))|refine Exists.intro _ (Exists.intro _ (And.intro (And.intro rfl rfl) ?_)) |refine us (h1) ?_ |refine us (h2) ?_ |refine us (h3) ?_ |refine us (h4) ?_ |refine us (d1) ?_ |refine us (d2) ?_ |fail
    all_goals (simp_all [comText, cellsB, cellB])
    repeat' split
    all_goals first | rfl | (exfalso; rename_i q; obtain ⟨q1, q2⟩ := q; simp_all)
  · have hm' : comMay c = false := by simpa using hm
    rw [hm'] at h1
    refine PCall_q [.tmp 2] 27 Tryz.func119 (by rfl) rfl rfl rfl rfl ?_
    repeat' first |refine s1 ?_|refine gS ?_|refine wT rfl ?_|refine wF rfl ?_|refine wt rfl ?_|refine wf rfl ?_|(refine wC rfl (fun h=>?_) (fun h=>?_)<;>(try contradiction))|((first|refine rd ?_|refine ry [] c0 fun nu _ _=>?_);simp -dsimp (disch:=omega) only[go_sem])|refine e0 (by decide) ?_|(refine And.intro ?_ ?_;omega)|refine And.intro (of_eq_true PutAt_put) ?_|refine gT ?_|refine gF ?_|(refine gI (fun h=>?_) (fun h=>?_)<;>(try contradiction)<;>(try refine rd ?_)<;>(try simp -dsimp (disch:=omega) only[go_sem,h]))|refine Exists.intro _ (Exists.intro _ (And.intro (And.intro rfl rfl) ?_)) |refine us (h1) ?_ |fail
    simp [comText, hm']
def outK (i o : Nat) : SK := if i = 0 then .nil else .tip o
def outS (σ : Store) (t : TypeId) (i o : Nat) : Store := if i = 0 then σ else σ.put o (.tip i t 1)
theorem out_step {α : Type} [Inhabited α] (f : α → ByteArray) {l : List α} {i : Nat} (h : i < l.length) : encL AV.str ((l.map f).take (i + 1)) = encL AV.str ((l.map f).take i) ++ [AV.str (f (l.getD i default))] := by
  rw [List.take_succ_eq_append_getElem (by simpa using h)]
  simp [encL, List.getD_eq_getElem?_getD, h]
theorem Sub_put3 {s : Store} {o o1 : Nat} {m x : Ob} (hs : s o1 = none) : (s.put o m).Sub ((s.put o1 x).put o m) := by
  intro p y hp
  simp only [Store.put] at hp ⊢
  split at hp
  · rename_i e; rw [if_pos e]; exact hp
  · rename_i e
    rw [if_neg e]
    split
    · rename_i e2; rw [e2, hs] at hp; cases hp
    · exact hp
theorem textsC {fi : Nat} (f : Com → ByteArray) (k : SK) (l : List Com) (hl : l.length ≤ 1000) (hf : ∀ x, x ∈ l → Pure Tryz.prog fi [eCom x] (.str (f x))) (hs : (joinOf blk (l.map f)).size ≤ 140737488355328) :
    Pure Tryz.prog 120 [.sl k (encL eCom l), .fn fi []] (.str (joinOf blk (l.map f))) := by
  intro σ
  refine PCall_q [.tmp 4] 23 Tryz.func120 (by rfl) rfl rfl rfl rfl ?_
  repeat' first |refine s1 ?_|refine gS ?_|refine wT rfl ?_|refine wF rfl ?_|refine wt rfl ?_|refine wf rfl ?_|(refine wC rfl (fun h=>?_) (fun h=>?_)<;>(try contradiction))|((first|refine rd ?_|refine ry [] c0 fun nu _ _=>?_);simp -dsimp (disch:=omega) only[go_sem])|refine e0 (by decide) ?_|(refine And.intro ?_ ?_;omega)|refine And.intro (of_eq_true PutAt_put) ?_|refine gT ?_|refine gF ?_|(refine gI (fun h=>?_) (fun h=>?_)<;>(try contradiction)<;>(try refine rd ?_)<;>(try simp -dsimp (disch:=omega) only[go_sem,h]))|refine Exists.intro _ (Exists.intro _ (And.intro (And.intro rfl rfl) ?_)) |fail
  refine W_loop_st (fun x : Nat × Nat => [(1, .fn fi []), (5, .sl (outK x.1 x.2) (encL AV.str ((l.map f).take x.1))), (8, .sl k (encL eCom l)), (9, .int .i64 l.length), (10, .int .i64 x.1)]) (fun x => outS σ 9 x.1 x.2) (fun x => x.1 ≤ l.length ∧ (x.1 = 0 ∨ σ x.2 = none)) (fun x => l.length - x.1) (0, 0) ⟨Nat.zero_le _, .inl rfl⟩ (Env.Sub_of_has (by simp [Env.Has, Env.get, outK, encL])) (Store.Sub.refl _) ?_
  rintro ⟨i, o⟩ ⟨hi, ho⟩
  simp only at hi ho
  by_cases hlt : i < l.length
  · have hfx := hf (l.getD i default) (by rw [List.getD_eq_getElem?_getD, List.getElem?_eq_getElem hlt]; exact List.getElem_mem hlt)
    have hstep := out_step f hlt
    have hlen : (encL AV.str ((l.map f).take i)).length = i := by rw [length_encL, List.length_take, List.length_map]; omega
    have hrow : rowsOk 1 (encL AV.str ((l.map f).take i)) = true := ok_encL 1 AV.str (fun _ => rfl) _
    by_cases h0 : i = 0
    · subst h0
      have q0 : encL AV.str ((l.map f).take 0) = [] := rfl
      simp only [outK, outS, if_pos, q0] at hstep ⊢
      repeat' first |refine s1 ?_|refine gS ?_|refine wT rfl ?_|refine wF rfl ?_|refine wt rfl ?_|refine wf rfl ?_|(refine wC rfl (fun h=>?_) (fun h=>?_)<;>(try contradiction))|((first|refine rd ?_|refine ry [] c0 fun nu _ _=>?_);simp -dsimp (disch:=omega) only[go_sem])|refine e0 (by decide) ?_|(refine And.intro ?_ ?_;omega)|refine And.intro (of_eq_true PutAt_put) ?_|refine gT ?_|refine gF ?_|(refine gI (fun h=>?_) (fun h=>?_)<;>(try contradiction)<;>(try refine rd ?_)<;>(try simp -dsimp (disch:=omega) only[go_sem,h]))|refine Exists.intro _ (Exists.intro _ (And.intro (And.intro rfl rfl) ?_)) |fail
      intro o1 ho1
      repeat' first |refine s1 ?_|refine gS ?_|refine wT rfl ?_|refine wF rfl ?_|refine wt rfl ?_|refine wf rfl ?_|(refine wC rfl (fun h=>?_) (fun h=>?_)<;>(try contradiction))|((first|refine rd ?_|refine ry [] c0 fun nu _ _=>?_);simp -dsimp (disch:=omega) only[go_sem])|refine e0 (by decide) ?_|(refine And.intro ?_ ?_;omega)|refine And.intro (of_eq_true PutAt_put) ?_|refine gT ?_|refine gF ?_|(refine gI (fun h=>?_) (fun h=>?_)<;>(try contradiction)<;>(try refine rd ?_)<;>(try simp -dsimp (disch:=omega) only[go_sem,h]))|refine Exists.intro _ (Exists.intro _ (And.intro (And.intro rfl rfl) ?_)) |refine us (hfx) ?_ |fail
      intro o' ho'
      repeat' first |refine s1 ?_|refine gS ?_|refine wT rfl ?_|refine wF rfl ?_|refine wt rfl ?_|refine wf rfl ?_|(refine wC rfl (fun h=>?_) (fun h=>?_)<;>(try contradiction))|((first|refine rd ?_|refine ry [] c0 fun nu _ _=>?_);simp -dsimp (disch:=omega) only[go_sem])|refine e0 (by decide) ?_|(refine And.intro ?_ ?_;omega)|refine And.intro (of_eq_true PutAt_put) ?_|refine gT ?_|refine gF ?_|(refine gI (fun h=>?_) (fun h=>?_)<;>(try contradiction)<;>(try refine rd ?_)<;>(try simp -dsimp (disch:=omega) only[go_sem,h]))|refine Exists.intro _ (Exists.intro _ (And.intro (And.intro rfl rfl) ?_)) |fail
      exact ⟨(1, o'), by simp only; omega, ⟨by simp only; omega, .inr (fresh_old ho')⟩, Env.Sub_of_has (by simp only [Env.Has, Env.get, outK]; simp [hstep]), Sub_put3 ho1⟩
    · have hs1 : outS σ 9 i o = σ.put o (.tip i 9 1) := by simp [outS, h0]
      have hk1 : outK i o = .tip o := by simp [outK, h0]
      have hs2 : outS σ 9 (i + 1) o = σ.put o (.tip (i + 1) 9 1) := by simp [outS]
      have hk2 : outK (i + 1) o = .tip o := by simp [outK]
      rw [hs1, hk1]
      repeat' first |refine s1 ?_|refine gS ?_|refine wT rfl ?_|refine wF rfl ?_|refine wt rfl ?_|refine wf rfl ?_|(refine wC rfl (fun h=>?_) (fun h=>?_)<;>(try contradiction))|((first|refine rd ?_|refine ry [] c0 fun nu _ _=>?_);simp -dsimp (disch:=omega) only[go_sem])|refine e0 (by decide) ?_|(refine And.intro ?_ ?_;omega)|refine And.intro (of_eq_true PutAt_put) ?_|refine gT ?_|refine gF ?_|(refine gI (fun h=>?_) (fun h=>?_)<;>(try contradiction)<;>(try refine rd ?_)<;>(try simp -dsimp (disch:=omega) only[go_sem,h]))|refine Exists.intro _ (Exists.intro _ (And.intro (And.intro rfl rfl) ?_)) |fail
      intro o1 ho1
      have hpn : ∀ (s : Store) (x : Ob), (s.put o1 x) o = s o := fun s x => put_ne (fresh_ne ho1)
      repeat' first |refine s1 ?_|refine gS ?_|refine wT rfl ?_|refine wF rfl ?_|refine wt rfl ?_|refine wf rfl ?_|(refine wC rfl (fun h=>?_) (fun h=>?_)<;>(try contradiction))|((first|refine rd ?_|refine ry [] c0 fun nu _ _=>?_);simp -dsimp (disch:=omega) only[go_sem,hlen, hrow, hpn])|refine e0 (by decide) ?_|(refine And.intro ?_ ?_;omega)|refine And.intro (of_eq_true PutAt_put) ?_|refine gT ?_|refine gF ?_|(refine gI (fun h=>?_) (fun h=>?_)<;>(try contradiction)<;>(try refine rd ?_)<;>(try simp -dsimp (disch:=omega) only[go_sem,h,hlen, hrow, hpn]))|refine Exists.intro _ (Exists.intro _ (And.intro (And.intro rfl rfl) ?_)) |refine us (hfx) ?_ |fail
      refine ⟨(i + 1, o), by simp only; omega, ⟨by simp only; omega, .inr (ho.resolve_left h0)⟩, Env.Sub_of_has ?_, ?_⟩
      · simp only [Env.Has, Env.get, hk2, hstep]; simp
      · simp only [hs2, List.length_append, hlen, List.length_cons, List.length_nil, Nat.zero_add]; exact Sub_put2 (fresh_old ho1)
  · have hi' : i = l.length := by omega
    subst hi'
    have hjn := join_sl joinOk (outK l.length o) ((l.map f).take l.length) blk (by rw [List.length_take, List.length_map]; omega) (by rw [List.take_of_length_le (by simp)]; exact hs)
    rw [List.take_of_length_le (by simp)] at hjn
    simp only [List.take_of_length_le (show (l.map f).length ≤ l.length by simp)]
    repeat' first |refine s1 ?_|refine gS ?_|refine wT rfl ?_|refine wF rfl ?_|refine wt rfl ?_|refine wf rfl ?_|(refine wC rfl (fun h=>?_) (fun h=>?_)<;>(try contradiction))|((first|refine rd ?_|refine ry [] c0 fun nu _ _=>?_);simp -dsimp (disch:=omega) only[go_sem])|refine e0 (by decide) ?_|(refine And.intro ?_ ?_;omega)|refine And.intro (of_eq_true PutAt_put) ?_|refine gT ?_|refine gF ?_|(refine gI (fun h=>?_) (fun h=>?_)<;>(try contradiction)<;>(try refine rd ?_)<;>(try simp -dsimp (disch:=omega) only[go_sem,h]))|refine Exists.intro _ (Exists.intro _ (And.intro (And.intro rfl rfl) ?_)) |refine us (hjn) ?_ |fail
    simp only [outS]
    split
    · exact Store.Sub.refl _
    · rename_i hne
      exact Sub_put (Store.Sub.refl _) (ho.resolve_left hne) _
theorem textsI {fi : Nat} (f : Int → ByteArray) (k : SK) (l : List Int) (hl : l.length ≤ 1000) (hf : ∀ x, x ∈ l → Pure Tryz.prog fi [eI x] (.str (f x))) (hs : (joinOf blk (l.map f)).size ≤ 140737488355328) :
    Pure Tryz.prog 121 [.sl k (ints l), .fn fi []] (.str (joinOf blk (l.map f))) := by
  intro σ
  refine PCall_q [.tmp 4] 23 Tryz.func121 (by rfl) rfl rfl rfl rfl ?_
  repeat' first |refine s1 ?_|refine gS ?_|refine wT rfl ?_|refine wF rfl ?_|refine wt rfl ?_|refine wf rfl ?_|(refine wC rfl (fun h=>?_) (fun h=>?_)<;>(try contradiction))|((first|refine rd ?_|refine ry [] c0 fun nu _ _=>?_);simp -dsimp (disch:=omega) only[go_sem])|refine e0 (by decide) ?_|(refine And.intro ?_ ?_;omega)|refine And.intro (of_eq_true PutAt_put) ?_|refine gT ?_|refine gF ?_|(refine gI (fun h=>?_) (fun h=>?_)<;>(try contradiction)<;>(try refine rd ?_)<;>(try simp -dsimp (disch:=omega) only[go_sem,h]))|refine Exists.intro _ (Exists.intro _ (And.intro (And.intro rfl rfl) ?_)) |fail
  refine W_loop_st (fun x : Nat × Nat => [(1, .fn fi []), (5, .sl (outK x.1 x.2) (encL AV.str ((l.map f).take x.1))), (8, .sl k (ints l)), (9, .int .i64 l.length), (10, .int .i64 x.1)]) (fun x => outS σ 9 x.1 x.2) (fun x => x.1 ≤ l.length ∧ (x.1 = 0 ∨ σ x.2 = none)) (fun x => l.length - x.1) (0, 0) ⟨Nat.zero_le _, .inl rfl⟩ (Env.Sub_of_has (by simp [Env.Has, Env.get, outK, encL])) (Store.Sub.refl _) ?_
  rintro ⟨i, o⟩ ⟨hi, ho⟩
  simp only at hi ho
  by_cases hlt : i < l.length
  · have hfx := hf (l.getD i default) (by rw [List.getD_eq_getElem?_getD, List.getElem?_eq_getElem hlt]; exact List.getElem_mem hlt)
    have hstep := out_step f hlt
    have hlen : (encL AV.str ((l.map f).take i)).length = i := by rw [length_encL, List.length_take, List.length_map]; omega
    have hrow : rowsOk 1 (encL AV.str ((l.map f).take i)) = true := ok_encL 1 AV.str (fun _ => rfl) _
    by_cases h0 : i = 0
    · subst h0
      have q0 : encL AV.str ((l.map f).take 0) = [] := rfl
      simp only [outK, outS, if_pos, q0] at hstep ⊢
      repeat' first |refine s1 ?_|refine gS ?_|refine wT rfl ?_|refine wF rfl ?_|refine wt rfl ?_|refine wf rfl ?_|(refine wC rfl (fun h=>?_) (fun h=>?_)<;>(try contradiction))|((first|refine rd ?_|refine ry [] c0 fun nu _ _=>?_);simp -dsimp (disch:=omega) only[go_sem])|refine e0 (by decide) ?_|(refine And.intro ?_ ?_;omega)|refine And.intro (of_eq_true PutAt_put) ?_|refine gT ?_|refine gF ?_|(refine gI (fun h=>?_) (fun h=>?_)<;>(try contradiction)<;>(try refine rd ?_)<;>(try simp -dsimp (disch:=omega) only[go_sem,h]))|refine Exists.intro _ (Exists.intro _ (And.intro (And.intro rfl rfl) ?_)) |refine us (hfx) ?_ |fail
      intro o' ho'
      repeat' first |refine s1 ?_|refine gS ?_|refine wT rfl ?_|refine wF rfl ?_|refine wt rfl ?_|refine wf rfl ?_|(refine wC rfl (fun h=>?_) (fun h=>?_)<;>(try contradiction))|((first|refine rd ?_|refine ry [] c0 fun nu _ _=>?_);simp -dsimp (disch:=omega) only[go_sem])|refine e0 (by decide) ?_|(refine And.intro ?_ ?_;omega)|refine And.intro (of_eq_true PutAt_put) ?_|refine gT ?_|refine gF ?_|(refine gI (fun h=>?_) (fun h=>?_)<;>(try contradiction)<;>(try refine rd ?_)<;>(try simp -dsimp (disch:=omega) only[go_sem,h]))|refine Exists.intro _ (Exists.intro _ (And.intro (And.intro rfl rfl) ?_)) |fail
      exact ⟨(1, o'), by simp only; omega, ⟨by simp only; omega, .inr ho'⟩, Env.Sub_of_has (by simp only [Env.Has, Env.get, outK]; simp [hstep]), Store.Sub.refl _⟩
    · have hs1 : outS σ 9 i o = σ.put o (.tip i 9 1) := by simp [outS, h0]
      have hk1 : outK i o = .tip o := by simp [outK, h0]
      have hs2 : outS σ 9 (i + 1) o = σ.put o (.tip (i + 1) 9 1) := by simp [outS]
      have hk2 : outK (i + 1) o = .tip o := by simp [outK]
      rw [hs1, hk1]
      repeat' first |refine s1 ?_|refine gS ?_|refine wT rfl ?_|refine wF rfl ?_|refine wt rfl ?_|refine wf rfl ?_|(refine wC rfl (fun h=>?_) (fun h=>?_)<;>(try contradiction))|((first|refine rd ?_|refine ry [] c0 fun nu _ _=>?_);simp -dsimp (disch:=omega) only[go_sem,hlen, hrow])|refine e0 (by decide) ?_|(refine And.intro ?_ ?_;omega)|refine And.intro (of_eq_true PutAt_put) ?_|refine gT ?_|refine gF ?_|(refine gI (fun h=>?_) (fun h=>?_)<;>(try contradiction)<;>(try refine rd ?_)<;>(try simp -dsimp (disch:=omega) only[go_sem,h,hlen, hrow]))|refine Exists.intro _ (Exists.intro _ (And.intro (And.intro rfl rfl) ?_)) |refine us (hfx) ?_ |fail
      refine ⟨(i + 1, o), by simp only; omega, ⟨by simp only; omega, .inr (ho.resolve_left h0)⟩, Env.Sub_of_has ?_, ?_⟩
      · simp only [Env.Has, Env.get, hk2, hstep]; simp
      · simp only [hs2, List.length_append, hlen, List.length_cons, List.length_nil, Nat.zero_add]; exact Store.Sub.refl _
  · have hi' : i = l.length := by omega
    subst hi'
    have hjn := join_sl joinOk (outK l.length o) ((l.map f).take l.length) blk (by rw [List.length_take, List.length_map]; omega) (by rw [List.take_of_length_le (by simp)]; exact hs)
    rw [List.take_of_length_le (by simp)] at hjn
    simp only [List.take_of_length_le (show (l.map f).length ≤ l.length by simp)]
    repeat' first |refine s1 ?_|refine gS ?_|refine wT rfl ?_|refine wF rfl ?_|refine wt rfl ?_|refine wf rfl ?_|(refine wC rfl (fun h=>?_) (fun h=>?_)<;>(try contradiction))|((first|refine rd ?_|refine ry [] c0 fun nu _ _=>?_);simp -dsimp (disch:=omega) only[go_sem])|refine e0 (by decide) ?_|(refine And.intro ?_ ?_;omega)|refine And.intro (of_eq_true PutAt_put) ?_|refine gT ?_|refine gF ?_|(refine gI (fun h=>?_) (fun h=>?_)<;>(try contradiction)<;>(try refine rd ?_)<;>(try simp -dsimp (disch:=omega) only[go_sem,h]))|refine Exists.intro _ (Exists.intro _ (And.intro (And.intro rfl rfl) ?_)) |refine us (hjn) ?_ |fail
    simp only [outS]
    split
    · exact Store.Sub.refl _
    · rename_i hne
      exact Sub_put (Store.Sub.refl _) (ho.resolve_left hne) _
theorem pfxText_spec (p : Pfx) (hp : p.Ok) : Pure Tryz.prog 60 [ePfx p] (.str (pfxText p)) := by
  intro σ
  have h1 := pfxMay_spec p
  by_cases hm : pfxMay p = true
  · rw [hm] at h1
    have hb : 0 ≤ p.b ∧ p.b ≤ 32 := by
      simp only [pfxMay, Bool.and_eq_true, decide_eq_true_eq] at hm
      exact hm.1
    have hb32 : IntKind.u32.wrap p.b = p.b := wr32 hb.1 (by omega)
    have hbd := digA_spec _ p.b hb.1 (Nat.lt_succ_self _) (by omega)
    have hzb := digB_size p.b (by omega)
    obtain ⟨l, hl⟩ : ∃ l : List Nat, l = [24, 16, 8, 0] := ⟨_, rfl⟩
    obtain ⟨f, hf⟩ : ∃ f : Nat → ByteArray, f = fun k => digB (octZ p.a k) := ⟨_, rfl⟩
    have hl4 : l.length = 4 := by rw [hl]; rfl
    have hres : pfxText p = joinOf (⟨#[46]⟩ : ByteArray) (l.map f) ++ (⟨#[47]⟩ : ByteArray) ++ digB p.b := by
      rw [pfxText, if_pos hm, hl, hf]; rfl
    have hjs : (joinOf (⟨#[46]⟩ : ByteArray) (l.map f)).size ≤ 4 * (20 + 1) := by
      have := joinOf_map f 20 (⟨#[46]⟩ : ByteArray) l (fun k _ => by rw [hf]; exact digB_size _ (by have := (octZ_ok hp.1 hp.2 k).2; omega))
      rw [hl4] at this
      exact this
    rw [hres]
    refine PCall_q [.tmp 2] 31 Tryz.func60 (by rfl) rfl rfl rfl rfl ?_
    repeat' first |refine s1 ?_|refine gS ?_|refine wT rfl ?_|refine wF rfl ?_|refine wt rfl ?_|refine wf rfl ?_|(refine wC rfl (fun h=>?_) (fun h=>?_)<;>(try contradiction))|((first|refine rd ?_|refine ry [] c0 fun nu _ _=>?_);simp -dsimp (disch:=omega) only[go_sem])|refine e0 (by decide) ?_|(refine And.intro ?_ ?_;omega)|refine And.intro (of_eq_true PutAt_put) ?_|refine gT ?_|refine gF ?_|(refine gI (fun h=>?_) (fun h=>?_)<;>(try contradiction)<;>(try refine rd ?_)<;>(try simp -dsimp (disch:=omega) only[go_sem,h]))|refine Exists.intro _ (Exists.intro _ (And.intro (And.intro rfl rfl) ?_)) |refine us (h1) ?_ |fail
    refine W_loop_st (fun x : Nat × Nat => [(1, .ip (ePfx p) 0), (3, .sl (outK x.1 x.2) (encL AV.str ((l.map f).take x.1))), (8, .int .i64 x.1)]) (fun x => outS σ 9 x.1 x.2) (fun x => x.1 ≤ 4 ∧ (x.1 = 0 ∨ σ x.2 = none)) (fun x => 4 - x.1) (0, 0) ⟨Nat.zero_le _, .inl rfl⟩ (Env.Sub_of_has (by simp [Env.Has, Env.get, outK, encL, ePfx])) (Store.Sub.refl _) ?_
    rintro ⟨i, o⟩ ⟨hi, ho⟩
    simp only at hi ho
    by_cases hlt : i < 4
    · have hoc := octZ_ok hp.1 hp.2 (l.getD i default)
      have hfx : Pure Tryz.prog 122 [.int .u32 (bits .and .u32 (p.a.fdiv (2 ^ (min (24 - 8 * (i : Int)).toNat 32))) 255)] (.str (f (l.getD i default))) := by
        have e : min (24 - 8 * (i : Int)).toNat 32 = l.getD i default := by
          rw [hl]
          match i, hlt with
          | 0, _ => rfl
          | 1, _ => rfl
          | 2, _ => rfl
          | 3, _ => rfl
        rw [e, hf]
        exact digA_spec _ _ hoc.1 (Nat.lt_succ_self _) (by simp only [octZ] at hoc; omega)
      have hstep := out_step f (l := l) (i := i) (by omega)
      have hlen : (encL AV.str ((l.map f).take i)).length = i := by rw [length_encL, List.length_take, List.length_map]; omega
      have hrow : rowsOk 1 (encL AV.str ((l.map f).take i)) = true := ok_encL 1 AV.str (fun _ => rfl) _
      have hbt : IntKind.u32.bits = 32 := rfl
      by_cases h0 : i = 0
      · subst h0
        have q0 : encL AV.str ((l.map f).take 0) = [] := rfl
        simp only [outK, outS, if_pos, q0] at hstep ⊢
        repeat' first |refine s1 ?_|refine gS ?_|refine wT rfl ?_|refine wF rfl ?_|refine wt rfl ?_|refine wf rfl ?_|(refine wC rfl (fun h=>?_) (fun h=>?_)<;>(try contradiction))|((first|refine rd ?_|refine ry [] c0 fun nu _ _=>?_);simp -dsimp (disch:=omega) only[go_sem,hbt])|refine e0 (by decide) ?_|(refine And.intro ?_ ?_;omega)|refine And.intro (of_eq_true PutAt_put) ?_|refine gT ?_|refine gF ?_|(refine gI (fun h=>?_) (fun h=>?_)<;>(try contradiction)<;>(try refine rd ?_)<;>(try simp -dsimp (disch:=omega) only[go_sem,h,hbt]))|refine Exists.intro _ (Exists.intro _ (And.intro (And.intro rfl rfl) ?_)) |refine us (hfx) ?_ |fail
        intro o' ho'
        repeat' first |refine s1 ?_|refine gS ?_|refine wT rfl ?_|refine wF rfl ?_|refine wt rfl ?_|refine wf rfl ?_|(refine wC rfl (fun h=>?_) (fun h=>?_)<;>(try contradiction))|((first|refine rd ?_|refine ry [] c0 fun nu _ _=>?_);simp -dsimp (disch:=omega) only[go_sem])|refine e0 (by decide) ?_|(refine And.intro ?_ ?_;omega)|refine And.intro (of_eq_true PutAt_put) ?_|refine gT ?_|refine gF ?_|(refine gI (fun h=>?_) (fun h=>?_)<;>(try contradiction)<;>(try refine rd ?_)<;>(try simp -dsimp (disch:=omega) only[go_sem,h]))|refine Exists.intro _ (Exists.intro _ (And.intro (And.intro rfl rfl) ?_)) |fail
        exact ⟨(1, o'), by simp only; omega, ⟨by simp only; omega, .inr ho'⟩, Env.Sub_of_has (by simp only [Env.Has, Env.get, outK]; simp [hstep, ePfx]), Store.Sub.refl _⟩
      · have hs1 : outS σ 9 i o = σ.put o (.tip i 9 1) := by simp [outS, h0]
        have hk1 : outK i o = .tip o := by simp [outK, h0]
        have hs2 : outS σ 9 (i + 1) o = σ.put o (.tip (i + 1) 9 1) := by simp [outS]
        have hk2 : outK (i + 1) o = .tip o := by simp [outK]
        rw [hs1, hk1]
        repeat' first |refine s1 ?_|refine gS ?_|refine wT rfl ?_|refine wF rfl ?_|refine wt rfl ?_|refine wf rfl ?_|(refine wC rfl (fun h=>?_) (fun h=>?_)<;>(try contradiction))|((first|refine rd ?_|refine ry [] c0 fun nu _ _=>?_);simp -dsimp (disch:=omega) only[go_sem,hlen, hrow, hbt])|refine e0 (by decide) ?_|(refine And.intro ?_ ?_;omega)|refine And.intro (of_eq_true PutAt_put) ?_|refine gT ?_|refine gF ?_|(refine gI (fun h=>?_) (fun h=>?_)<;>(try contradiction)<;>(try refine rd ?_)<;>(try simp -dsimp (disch:=omega) only[go_sem,h,hlen, hrow, hbt]))|refine Exists.intro _ (Exists.intro _ (And.intro (And.intro rfl rfl) ?_)) |refine us (hfx) ?_ |fail
        refine ⟨(i + 1, o), by simp only; omega, ⟨by simp only; omega, .inr (ho.resolve_left h0)⟩, Env.Sub_of_has ?_, ?_⟩
        · simp only [Env.Has, Env.get, hk2, hstep]; simp [ePfx]
        · simp only [hs2, List.length_append, hlen, List.length_cons, List.length_nil, Nat.zero_add]; exact Store.Sub.refl _
    · have hi' : i = 4 := by omega
      subst hi'
      have htk : (l.map f).take 4 = l.map f := List.take_of_length_le (by simp [hl4])
      have hjn := join_sl joinOk (outK 4 o) (l.map f) (⟨#[46]⟩ : ByteArray) (by simp [hl4]) (by omega)
      have y1 : ((⟨#[47]⟩ : ByteArray)).size = 1 := rfl
      simp only [htk]
      repeat' first |refine s1 ?_|refine gS ?_|refine wT rfl ?_|refine wF rfl ?_|refine wt rfl ?_|refine wf rfl ?_|(refine wC rfl (fun h=>?_) (fun h=>?_)<;>(try contradiction))|((first|refine rd ?_|refine ry [] c0 fun nu _ _=>?_);simp -dsimp (disch:=omega) only[go_sem,szA, y1, hb32, c0])|refine e0 (by decide) ?_|(refine And.intro ?_ ?_;omega)|refine And.intro (of_eq_true PutAt_put) ?_|refine gT ?_|refine gF ?_|(refine gI (fun h=>?_) (fun h=>?_)<;>(try contradiction)<;>(try refine rd ?_)<;>(try simp -dsimp (disch:=omega) only[go_sem,h,szA, y1, hb32, c0]))|refine Exists.intro _ (Exists.intro _ (And.intro (And.intro rfl rfl) ?_)) |refine us (hjn) ?_ |refine us (hbd) ?_ |fail
      simp only [outS]
      exact Sub_put (Store.Sub.refl _) (ho.resolve_left (by omega)) _
  · have hm' : pfxMay p = false := by simpa using hm
    rw [hm'] at h1
    refine PCall_q [.tmp 2] 31 Tryz.func60 (by rfl) rfl rfl rfl rfl ?_
    repeat' first |refine s1 ?_|refine gS ?_|refine wT rfl ?_|refine wF rfl ?_|refine wt rfl ?_|refine wf rfl ?_|(refine wC rfl (fun h=>?_) (fun h=>?_)<;>(try contradiction))|((first|refine rd ?_|refine ry [] c0 fun nu _ _=>?_);simp -dsimp (disch:=omega) only[go_sem])|refine e0 (by decide) ?_|(refine And.intro ?_ ?_;omega)|refine And.intro (of_eq_true PutAt_put) ?_|refine gT ?_|refine gF ?_|(refine gI (fun h=>?_) (fun h=>?_)<;>(try contradiction)<;>(try refine rd ?_)<;>(try simp -dsimp (disch:=omega) only[go_sem,h]))|refine Exists.intro _ (Exists.intro _ (And.intro (And.intro rfl rfl) ?_)) |refine us (h1) ?_ |fail
    simp [pfxText, hm']
theorem rngText_spec (r : Rng) (hp : r.p.Ok) : Pure Tryz.prog 57 [eRng r] (.str (rngText r)) := by
  intro σ
  have h1 := rngMay_spec r
  by_cases hm : rngMay r = true
  · rw [hm] at h1
    have hb : 0 ≤ r.p.b ∧ r.p.b ≤ r.ge ∧ r.ge ≤ r.le ∧ r.le ≤ 32 := by
      simp only [rngMay, pfxMay, Bool.and_eq_true, decide_eq_true_eq] at hm
      exact ⟨hm.1.1.1.1.1, hm.1.1.2, hm.1.2, hm.2⟩
    have h2 := pfxText_spec r.p hp
    have d1 := digP_spec r.ge (by omega) (by omega)
    have d2 := digP_spec r.le (by omega) (by omega)
    have z1 := digB_size r.ge (by omega)
    have z2 := digB_size r.le (by omega)
    have z3 := pfxText_size r.p hp
    have y1 : ((⟨#[112, 101, 114, 109, 105, 116, 32]⟩ : ByteArray)).size = 7 := rfl
    have y2 : ((⟨#[100, 101, 110, 121, 32]⟩ : ByteArray)).size = 5 := rfl
    have y3 : ((⟨#[32, 103, 101, 32]⟩ : ByteArray)).size = 4 := rfl
    have y4 : ((⟨#[32, 108, 101, 32]⟩ : ByteArray)).size = 4 := rfl
    refine PCall_q [.tmp 2] 38 Tryz.func57 (by rfl) rfl rfl rfl rfl ?_
    repeat' first |refine s1 ?_|refine gS ?_|refine wT rfl ?_|refine wF rfl ?_|refine wt rfl ?_|refine wf rfl ?_|(refine wC rfl (fun h=>?_) (fun h=>?_)<;>(try contradiction))|((first|refine rd ?_|refine ry [] c0 fun nu _ _=>?_);simp -dsimp (disch:=omega) only[go_sem,szA, y1, y2, y3, y4])|refine e0 (by decide) ?_|(refine And.intro ?_ ?_;omega)|refine And.intro (of_eq_true PutAt_put) ?_|refine gT ?_|refine gF ?_|(refine gI (fun h=>?_) (fun h=>?_)<;>(try contradiction)<;>(try refine rd ?_)<;>(try simp -dsimp (disch:=omega) only[go_sem,h,szA, y1, y2, y3, y4]))|refine Exists.intro _ (Exists.intro _ (And.intro (And.intro rfl rfl) ?_)) |refine us (h1) ?_ |refine us (h2) ?_ |refine us (d1) ?_ |refine us (d2) ?_ |fail
    all_goals (simp_all [rngText])
  · have hm' : rngMay r = false := by simpa using hm
    rw [hm'] at h1
    refine PCall_q [.tmp 2] 38 Tryz.func57 (by rfl) rfl rfl rfl rfl ?_
    repeat' first |refine s1 ?_|refine gS ?_|refine wT rfl ?_|refine wF rfl ?_|refine wt rfl ?_|refine wf rfl ?_|(refine wC rfl (fun h=>?_) (fun h=>?_)<;>(try contradiction))|((first|refine rd ?_|refine ry [] c0 fun nu _ _=>?_);simp -dsimp (disch:=omega) only[go_sem])|refine e0 (by decide) ?_|(refine And.intro ?_ ?_;omega)|refine And.intro (of_eq_true PutAt_put) ?_|refine gT ?_|refine gF ?_|(refine gI (fun h=>?_) (fun h=>?_)<;>(try contradiction)<;>(try refine rd ?_)<;>(try simp -dsimp (disch:=omega) only[go_sem,h]))|refine Exists.intro _ (Exists.intro _ (And.intro (And.intro rfl rfl) ?_)) |refine us (h1) ?_ |fail
    simp [rngText, hm']
end Go.Proofs.YtaealcimocpnnaaGreat
namespace Go.Proofs.YtaealcimocpnnaaGreat
open Go.Kern Go.RowKit
structure Cls.Good (c : Cls) : Prop where
  n0 : 0 ≤ c.n
  n1 : c.n ≤ 1000000000000
  pref : c.s.pref ≤ 1000000000000
  med : c.s.med ≤ 1000000000000
  origin : c.s.origin ≤ 2
  add : c.s.add.length ≤ 1000
  del : c.s.del.length ≤ 1000
  pre : c.s.pre.length ≤ 1000
  each : ∀ n, n ∈ c.s.pre → 0 ≤ n ∧ n ≤ 1000000000000
  list : c.m.list.size ≤ 1000
  path : c.m.path.size ≤ 1000
theorem max0_ok {n : Int} (h : n ≤ 1000000000000) : 0 ≤ max0 n ∧ max0 n ≤ 1000000000000 := by unfold max0; split <;> omega
set_option maxRecDepth 100000
set_option maxHeartbeats 4000000
attribute [local irreducible] PCall W
structure Hid (p : Prop) : Prop where
  out : p
theorem cls_spec {σ t : Store} {w : Nat} {s : ByteArray} (h : WS σ w s t) (c : Cls) (hc : c.Good) (hb : s.size + (clsText c).size ≤ 140737488355328) :
    PCall Tryz.prog 58 [.ptr w 0 0, eCls c] t (fun r t' => r = .tup [] ∧ WS σ w (s ++ clsText c) t') := by
  obtain ⟨wd, hwd⟩ : ∃ wd, (if c.permit = true then (⟨#[112, 101, 114, 109, 105, 116]⟩ : ByteArray) else (⟨#[100, 101, 110, 121]⟩ : ByteArray)) = wd := ⟨_, rfl⟩
  replace hb : Hid _ := ⟨hb⟩
  refine PCall_w [] 118 Tryz.func58 (by rfl) rfl rfl rfl rfl ?_
  repeat' first |((fail_if_success (first|show W _ _ (Code.seq (Code.region 2 _ _) _) _ _ _|show W _ _ (Code.seq (Code.seq (Code.region 2 _ _) _) _) _ _ _));refine s1 ?_)|refine gS ?_|refine wT rfl ?_|refine wF rfl ?_|refine wt rfl ?_|refine wf rfl ?_|(refine wC rfl (fun h=>?_) (fun h=>?_)<;>(try contradiction))|((fail_if_success (first|show W _ _ (Code.region 2 _ _) _ _ _));(first|refine rd ?_|refine ry [] c0 fun nu _ _=>?_);simp -dsimp (disch:=omega) only[go_sem])|refine e0 (by decide) ?_|(refine And.intro ?_ ?_;omega)|refine And.intro (of_eq_true PutAt_put) ?_|refine gT ?_|refine gF ?_|(refine gI (fun h=>?_) (fun h=>?_)<;>(try contradiction)<;>(try refine rd ?_)<;>(try simp -dsimp (disch:=omega) only[go_sem,h]))|refine Exists.intro _ (Exists.intro _ (And.intro (And.intro rfl rfl) ?_)) |fail
  refine W_mid [(0, .ptr w 0 0), (3, .ip (eCls c) 0), (4, .str wd)] t ?_ ?_
  · skip
    repeat' first |refine s1 ?_|refine gS ?_|refine wT rfl ?_|refine wF rfl ?_|refine wt rfl ?_|refine wf rfl ?_|(refine wC rfl (fun h=>?_) (fun h=>?_)<;>(try contradiction))|((first|refine rd ?_|refine ry [] c0 fun nu _ _=>?_);simp -dsimp (disch:=omega) only[go_sem])|refine e0 (by decide) ?_|(refine And.intro ?_ ?_;omega)|refine And.intro (of_eq_true PutAt_put) ?_|refine gT ?_|refine gF ?_|(refine gI (fun h=>?_) (fun h=>?_)<;>(try contradiction)<;>(try refine rd ?_)<;>(try simp -dsimp (disch:=omega) only[go_sem,h]))|refine Exists.intro _ (Exists.intro _ (And.intro (And.intro rfl rfl) ?_)) |fail
    · exact ⟨Env.Sub_of_has (by simp [Env.Has, Env.get, eCls, ← hwd, h]), Store.Sub.refl _⟩
    · exact ⟨Env.Sub_of_has (by simp [Env.Has, Env.get, eCls, ← hwd, h]), Store.Sub.refl _⟩
  have hb := hb.out
  have m1 := max0_ok hc.pref
  have m2 := max0_ok hc.med
  have d1 := digS_spec _ c.n hc.n0 (Nat.lt_succ_self _) (by have := hc.n1; omega)
  have d2 := digS_spec _ (max0 c.s.pref) m1.1 (Nat.lt_succ_self _) (by omega)
  have d3 := digS_spec _ (max0 c.s.med) m2.1 (Nat.lt_succ_self _) (by omega)
  have d4 := comText_spec c.m.c
  have yb : blk.size = 1 := rfl
  have x1 : (joinOf blk (c.s.del.map comText)).size ≤ 60000 := by
    have x := joinOf_map comText 50 blk c.s.del (fun x _ => comText_size x); rw [yb] at x; have := hc.del; omega
  have x2 : (joinOf blk (c.s.add.map comText)).size ≤ 60000 := by
    have x := joinOf_map comText 50 blk c.s.add (fun x _ => comText_size x); rw [yb] at x; have := hc.add; omega
  have x3 : (joinOf blk (c.s.pre.map digB)).size ≤ 60000 := by
    have x := joinOf_map digB 20 blk c.s.pre (fun x hx => digB_size x (by have := hc.each x hx; omega)); rw [yb] at x; have := hc.pre; omega
  have d5 := textsC comText c.s.kD c.s.del hc.del (fun x _ => comText_spec x) (by omega)
  have d6 := textsC comText c.s.kA c.s.add hc.add (fun x _ => comText_spec x) (by omega)
  have d7 := textsI digB c.s.kP c.s.pre hc.pre (fun x hx => digS_spec _ x (hc.each x hx).1 (Nat.lt_succ_self _) (by have := hc.each x hx; omega)) (by omega)
  have z4 := comText_size c.m.c
  have z2 := digB_size (max0 c.s.pref) (by omega)
  have z3 := digB_size (max0 c.s.med) (by omega)
  have l1 : c.s.del.length < 4611686018427387904 := by have := hc.del; omega
  have l2 : c.s.add.length < 4611686018427387904 := by have := hc.add; omega
  have l3 : c.s.pre.length < 4611686018427387904 := by have := hc.pre; omega
  have l4 := hc.list
  have l5 := hc.path
  have z5 : (origin (max0 c.s.origin)).size ≤ 4 := by unfold origin; split; · decide
                                                      · split <;> decide
  have m3 : 0 ≤ max0 c.s.origin ∧ max0 c.s.origin ≤ 2 := by have := hc.origin; unfold max0; split <;> omega
  have hori : [AV.str (⟨#[105, 103, 112]⟩ : ByteArray), AV.str (⟨#[101, 103, 112]⟩ : ByteArray), AV.str (⟨#[110, 111, 110, 101]⟩ : ByteArray)].getD (if c.s.origin < 0 then 0 else c.s.origin).toNat .any = .str (origin (max0 c.s.origin)) := by
    rw [show (if c.s.origin < 0 then 0 else c.s.origin) = max0 c.s.origin from rfl]
    obtain ⟨k, hk⟩ : ∃ k, max0 c.s.origin = k := ⟨_, rfl⟩
    rw [hk] at m3 ⊢
    obtain rfl | rfl | rfl : k = 0 ∨ k = 1 ∨ k = 2 := by omega
    · rfl
    · rfl
    · rfl
  simp only [max0] at m3
  have y1 : ((⟨#[34]⟩ : ByteArray)).size = 1 := rfl
  simp only [clsText, clsLines, catB, szA, szE, quoted] at hb
  rw [hwd] at hb
  replace hb : Hid _ := ⟨hb⟩
  clear m1 m2
  repeat' first |((fail_if_success (first|show W _ _ (Code.seq (Code.region 5 _ _) _) _ _ _|show W _ _ (Code.seq (Code.seq (Code.region 5 _ _) _) _) _ _ _));refine s1 ?_)|refine gS ?_|refine wT rfl ?_|refine wF rfl ?_|refine wt rfl ?_|refine wf rfl ?_|(refine wC rfl (fun h=>?_) (fun h=>?_)<;>(try contradiction))|((fail_if_success (first|show W _ _ (Code.region 5 _ _) _ _ _));(first|refine rd ?_|refine ry [] c0 fun nu _ _=>?_);simp -dsimp (disch:=omega) only[go_sem])|refine e0 (by decide) ?_|(refine And.intro ?_ ?_;omega)|refine And.intro (of_eq_true PutAt_put) ?_|refine gT ?_|refine gF ?_|(refine gI (fun h=>?_) (fun h=>?_)<;>(try contradiction)<;>(try refine rd ?_)<;>(try simp -dsimp (disch:=omega) only[go_sem,h]))|refine Exists.intro _ (Exists.intro _ (And.intro (And.intro rfl rfl) ?_)) |refine us (d1) ?_ |(refine ck (line3 1 .full _ _ _ h (by omega) (by have hb := hb.out;omega)) ?_;rintro _ _ ⟨rfl,hw⟩) |fail
  rename_i t1
  refine s1 ?_
  refine W_region_any (id := 5) [] ⟨[], [6, 7], [4, 5], [], [], [], 0⟩ mx (by kernel_rfl) ?_
  intro nu hA hB
  have n4 : t1 (nu 4) = none := hA 4 (by simp)
  have n5 : t1 (nu 5) = none := hA 5 (by simp)
  have hne : nu 5 ≠ nu 4 := fun e => absurd (hB 5 4 (by simp) (by simp) e) (by decide)
  have hp1 : ∀ (s : Store) (x : Ob), (s.put (nu 5) x) (nu 4) = s (nu 4) := fun s x => put_ne (Ne.symm hne)
  have hp2 : ∀ (s : Store) (x : Ob), (s.put (nu 4) x) (nu 5) = s (nu 5) := fun s x => put_ne hne
  simp -dsimp (disch:=omega) only[go_sem,hp1, hp2]
  repeat' first |((fail_if_success (first|show W _ _ (Code.seq (Code.region 6 _ _) _) _ _ _|show W _ _ (Code.seq (Code.seq (Code.region 6 _ _) _) _) _ _ _));refine s1 ?_)|refine gS ?_|refine wT rfl ?_|refine wF rfl ?_|refine wt rfl ?_|refine wf rfl ?_|(refine wC rfl (fun h=>?_) (fun h=>?_)<;>(try contradiction))|((fail_if_success (first|show W _ _ (Code.region 6 _ _) _ _ _));(first|refine rd ?_|refine ry [] c0 fun nu _ _=>?_);simp -dsimp (disch:=omega) only[go_sem,hp1, hp2])|refine e0 (by decide) ?_|(refine And.intro ?_ ?_;omega)|refine And.intro (of_eq_true PutAt_put) ?_|refine gT ?_|refine gF ?_|(refine gI (fun h=>?_) (fun h=>?_)<;>(try contradiction)<;>(try refine rd ?_)<;>(try simp -dsimp (disch:=omega) only[go_sem,h,hp1, hp2]))|refine Exists.intro _ (Exists.intro _ (And.intro (And.intro rfl rfl) ?_)) |fail
  refine W_freeze (o := nu 5) (e := 52) (rows := [eChg c.s]) (by simp only [put_same, hp1, hp2, eChg]) ?_
  refine W_freeze (o := nu 4) (e := 48) (rows := [eMat c.m]) (by simp only [Store.drop, if_neg (Ne.symm hne), put_same, hp1, hp2, eMat]) ?_
  have w4 := WS_ne hw n4
  have w5 := WS_ne hw n5
  refine W_weaken (ρ' := [(0, .ptr w 0 0), (5, .ip (eMat c.m) 0), (6, .ip (eChg c.s) 0)]) (σ' := t1) (Env.Sub_of_has ?_) ?_ ?_
  · simp only [Env.Has, Env.frz_get, Env.get]
    simp [frz, hne, Ne.symm hne, Ne.symm w4, Ne.symm w5, eMat, eChg]
  · repeat' first | exact Store.Sub.refl _ | refine Sub_drop ?_ (by assumption) | refine Sub_put ?_ (by assumption) _
  clear hA hB n4 n5 hne hp1 hp2 w4 w5
  repeat' first |((fail_if_success (first|show W _ _ (Code.seq (Code.region 7 _ _) _) _ _ _|show W _ _ (Code.seq (Code.seq (Code.region 7 _ _) _) _) _ _ _));refine s1 ?_)|refine gS ?_|refine wT rfl ?_|refine wF rfl ?_|refine wt rfl ?_|refine wf rfl ?_|(refine wC rfl (fun h=>?_) (fun h=>?_)<;>(try contradiction))|((fail_if_success (first|show W _ _ (Code.region 7 _ _) _ _ _));(first|refine s3 (mu:=[26]) ?_|refine rd ?_|refine ry [26] c0 fun nu _ _=>?_);simp -dsimp (disch:=omega) only[go_sem])|refine e0 (by decide) ?_|(refine And.intro ?_ ?_;omega)|refine And.intro (of_eq_true PutAt_put) ?_|refine gT ?_|refine gF ?_|(refine gI (fun h=>?_) (fun h=>?_)<;>(try contradiction)<;>(try refine rd ?_)<;>(try simp -dsimp (disch:=omega) only[go_sem,h]))|refine Exists.intro _ (Exists.intro _ (And.intro (And.intro rfl rfl) ?_)) |fail
  intro o ho
  repeat' first |((fail_if_success (first|show W _ _ (Code.seq (Code.region 7 _ _) _) _ _ _|show W _ _ (Code.seq (Code.seq (Code.region 7 _ _) _) _) _ _ _));refine s1 ?_)|refine gS ?_|refine wT rfl ?_|refine wF rfl ?_|refine wt rfl ?_|refine wf rfl ?_|(refine wC rfl (fun h=>?_) (fun h=>?_)<;>(try contradiction))|((fail_if_success (first|show W _ _ (Code.region 7 _ _) _ _ _));(first|refine s3 (mu:=[26]) ?_|refine rd ?_|refine ry [26] c0 fun nu _ _=>?_);simp -dsimp (disch:=omega) only[go_sem])|refine e0 (by decide) ?_|(refine And.intro ?_ ?_;omega)|refine And.intro (of_eq_true PutAt_put) ?_|refine gT ?_|refine gF ?_|(refine gI (fun h=>?_) (fun h=>?_)<;>(try contradiction)<;>(try refine rd ?_)<;>(try simp -dsimp (disch:=omega) only[go_sem,h]))|refine Exists.intro _ (Exists.intro _ (And.intro (And.intro rfl rfl) ?_)) |(refine ck (some2 _ _ _  hw ho (by have hb := hb.out;first | omega | decide | (simp only [szA];omega)) (by have hb := hb.out;first | omega | decide | (simp only [szA];omega))) ?_;rintro _ _ ⟨rfl,hw⟩) |fail
  repeat' first |((fail_if_success (first|show W _ _ (Code.seq (Code.region 8 _ _) _) _ _ _|show W _ _ (Code.seq (Code.seq (Code.region 8 _ _) _) _) _ _ _));refine s1 ?_)|refine gS ?_|refine wT rfl ?_|refine wF rfl ?_|refine wt rfl ?_|refine wf rfl ?_|(refine wC rfl (fun h=>?_) (fun h=>?_)<;>(try contradiction))|((fail_if_success (first|show W _ _ (Code.region 8 _ _) _ _ _));(first|refine s3 (mu:=[36]) ?_|refine rd ?_|refine ry [36] c0 fun nu _ _=>?_);simp -dsimp (disch:=omega) only[go_sem,szA, y1])|refine e0 (by decide) ?_|(refine And.intro ?_ ?_;omega)|refine And.intro (of_eq_true PutAt_put) ?_|refine gT ?_|refine gF ?_|(refine gI (fun h=>?_) (fun h=>?_)<;>(try contradiction)<;>(try refine rd ?_)<;>(try simp -dsimp (disch:=omega) only[go_sem,h,szA, y1]))|refine Exists.intro _ (Exists.intro _ (And.intro (And.intro rfl rfl) ?_)) |fail
  intro o ho
  repeat' first |((fail_if_success (first|show W _ _ (Code.seq (Code.region 8 _ _) _) _ _ _|show W _ _ (Code.seq (Code.seq (Code.region 8 _ _) _) _) _ _ _));refine s1 ?_)|refine gS ?_|refine wT rfl ?_|refine wF rfl ?_|refine wt rfl ?_|refine wf rfl ?_|(refine wC rfl (fun h=>?_) (fun h=>?_)<;>(try contradiction))|((fail_if_success (first|show W _ _ (Code.region 8 _ _) _ _ _));(first|refine s3 (mu:=[36]) ?_|refine rd ?_|refine ry [36] c0 fun nu _ _=>?_);simp -dsimp (disch:=omega) only[go_sem,szA, y1])|refine e0 (by decide) ?_|(refine And.intro ?_ ?_;omega)|refine And.intro (of_eq_true PutAt_put) ?_|refine gT ?_|refine gF ?_|(refine gI (fun h=>?_) (fun h=>?_)<;>(try contradiction)<;>(try refine rd ?_)<;>(try simp -dsimp (disch:=omega) only[go_sem,h,szA, y1]))|refine Exists.intro _ (Exists.intro _ (And.intro (And.intro rfl rfl) ?_)) |(refine ck (some2 _ _ _  hw ho (by have hb := hb.out;first | omega | decide | (simp only [szA];omega)) (by have hb := hb.out;first | omega | decide | (simp only [szA];omega))) ?_;rintro _ _ ⟨rfl,hw⟩) |fail
  refine s1 ?_
  refine W_region_any (id := 8) [] ⟨[], [8, 9], [], [8], [9], [], 0⟩ mx (by kernel_rfl) ?_
  intro nu hA _
  have ho := hA 8 (by simp)
  clear hA
  simp -dsimp (disch:=omega) only[go_sem]
  repeat' first |((fail_if_success (first|show W _ _ (Code.seq (Code.region 9 _ _) _) _ _ _|show W _ _ (Code.seq (Code.seq (Code.region 9 _ _) _) _) _ _ _));refine s1 ?_)|refine gS ?_|refine wT rfl ?_|refine wF rfl ?_|refine wt rfl ?_|refine wf rfl ?_|(refine wC rfl (fun h=>?_) (fun h=>?_)<;>(try contradiction))|((fail_if_success (first|show W _ _ (Code.region 9 _ _) _ _ _));(first|refine rd ?_|refine ry [] c0 fun nu _ _=>?_);simp -dsimp (disch:=omega) only[go_sem])|refine e0 (by decide) ?_|(refine And.intro ?_ ?_;omega)|refine And.intro (of_eq_true PutAt_put) ?_|refine gT ?_|refine gF ?_|(refine gI (fun h=>?_) (fun h=>?_)<;>(try contradiction)<;>(try refine rd ?_)<;>(try simp -dsimp (disch:=omega) only[go_sem,h]))|refine Exists.intro _ (Exists.intro _ (And.intro (And.intro rfl rfl) ?_)) |refine us (d4) ?_ |(refine ck (some2 _ _ _ hw ho (by have hb := hb.out;first | omega | decide | (simp only [szA];omega)) (by have hb := hb.out;first | omega | decide | (simp only [szA];omega))) ?_;rintro _ _ ⟨rfl,hw⟩) |fail
  clear ho
  refine s1 ?_
  refine W_region_any (id := 9) [] ⟨[], [8, 9], [], [8], [9], [], 0⟩ mx (by kernel_rfl) ?_
  intro nu hA _
  have ho := hA 8 (by simp)
  clear hA
  simp -dsimp (disch:=omega) only[go_sem]
  repeat' first |((fail_if_success (first|show W _ _ (Code.seq (Code.region 10 _ _) _) _ _ _|show W _ _ (Code.seq (Code.seq (Code.region 10 _ _) _) _) _ _ _));refine s1 ?_)|refine gS ?_|refine wT rfl ?_|refine wF rfl ?_|refine wt rfl ?_|refine wf rfl ?_|(refine wC rfl (fun h=>?_) (fun h=>?_)<;>(try contradiction))|((fail_if_success (first|show W _ _ (Code.region 10 _ _) _ _ _));(first|refine rd ?_|refine ry [] c0 fun nu _ _=>?_);simp -dsimp (disch:=omega) only[go_sem])|refine e0 (by decide) ?_|(refine And.intro ?_ ?_;omega)|refine And.intro (of_eq_true PutAt_put) ?_|refine gT ?_|refine gF ?_|(refine gI (fun h=>?_) (fun h=>?_)<;>(try contradiction)<;>(try refine rd ?_)<;>(try simp -dsimp (disch:=omega) only[go_sem,h]))|refine Exists.intro _ (Exists.intro _ (And.intro (And.intro rfl rfl) ?_)) |refine us (d2) ?_ |(refine ck (some2 _ _ _ hw ho (by have hb := hb.out;first | omega | decide | (simp only [szA];omega)) (by have hb := hb.out;first | omega | decide | (simp only [szA];omega))) ?_;rintro _ _ ⟨rfl,hw⟩) |fail
  clear ho
  refine s1 ?_
  refine W_region_any (id := 10) [] ⟨[], [8, 9], [], [8], [9], [], 0⟩ mx (by kernel_rfl) ?_
  intro nu hA _
  have ho := hA 8 (by simp)
  clear hA
  simp -dsimp (disch:=omega) only[go_sem]
  repeat' first |((fail_if_success (first|show W _ _ (Code.seq (Code.region 11 _ _) _) _ _ _|show W _ _ (Code.seq (Code.seq (Code.region 11 _ _) _) _) _ _ _));refine s1 ?_)|refine gS ?_|refine wT rfl ?_|refine wF rfl ?_|refine wt rfl ?_|refine wf rfl ?_|(refine wC rfl (fun h=>?_) (fun h=>?_)<;>(try contradiction))|((fail_if_success (first|show W _ _ (Code.region 11 _ _) _ _ _));(first|refine rd ?_|refine ry [] c0 fun nu _ _=>?_);simp -dsimp (disch:=omega) only[go_sem])|refine e0 (by decide) ?_|(refine And.intro ?_ ?_;omega)|refine And.intro (of_eq_true PutAt_put) ?_|refine gT ?_|refine gF ?_|(refine gI (fun h=>?_) (fun h=>?_)<;>(try contradiction)<;>(try refine rd ?_)<;>(try simp -dsimp (disch:=omega) only[go_sem,h]))|refine Exists.intro _ (Exists.intro _ (And.intro (And.intro rfl rfl) ?_)) |refine us (d3) ?_ |(refine ck (some2 _ _ _ hw ho (by have hb := hb.out;first | omega | decide | (simp only [szA];omega)) (by have hb := hb.out;first | omega | decide | (simp only [szA];omega))) ?_;rintro _ _ ⟨rfl,hw⟩) |fail
  clear ho
  refine s1 ?_
  refine W_region_any (id := 11) [] ⟨[], [10, 11], [], [10], [11], [], 0⟩ mx (by kernel_rfl) ?_
  intro nu hA _
  have ho := hA 10 (by simp)
  clear hA
  simp -dsimp (disch:=omega) only[go_sem,hori]
  repeat' first |((fail_if_success (first|show W _ _ (Code.seq (Code.region 12 _ _) _) _ _ _|show W _ _ (Code.seq (Code.seq (Code.region 12 _ _) _) _) _ _ _));refine s1 ?_)|refine gS ?_|refine wT rfl ?_|refine wF rfl ?_|refine wt rfl ?_|refine wf rfl ?_|(refine wC rfl (fun h=>?_) (fun h=>?_)<;>(try contradiction))|((fail_if_success (first|show W _ _ (Code.region 12 _ _) _ _ _));(first|refine rd ?_|refine ry [] c0 fun nu _ _=>?_);simp -dsimp (disch:=omega) only[go_sem,hori])|refine e0 (by decide) ?_|(refine And.intro ?_ ?_;omega)|refine And.intro (of_eq_true PutAt_put) ?_|refine gT ?_|refine gF ?_|(refine gI (fun h=>?_) (fun h=>?_)<;>(try contradiction)<;>(try refine rd ?_)<;>(try simp -dsimp (disch:=omega) only[go_sem,h,hori]))|refine Exists.intro _ (Exists.intro _ (And.intro (And.intro rfl rfl) ?_)) |(refine ck (some2 _ _ _ hw ho (by have hb := hb.out;first | omega | decide | (simp only [szA];omega)) (by have hb := hb.out;first | omega | decide | (simp only [szA];omega))) ?_;rintro _ _ ⟨rfl,hw⟩) |fail
  clear ho
  repeat' first |((fail_if_success (first|show W _ _ (Code.seq (Code.region 13 _ _) _) _ _ _|show W _ _ (Code.seq (Code.seq (Code.region 13 _ _) _) _) _ _ _));refine s1 ?_)|refine gS ?_|refine wT rfl ?_|refine wF rfl ?_|refine wt rfl ?_|refine wf rfl ?_|(refine wC rfl (fun h=>?_) (fun h=>?_)<;>(try contradiction))|((fail_if_success (first|show W _ _ (Code.region 13 _ _) _ _ _));(first|refine s3 (mu:=[83]) ?_|refine rd ?_|refine ry [83] c0 fun nu _ _=>?_);simp -dsimp (disch:=omega) only[go_sem])|refine e0 (by decide) ?_|(refine And.intro ?_ ?_;omega)|refine And.intro (of_eq_true PutAt_put) ?_|refine gT ?_|refine gF ?_|(refine gI (fun h=>?_) (fun h=>?_)<;>(try contradiction)<;>(try refine rd ?_)<;>(try simp -dsimp (disch:=omega) only[go_sem,h]))|refine Exists.intro _ (Exists.intro _ (And.intro (And.intro rfl rfl) ?_)) |fail
  intro o ho
  repeat' first |((fail_if_success (first|show W _ _ (Code.seq (Code.region 13 _ _) _) _ _ _|show W _ _ (Code.seq (Code.seq (Code.region 13 _ _) _) _) _ _ _));refine s1 ?_)|refine gS ?_|refine wT rfl ?_|refine wF rfl ?_|refine wt rfl ?_|refine wf rfl ?_|(refine wC rfl (fun h=>?_) (fun h=>?_)<;>(try contradiction))|((fail_if_success (first|show W _ _ (Code.region 13 _ _) _ _ _));(first|refine s3 (mu:=[83]) ?_|refine rd ?_|refine ry [83] c0 fun nu _ _=>?_);simp -dsimp (disch:=omega) only[go_sem])|refine e0 (by decide) ?_|(refine And.intro ?_ ?_;omega)|refine And.intro (of_eq_true PutAt_put) ?_|refine gT ?_|refine gF ?_|(refine gI (fun h=>?_) (fun h=>?_)<;>(try contradiction)<;>(try refine rd ?_)<;>(try simp -dsimp (disch:=omega) only[go_sem,h]))|refine Exists.intro _ (Exists.intro _ (And.intro (And.intro rfl rfl) ?_)) |(refine ck (some1 _ _  hw ho (by have hb := hb.out;first | omega | decide | (simp only [szA];omega)) (by have hb := hb.out;first | omega | decide | (simp only [szA];omega))) ?_;rintro _ _ ⟨rfl,hw⟩) |fail
  refine s1 ?_
  refine W_region_any (id := 13) [] ⟨[], [8, 9], [], [8], [9], [], 0⟩ mx (by kernel_rfl) ?_
  intro nu hA _
  have ho := hA 8 (by simp)
  clear hA
  simp -dsimp (disch:=omega) only[go_sem]
  repeat' first |((fail_if_success (first|show W _ _ (Code.seq (Code.region 14 _ _) _) _ _ _|show W _ _ (Code.seq (Code.seq (Code.region 14 _ _) _) _) _ _ _));refine s1 ?_)|refine gS ?_|refine wT rfl ?_|refine wF rfl ?_|refine wt rfl ?_|refine wf rfl ?_|(refine wC rfl (fun h=>?_) (fun h=>?_)<;>(try contradiction))|((fail_if_success (first|show W _ _ (Code.region 14 _ _) _ _ _));(first|refine rd ?_|refine ry [] c0 fun nu _ _=>?_);simp -dsimp (disch:=omega) only[go_sem])|refine e0 (by decide) ?_|(refine And.intro ?_ ?_;omega)|refine And.intro (of_eq_true PutAt_put) ?_|refine gT ?_|refine gF ?_|(refine gI (fun h=>?_) (fun h=>?_)<;>(try contradiction)<;>(try refine rd ?_)<;>(try simp -dsimp (disch:=omega) only[go_sem,h]))|refine Exists.intro _ (Exists.intro _ (And.intro (And.intro rfl rfl) ?_)) |refine us (d5) ?_ |(refine ck (some2 _ _ _ hw ho (by have hb := hb.out;first | omega | decide | (simp only [szA];omega)) (by have hb := hb.out;first | omega | decide | (simp only [szA];omega))) ?_;rintro _ _ ⟨rfl,hw⟩) |fail
  clear ho
  refine s1 ?_
  refine W_region_any (id := 14) [] ⟨[], [8, 9], [], [8], [9], [], 0⟩ mx (by kernel_rfl) ?_
  intro nu hA _
  have ho := hA 8 (by simp)
  clear hA
  simp -dsimp (disch:=omega) only[go_sem]
  repeat' first |((fail_if_success (first|show W _ _ (Code.seq (Code.region 15 _ _) _) _ _ _|show W _ _ (Code.seq (Code.seq (Code.region 15 _ _) _) _) _ _ _));refine s1 ?_)|refine gS ?_|refine wT rfl ?_|refine wF rfl ?_|refine wt rfl ?_|refine wf rfl ?_|(refine wC rfl (fun h=>?_) (fun h=>?_)<;>(try contradiction))|((fail_if_success (first|show W _ _ (Code.region 15 _ _) _ _ _));(first|refine rd ?_|refine ry [] c0 fun nu _ _=>?_);simp -dsimp (disch:=omega) only[go_sem])|refine e0 (by decide) ?_|(refine And.intro ?_ ?_;omega)|refine And.intro (of_eq_true PutAt_put) ?_|refine gT ?_|refine gF ?_|(refine gI (fun h=>?_) (fun h=>?_)<;>(try contradiction)<;>(try refine rd ?_)<;>(try simp -dsimp (disch:=omega) only[go_sem,h]))|refine Exists.intro _ (Exists.intro _ (And.intro (And.intro rfl rfl) ?_)) |refine us (d6) ?_ |(refine ck (some2 _ _ _ hw ho (by have hb := hb.out;first | omega | decide | (simp only [szA];omega)) (by have hb := hb.out;first | omega | decide | (simp only [szA];omega))) ?_;rintro _ _ ⟨rfl,hw⟩) |fail
  clear ho
  refine s1 ?_
  refine W_region_any (id := 15) [] ⟨[], [8, 9], [], [8], [9], [], 0⟩ mx (by kernel_rfl) ?_
  intro nu hA _
  have ho := hA 8 (by simp)
  clear hA
  simp -dsimp (disch:=omega) only[go_sem]
  repeat' first |((fail_if_success (first|show W _ _ (Code.seq (Code.region 16 _ _) _) _ _ _|show W _ _ (Code.seq (Code.seq (Code.region 16 _ _) _) _) _ _ _));refine s1 ?_)|refine gS ?_|refine wT rfl ?_|refine wF rfl ?_|refine wt rfl ?_|refine wf rfl ?_|(refine wC rfl (fun h=>?_) (fun h=>?_)<;>(try contradiction))|((fail_if_success (first|show W _ _ (Code.region 16 _ _) _ _ _));(first|refine rd ?_|refine ry [] c0 fun nu _ _=>?_);simp -dsimp (disch:=omega) only[go_sem])|refine e0 (by decide) ?_|(refine And.intro ?_ ?_;omega)|refine And.intro (of_eq_true PutAt_put) ?_|refine gT ?_|refine gF ?_|(refine gI (fun h=>?_) (fun h=>?_)<;>(try contradiction)<;>(try refine rd ?_)<;>(try simp -dsimp (disch:=omega) only[go_sem,h]))|refine Exists.intro _ (Exists.intro _ (And.intro (And.intro rfl rfl) ?_)) |refine us (d7) ?_ |(refine ck (some2 _ _ _ hw ho (by have hb := hb.out;first | omega | decide | (simp only [szA];omega)) (by have hb := hb.out;first | omega | decide | (simp only [szA];omega))) ?_;rintro _ _ ⟨rfl,hw⟩) |fail
  clear ho
  repeat' first |refine s1 ?_|refine gS ?_|refine wT rfl ?_|refine wF rfl ?_|refine wt rfl ?_|refine wf rfl ?_|(refine wC rfl (fun h=>?_) (fun h=>?_)<;>(try contradiction))|((first|refine rd ?_|refine ry [] c0 fun nu _ _=>?_);simp -dsimp (disch:=omega) only[go_sem])|refine e0 (by decide) ?_|(refine And.intro ?_ ?_;omega)|refine And.intro (of_eq_true PutAt_put) ?_|refine gT ?_|refine gF ?_|(refine gI (fun h=>?_) (fun h=>?_)<;>(try contradiction)<;>(try refine rd ?_)<;>(try simp -dsimp (disch:=omega) only[go_sem,h]))|refine Exists.intro _ (Exists.intro _ (And.intro (And.intro rfl rfl) ?_)) |(refine ck (line1 1 .full _ hw (by omega) (by have hb := hb.out;first | omega | decide | (simp only [szA];omega))) ?_;rintro _ _ ⟨rfl,hw⟩) |fail
  refine ⟨_, Store.Sub.refl _, ?_⟩
  simp only [asA] at hw
  simp only [clsText, clsLines, catB, emA, hwd, quoted]
  exact hw
end Go.Proofs.YtaealcimocpnnaaGreat
namespace Go.Proofs.YtaealcimocpnnaaGreat
open Go.Kern
set_option maxRecDepth 100000
set_option maxHeartbeats 4000000
attribute [local irreducible] PCall W
def LastT : Type := { n : Int // 0 ≤ n ∧ n ≤ 65535 }
theorem lastN_ok {n m : Int} (h : 0 ≤ n ∧ n ≤ 65535) : 0 ≤ lastN n m ∧ lastN n m ≤ 65535 := by
  unfold lastN; split <;> split <;> omega
def clsStep (st : LastT) (c : Cls) : Bool × LastT := (clsMay st.1 c, ⟨lastN st.1 c.n, lastN_ok st.2⟩)
def mapMayB (m : MapD) : Bool := (eachS 16 clsStep ⟨0, by omega⟩ m.l).1
structure MapD.Fits (m : MapD) : Prop where
  len : m.l.length < 4611686018427387904
  cls : ∀ c, c ∈ m.l → c.s.Fits ∧ c.m.path.size ≤ 1000 ∧ c.m.list.size ≤ 1000
  name : m.name.size ≤ 9223372036854775807
theorem mapMay_spec (m : MapD) (hm : m.Fits) : Pure Tryz.prog 31 [eMap m] (.bool (mapMayB m)) := by
  intro σ
  refine PCall_q [.tmp 2] 8 Tryz.func31 (by rfl) rfl rfl rfl rfl ?_
  repeat' first |((fail_if_success (first|show W _ _ (Code.seq (Code.region 2 _ _) _) _ _ _|show W _ _ (Code.seq (Code.seq (Code.region 2 _ _) _) _) _ _ _));refine s1 ?_)|refine gS ?_|refine wT rfl ?_|refine wF rfl ?_|refine wt rfl ?_|refine wf rfl ?_|(refine wC rfl (fun h=>?_) (fun h=>?_)<;>(try contradiction))|((fail_if_success (first|show W _ _ (Code.region 2 _ _) _ _ _));(first|refine rd ?_|refine ry [] c0 fun nu _ _=>?_);simp -dsimp (disch:=omega) only[go_sem])|refine e0 (by decide) ?_|(refine And.intro ?_ ?_;omega)|refine And.intro (of_eq_true PutAt_put) ?_|refine gT ?_|refine gF ?_|(refine gI (fun h=>?_) (fun h=>?_)<;>(try contradiction)<;>(try refine rd ?_)<;>(try simp -dsimp (disch:=omega) only[go_sem,h]))|refine Exists.intro _ (Exists.intro _ (And.intro (And.intro rfl rfl) ?_)) |fail
  intro o ho
  have hc := eachCls 76 [.ptr o 0 0] (fun st : LastT => σ.put o (lastO st.1)) clsStep m.k m.l 16 hm.len (fun st c hx => mapMay1_spec c (hm.cls c hx).1 (hm.cls c hx).2.1 (hm.cls c hx).2.2 st.1 st.2.1 st.2.2 o σ) ⟨0, by omega⟩
  unfold lastO at hc
  repeat' first |refine s1 ?_|refine gS ?_|refine wT rfl ?_|refine wF rfl ?_|refine wt rfl ?_|refine wf rfl ?_|(refine wC rfl (fun h=>?_) (fun h=>?_)<;>(try contradiction))|((first|refine rd ?_|refine ry [] c0 fun nu _ _=>?_);simp -dsimp (disch:=omega) only[go_sem])|refine e0 (by decide) ?_|(refine And.intro ?_ ?_;omega)|refine And.intro (of_eq_true PutAt_put) ?_|refine gT ?_|refine gF ?_|(refine gI (fun h=>?_) (fun h=>?_)<;>(try contradiction)<;>(try refine rd ?_)<;>(try simp -dsimp (disch:=omega) only[go_sem,h]))|refine Exists.intro _ (Exists.intro _ (And.intro (And.intro rfl rfl) ?_)) |refine uw (hc) ?_ |fail
  all_goals (first | exact ⟨_, Sub_put (Store.Sub.refl _) ho _, rfl, rfl⟩ | exact Sub_put (Store.Sub.refl _) ho _ | exact ⟨rfl, Sub_put (Store.Sub.refl _) ho _⟩)
def pfxEq (p q : Pfx) : Bool := decide (p.a = q.a) && decide (p.b = q.b)
def idxP (v : Pfx) : Int → List Pfx → Int
  | _, [] => -1
  | i, x :: r => if pfxEq v x = true then i else idxP v (i + 1) r
theorem idxP_drop (v : Pfx) (l : List Pfx) (i : Nat) (h : i < l.length) (k : Int) : idxP v k (l.drop i) = if pfxEq v (l.getD i default) = true then k else idxP v (k + 1) (l.drop (i + 1)) := by
  rw [List.drop_eq_getElem_cons h, idxP]
  simp [List.getD_eq_getElem?_getD, h]
theorem idxP_any (v : Pfx) : ∀ (l : List Pfx) (k : Int), 0 ≤ k → decide (0 ≤ idxP v k l) = l.any (pfxEq v)
  | [], k, _ => rfl
  | x :: l, k, h => by
    have ih := idxP_any v l (k + 1) (by omega)
    by_cases hx : pfxEq v x = true
    · simp only [idxP, List.any_cons, hx, if_true, h, decide_true, Bool.true_or]
    · simp only [idxP, List.any_cons, hx, if_false, Bool.false_or]; exact ih
theorem idxP_spec (k : SK) (l : List Pfx) (hl : l.length < 4611686018427387904) (v : Pfx) : Pure Tryz.prog 139 [.sl k (encL ePfx l), ePfx v] (.int .i64 (idxP v 0 l)) := by
  intro σ
  refine PCall_q [.tmp 4] 19 Tryz.func139 (by rfl) rfl rfl rfl rfl ?_
  repeat' first |refine s1 ?_|refine gS ?_|refine wT rfl ?_|refine wF rfl ?_|refine wt rfl ?_|refine wf rfl ?_|(refine wC rfl (fun h=>?_) (fun h=>?_)<;>(try contradiction))|((first|refine rd ?_|refine ry [] c0 fun nu _ _=>?_);simp -dsimp (disch:=omega) only[go_sem])|refine e0 (by decide) ?_|(refine And.intro ?_ ?_;omega)|refine And.intro (of_eq_true PutAt_put) ?_|refine gT ?_|refine gF ?_|(refine gI (fun h=>?_) (fun h=>?_)<;>(try contradiction)<;>(try refine rd ?_)<;>(try simp -dsimp (disch:=omega) only[go_sem,h]))|refine Exists.intro _ (Exists.intro _ (And.intro (And.intro rfl rfl) ?_)) |fail
  refine W_loop_st (fun i : Nat => [(0, .sl k (encL ePfx l)), (3, .ip (ePfx v) 0), (7, .int .i64 l.length), (8, .int .i64 i)]) (fun _ => σ) (fun i => i ≤ l.length ∧ idxP v 0 l = idxP v i (l.drop i)) (fun i => l.length - i) 0 ⟨Nat.zero_le _, rfl⟩ (Env.Sub_of_has (by simp [Env.Has, Env.get, ePfx])) (Store.Sub.refl _) ?_
  rintro i ⟨hi, hor⟩
  by_cases hlt : i < l.length
  · have ho := idxP_drop v l i hlt i
    repeat' first |refine s1 ?_|refine gS ?_|refine wT rfl ?_|refine wF rfl ?_|refine wt rfl ?_|refine wf rfl ?_|(refine wC rfl (fun h=>?_) (fun h=>?_)<;>(try contradiction))|((first|refine rd ?_|refine ry [] c0 fun nu _ _=>?_);simp -dsimp (disch:=omega) only[go_sem])|refine e0 (by decide) ?_|(refine And.intro ?_ ?_;omega)|refine And.intro (of_eq_true PutAt_put) ?_|refine gT ?_|refine gF ?_|(refine gI (fun h=>?_) (fun h=>?_)<;>(try contradiction)<;>(try refine rd ?_)<;>(try simp -dsimp (disch:=omega) only[go_sem,h]))|refine Exists.intro _ (Exists.intro _ (And.intro (And.intro rfl rfl) ?_)) |fail
    · rw [hor, ho, if_pos (by simpa [pfxEq, cellsB, cellB] using h)]
    · rw [if_neg (by simpa [pfxEq, cellsB, cellB] using h)] at ho
      exact ⟨i + 1, by omega, ⟨by omega, by rw [hor, ho]; rfl⟩, Env.Sub_of_has (by simp [Env.Has, Env.get, ePfx]), Store.Sub.refl _⟩
  · have hi' : i = l.length := by omega
    subst hi'
    repeat' first |refine s1 ?_|refine gS ?_|refine wT rfl ?_|refine wF rfl ?_|refine wt rfl ?_|refine wf rfl ?_|(refine wC rfl (fun h=>?_) (fun h=>?_)<;>(try contradiction))|((first|refine rd ?_|refine ry [] c0 fun nu _ _=>?_);simp -dsimp (disch:=omega) only[go_sem])|refine e0 (by decide) ?_|(refine And.intro ?_ ?_;omega)|refine And.intro (of_eq_true PutAt_put) ?_|refine gT ?_|refine gF ?_|(refine gI (fun h=>?_) (fun h=>?_)<;>(try contradiction)<;>(try refine rd ?_)<;>(try simp -dsimp (disch:=omega) only[go_sem,h]))|refine Exists.intro _ (Exists.intro _ (And.intro (And.intro rfl rfl) ?_)) |fail
    rw [hor, List.drop_length]; rfl
theorem conP_spec (k : SK) (l : List Pfx) (hl : l.length < 4611686018427387904) (v : Pfx) : Pure Tryz.prog 84 [.sl k (encL ePfx l), ePfx v] (.bool (l.any (pfxEq v))) := by
  intro σ
  have h := idxP_spec k l hl v
  refine PCall_q [.tmp 4] 9 Tryz.func84 (by rfl) rfl rfl rfl rfl ?_
  repeat' first |refine s1 ?_|refine gS ?_|refine wT rfl ?_|refine wF rfl ?_|refine wt rfl ?_|refine wf rfl ?_|(refine wC rfl (fun h=>?_) (fun h=>?_)<;>(try contradiction))|((first|refine rd ?_|refine ry [] c0 fun nu _ _=>?_);simp -dsimp (disch:=omega) only[go_sem])|refine e0 (by decide) ?_|(refine And.intro ?_ ?_;omega)|refine And.intro (of_eq_true PutAt_put) ?_|refine gT ?_|refine gF ?_|(refine gI (fun h=>?_) (fun h=>?_)<;>(try contradiction)<;>(try refine rd ?_)<;>(try simp -dsimp (disch:=omega) only[go_sem,h]))|refine Exists.intro _ (Exists.intro _ (And.intro (And.intro rfl rfl) ?_)) |refine us (h) ?_ |fail
  rw [idxP_any v l 0 (Int.le_refl _)]
def distB : List Pfx → List Pfx → Bool
  | _, [] => true
  | pre, p :: r => !(pre.any (pfxEq p)) && distB (pre ++ [p]) r
theorem distB_drop (l : List Pfx) (i : Nat) (h : i < l.length) : distB (l.take i) (l.drop i) = (!((l.take i).any (pfxEq (l.getD i default))) && distB (l.take (i + 1)) (l.drop (i + 1))) := by
  rw [List.drop_eq_getElem_cons h, distB, List.take_succ_eq_append_getElem h]
  simp [List.getD_eq_getElem?_getD, h]
def nbrMay (n : Nbr) : Bool := usedB n.imp && usedB n.exp
theorem nbrMay_spec (n : Nbr) (h1 : n.imp.size ≤ 9223372036854775807) (h2 : n.exp.size ≤ 9223372036854775807) : Pure Tryz.prog 86 [eNbr n] (.bool (nbrMay n)) := by
  intro σ
  have h3 := used_spec n.imp h1
  have h4 := used_spec n.exp h2
  refine PCall_q [.tmp 2] 11 Tryz.func86 (by rfl) rfl rfl rfl rfl ?_
  repeat' first |refine s1 ?_|refine gS ?_|refine wT rfl ?_|refine wF rfl ?_|refine wt rfl ?_|refine wf rfl ?_|(refine wC rfl (fun h=>?_) (fun h=>?_)<;>(try contradiction))|((first|refine rd ?_|refine ry [] c0 fun nu _ _=>?_);simp -dsimp (disch:=omega) only[go_sem])|refine e0 (by decide) ?_|(refine And.intro ?_ ?_;omega)|refine And.intro (of_eq_true PutAt_put) ?_|refine gT ?_|refine gF ?_|(refine gI (fun h=>?_) (fun h=>?_)<;>(try contradiction)<;>(try refine rd ?_)<;>(try simp -dsimp (disch:=omega) only[go_sem,h]))|refine Exists.intro _ (Exists.intro _ (And.intro (And.intro rfl rfl) ?_)) |refine us (h3) ?_ |refine us (h4) ?_ |fail
  all_goals simp_all [nbrMay]
def lnkMay (x : Lnk) : Bool := withinZ x.cost 0 65536
theorem lnkMay_spec (x : Lnk) : Pure Tryz.prog 89 [eLnk x] (.bool (lnkMay x)) := by
  intro σ
  refine PCall_q [.tmp 2] 6 Tryz.func89 (by rfl) rfl rfl rfl rfl ?_
  repeat' first |refine s1 ?_|refine gS ?_|refine wT rfl ?_|refine wF rfl ?_|refine wt rfl ?_|refine wf rfl ?_|(refine wC rfl (fun h=>?_) (fun h=>?_)<;>(try contradiction))|((first|refine rd ?_|refine ry [] c0 fun nu _ _=>?_);simp -dsimp (disch:=omega) only[go_sem])|refine e0 (by decide) ?_|(refine And.intro ?_ ?_;omega)|refine And.intro (of_eq_true PutAt_put) ?_|refine gT ?_|refine gF ?_|(refine gI (fun h=>?_) (fun h=>?_)<;>(try contradiction)<;>(try refine rd ?_)<;>(try simp -dsimp (disch:=omega) only[go_sem,h]))|refine Exists.intro _ (Exists.intro _ (And.intro (And.intro rfl rfl) ?_)) |refine us (within_spec _ _ _) ?_ |fail
  rfl
structure Rtr.Fits (r : Rtr) : Prop where
  name : r.name.size ≤ 9223372036854775807
  nets : r.nets.length < 4611686018427387904
  nbrs : r.nbrs.length < 4611686018427387904
  links : r.links.length < 4611686018427387904
  nbr : ∀ n, n ∈ r.nbrs → n.name.size ≤ 9223372036854775807 ∧ n.imp.size ≤ 9223372036854775807 ∧ n.exp.size ≤ 9223372036854775807
  link : ∀ n, n ∈ r.links → n.name.size ≤ 9223372036854775807
def rtrMay (r : Rtr) : Bool := withinZ r.asn 1 65535 && (withinZ r.id 1 65535 && (eachP 16 pfxMay r.nets && (distB [] r.nets && (eachP 16 nbrMay r.nbrs && (eachP 16 lnkMay r.links && (unlikeB [] (r.nbrs.map (·.name)) && unlikeB [] (r.links.map (·.name))))))))
theorem rtrMay_spec (r : Rtr) (hr : r.Fits) : Pure Tryz.prog 33 [eRtr r] (.bool (rtrMay r)) := by
  intro σ
  have hln := hr.nets
  have g1 := within_spec r.asn 1 65535
  have f2 := within_spec r.id 1 65535
  have f3 := eachPPfx 83 [] pfxMay r.kN r.nets 16 hr.nets (fun p _ => pfxMay_spec p)
  have f4 := eachPNbr 86 [] nbrMay r.kB r.nbrs 16 hr.nbrs (fun n hn => nbrMay_spec n (hr.nbr n hn).2.1 (hr.nbr n hn).2.2)
  have f5 := eachPLnk 89 [] lnkMay r.kL r.links 16 hr.links (fun n _ => lnkMay_spec n)
  have f6 := unlNbr r.kB r.nbrs hr.nbrs (fun n hn => (hr.nbr n hn).1)
  have f7 := unlLnk r.kL r.links hr.links (fun n hn => hr.link n hn)
  obtain ⟨b1, hb1⟩ : ∃ b, withinZ r.asn 1 65535 = b := ⟨_, rfl⟩
  obtain ⟨b2, hb2⟩ : ∃ b, withinZ r.id 1 65535 = b := ⟨_, rfl⟩
  obtain ⟨b3, hb3⟩ : ∃ b, eachP 16 pfxMay r.nets = b := ⟨_, rfl⟩
  obtain ⟨b4, hb4⟩ : ∃ b, eachP 16 nbrMay r.nbrs = b := ⟨_, rfl⟩
  obtain ⟨b5, hb5⟩ : ∃ b, eachP 16 lnkMay r.links = b := ⟨_, rfl⟩
  obtain ⟨b6, hb6⟩ : ∃ b, unlikeB [] (r.nbrs.map (·.name)) = b := ⟨_, rfl⟩
  obtain ⟨b7, hb7⟩ : ∃ b, unlikeB [] (r.links.map (·.name)) = b := ⟨_, rfl⟩
  simp only [rtrMay, hb1, hb2, hb3, hb4, hb5, hb6, hb7] at g1 f2 f3 f4 f5 f6 f7 ⊢
  rcases Bool.eq_false_or_eq_true b1 with rfl | rfl
  · rcases Bool.eq_false_or_eq_true b2 with rfl | rfl
    · rcases Bool.eq_false_or_eq_true b3 with rfl | rfl
      · skip
        refine PCall_q [.tmp 2] 54 Tryz.func33 (by rfl) rfl rfl rfl rfl ?_
        repeat' first |refine s1 ?_|refine gS ?_|refine wT rfl ?_|refine wF rfl ?_|refine wt rfl ?_|refine wf rfl ?_|(refine wC rfl (fun h=>?_) (fun h=>?_)<;>(try contradiction))|((first|refine rd ?_|refine ry [] c0 fun nu _ _=>?_);simp -dsimp (disch:=omega) only[go_sem])|refine e0 (by decide) ?_|(refine And.intro ?_ ?_;omega)|refine And.intro (of_eq_true PutAt_put) ?_|refine gT ?_|refine gF ?_|(refine gI (fun h=>?_) (fun h=>?_)<;>(try contradiction)<;>(try refine rd ?_)<;>(try simp -dsimp (disch:=omega) only[go_sem,h]))|refine Exists.intro _ (Exists.intro _ (And.intro (And.intro rfl rfl) ?_)) |refine us (g1) ?_ |refine us (f2) ?_ |refine us (f3) ?_ |fail
        refine W_loop_st (fun i : Nat => [(1, .ip (eRtr r) 0), (22, .sl r.kN (encL ePfx r.nets)), (23, .int .i64 r.nets.length), (24, .int .i64 i)]) (fun _ => σ) (fun i => i ≤ r.nets.length ∧ distB [] r.nets = distB (r.nets.take i) (r.nets.drop i)) (fun i => r.nets.length - i) 0 ⟨Nat.zero_le _, rfl⟩ (Env.Sub_of_has (by simp [Env.Has, Env.get, eRtr])) (Store.Sub.refl _) ?_
        rintro i ⟨hi, hor⟩
        by_cases hlt : i < r.nets.length
        · have ho := distB_drop r.nets i hlt
          have hc := conP_spec r.kN.cut (r.nets.take i) (by rw [List.length_take]; have := hr.nets; omega) (r.nets.getD i default)
          repeat' first |refine s1 ?_|refine gS ?_|refine wT rfl ?_|refine wF rfl ?_|refine wt rfl ?_|refine wf rfl ?_|(refine wC rfl (fun h=>?_) (fun h=>?_)<;>(try contradiction))|((first|refine rd ?_|refine ry [] c0 fun nu _ _=>?_);simp -dsimp (disch:=omega) only[go_sem])|refine e0 (by decide) ?_|(refine And.intro ?_ ?_;omega)|refine And.intro (of_eq_true PutAt_put) ?_|refine gT ?_|refine gF ?_|(refine gI (fun h=>?_) (fun h=>?_)<;>(try contradiction)<;>(try refine rd ?_)<;>(try simp -dsimp (disch:=omega) only[go_sem,h]))|refine Exists.intro _ (Exists.intro _ (And.intro (And.intro rfl rfl) ?_)) |fail
          intro o1 ho1
          have ho1' := ho1
          have hrow : rowsOk 2 (encL ePfx r.nets) = true := ok_encL 2 ePfx (fun _ => rfl) r.nets
          repeat' first |refine s1 ?_|refine gS ?_|refine wT rfl ?_|refine wF rfl ?_|refine wt rfl ?_|refine wf rfl ?_|(refine wC rfl (fun h=>?_) (fun h=>?_)<;>(try contradiction))|((first|refine rd ?_|refine ry (id:=6) [] (cq [1,4]) fun nu _ _=>?_|refine ry [] c0 fun nu _ _=>?_);simp -dsimp (disch:=omega) only[go_sem,take_encL, hrow])|refine e0 (by decide) ?_|(refine And.intro ?_ ?_;omega)|refine And.intro (of_eq_true PutAt_put) ?_|refine gT ?_|refine gF ?_|(refine gI (fun h=>?_) (fun h=>?_)<;>(try contradiction)<;>(try refine rd ?_)<;>(try simp -dsimp (disch:=omega) only[go_sem,h,take_encL, hrow]))|refine Exists.intro _ (Exists.intro _ (And.intro (And.intro rfl rfl) ?_)) |refine us (hc) ?_ |fail
          · exact ⟨by rw [hor, ho, h]; rfl, Sub_put (Store.Sub.refl _) ho1' _⟩
          · exact ⟨i + 1, by omega, ⟨by omega, by rw [hor, ho, h]; rfl⟩, Env.Sub_of_has (by simp [Env.Has, Env.get, eRtr]), Sub_put (Store.Sub.refl _) ho1' _⟩
        · have hi' : i = r.nets.length := by omega
          subst hi'
          have hd : distB [] r.nets = true := by rw [hor, List.drop_length]; rfl
          rw [hd]
          repeat' first |refine s1 ?_|refine gS ?_|refine wT rfl ?_|refine wF rfl ?_|refine wt rfl ?_|refine wf rfl ?_|(refine wC rfl (fun h=>?_) (fun h=>?_)<;>(try contradiction))|((first|refine rd ?_|refine ry [] c0 fun nu _ _=>?_);simp -dsimp (disch:=omega) only[go_sem])|refine e0 (by decide) ?_|(refine And.intro ?_ ?_;omega)|refine And.intro (of_eq_true PutAt_put) ?_|refine gT ?_|refine gF ?_|(refine gI (fun h=>?_) (fun h=>?_)<;>(try contradiction)<;>(try refine rd ?_)<;>(try simp -dsimp (disch:=omega) only[go_sem,h]))|refine Exists.intro _ (Exists.intro _ (And.intro (And.intro rfl rfl) ?_)) |refine us (f4) ?_ |refine us (f5) ?_ |refine us (f6) ?_ |refine us (f7) ?_ |fail
          all_goals (simp only [*, Bool.true_and, Bool.false_and])
      · skip
        refine PCall_q [.tmp 2] 54 Tryz.func33 (by rfl) rfl rfl rfl rfl ?_
        repeat' first |refine s1 ?_|refine gS ?_|refine wT rfl ?_|refine wF rfl ?_|refine wt rfl ?_|refine wf rfl ?_|(refine wC rfl (fun h=>?_) (fun h=>?_)<;>(try contradiction))|((first|refine rd ?_|refine ry [] c0 fun nu _ _=>?_);simp -dsimp (disch:=omega) only[go_sem])|refine e0 (by decide) ?_|(refine And.intro ?_ ?_;omega)|refine And.intro (of_eq_true PutAt_put) ?_|refine gT ?_|refine gF ?_|(refine gI (fun h=>?_) (fun h=>?_)<;>(try contradiction)<;>(try refine rd ?_)<;>(try simp -dsimp (disch:=omega) only[go_sem,h]))|refine Exists.intro _ (Exists.intro _ (And.intro (And.intro rfl rfl) ?_)) |refine us (g1) ?_ |refine us (f2) ?_ |refine us (f3) ?_ |fail
    · skip
      refine PCall_q [.tmp 2] 54 Tryz.func33 (by rfl) rfl rfl rfl rfl ?_
      repeat' first |refine s1 ?_|refine gS ?_|refine wT rfl ?_|refine wF rfl ?_|refine wt rfl ?_|refine wf rfl ?_|(refine wC rfl (fun h=>?_) (fun h=>?_)<;>(try contradiction))|((first|refine rd ?_|refine ry [] c0 fun nu _ _=>?_);simp -dsimp (disch:=omega) only[go_sem])|refine e0 (by decide) ?_|(refine And.intro ?_ ?_;omega)|refine And.intro (of_eq_true PutAt_put) ?_|refine gT ?_|refine gF ?_|(refine gI (fun h=>?_) (fun h=>?_)<;>(try contradiction)<;>(try refine rd ?_)<;>(try simp -dsimp (disch:=omega) only[go_sem,h]))|refine Exists.intro _ (Exists.intro _ (And.intro (And.intro rfl rfl) ?_)) |refine us (g1) ?_ |refine us (f2) ?_ |fail
  · skip
    refine PCall_q [.tmp 2] 54 Tryz.func33 (by rfl) rfl rfl rfl rfl ?_
    repeat' first |refine s1 ?_|refine gS ?_|refine wT rfl ?_|refine wF rfl ?_|refine wt rfl ?_|refine wf rfl ?_|(refine wC rfl (fun h=>?_) (fun h=>?_)<;>(try contradiction))|((first|refine rd ?_|refine ry [] c0 fun nu _ _=>?_);simp -dsimp (disch:=omega) only[go_sem])|refine e0 (by decide) ?_|(refine And.intro ?_ ?_;omega)|refine And.intro (of_eq_true PutAt_put) ?_|refine gT ?_|refine gF ?_|(refine gI (fun h=>?_) (fun h=>?_)<;>(try contradiction)<;>(try refine rd ?_)<;>(try simp -dsimp (disch:=omega) only[go_sem,h]))|refine Exists.intro _ (Exists.intro _ (And.intro (And.intro rfl rfl) ?_)) |refine us (g1) ?_ |fail
def lstMay (x : LstD) : Bool := decide (rngsMay x.l = 0)
theorem lstMay_spec (x : LstD) (h : x.l.length < 4611686018427387904) : Pure Tryz.prog 28 [eLst x] (.bool (lstMay x)) := by
  intro σ
  have h1 := rngsMay_spec x.k x.l h
  refine PCall_q [.tmp 2] 7 Tryz.func28 (by rfl) rfl rfl rfl rfl ?_
  repeat' first |refine s1 ?_|refine gS ?_|refine wT rfl ?_|refine wF rfl ?_|refine wt rfl ?_|refine wf rfl ?_|(refine wC rfl (fun h=>?_) (fun h=>?_)<;>(try contradiction))|((first|refine rd ?_|refine ry [] c0 fun nu _ _=>?_);simp -dsimp (disch:=omega) only[go_sem])|refine e0 (by decide) ?_|(refine And.intro ?_ ?_;omega)|refine And.intro (of_eq_true PutAt_put) ?_|refine gT ?_|refine gF ?_|(refine gI (fun h=>?_) (fun h=>?_)<;>(try contradiction)<;>(try refine rd ?_)<;>(try simp -dsimp (disch:=omega) only[go_sem,h]))|refine Exists.intro _ (Exists.intro _ (And.intro (And.intro rfl rfl) ?_)) |refine us (h1) ?_ |fail
  rfl
structure Cfg.Fits (c : Cfg) : Prop where
  lists : c.lists.length < 4611686018427387904
  maps : c.maps.length < 4611686018427387904
  routers : c.routers.length < 4611686018427387904
  lst : ∀ x, x ∈ c.lists → x.l.length < 4611686018427387904 ∧ x.name.size ≤ 9223372036854775807
  map : ∀ x, x ∈ c.maps → x.Fits
  rtr : ∀ x, x ∈ c.routers → x.Fits
def cfgMay (c : Cfg) : Bool := eachP 16 lstMay c.lists && (eachP 16 mapMayB c.maps && (eachP 8 rtrMay c.routers && (unlikeB [] (c.lists.map (·.name)) && (unlikeB [] (c.maps.map (·.name)) && unlikeB [] (c.routers.map (·.name))))))
theorem cfgMay_spec (c : Cfg) (hc : c.Fits) : Pure Tryz.prog 10 [eCfg c] (.bool (cfgMay c)) := by
  intro σ
  have f1 := eachPLst 28 [] lstMay c.kL c.lists 16 hc.lists (fun x hx => lstMay_spec x (hc.lst x hx).1)
  have f2 := eachPMap 31 [] mapMayB c.kM c.maps 16 hc.maps (fun x hx => mapMay_spec x (hc.map x hx))
  have f3 := eachPRtr 33 [] rtrMay c.kR c.routers 8 hc.routers (fun x hx => rtrMay_spec x (hc.rtr x hx))
  have f4 := unlLst c.kL c.lists hc.lists (fun x hx => (hc.lst x hx).2)
  have f5 := unlMap c.kM c.maps hc.maps (fun x hx => (hc.map x hx).name)
  have f6 := unlRtr c.kR c.routers hc.routers (fun x hx => (hc.rtr x hx).name)
  obtain ⟨b1, hb1⟩ : ∃ b, eachP 16 lstMay c.lists = b := ⟨_, rfl⟩
  obtain ⟨b2, hb2⟩ : ∃ b, eachP 16 mapMayB c.maps = b := ⟨_, rfl⟩
  obtain ⟨b3, hb3⟩ : ∃ b, eachP 8 rtrMay c.routers = b := ⟨_, rfl⟩
  obtain ⟨b4, hb4⟩ : ∃ b, unlikeB [] (c.lists.map (·.name)) = b := ⟨_, rfl⟩
  obtain ⟨b5, hb5⟩ : ∃ b, unlikeB [] (c.maps.map (·.name)) = b := ⟨_, rfl⟩
  obtain ⟨b6, hb6⟩ : ∃ b, unlikeB [] (c.routers.map (·.name)) = b := ⟨_, rfl⟩
  simp only [cfgMay, hb1, hb2, hb3, hb4, hb5, hb6] at f1 f2 f3 f4 f5 f6 ⊢
  refine PCall_q [.tmp 2] 33 Tryz.func10 (by rfl) rfl rfl rfl rfl ?_
  repeat' first |refine s1 ?_|refine gS ?_|refine wT rfl ?_|refine wF rfl ?_|refine wt rfl ?_|refine wf rfl ?_|(refine wC rfl (fun h=>?_) (fun h=>?_)<;>(try contradiction))|((first|refine rd ?_|refine ry [] c0 fun nu _ _=>?_);simp -dsimp (disch:=omega) only[go_sem])|refine e0 (by decide) ?_|(refine And.intro ?_ ?_;omega)|refine And.intro (of_eq_true PutAt_put) ?_|refine gT ?_|refine gF ?_|(refine gI (fun h=>?_) (fun h=>?_)<;>(try contradiction)<;>(try refine rd ?_)<;>(try simp -dsimp (disch:=omega) only[go_sem,h]))|refine Exists.intro _ (Exists.intro _ (And.intro (And.intro rfl rfl) ?_)) |refine us (f1) ?_ |refine us (f2) ?_ |refine us (f3) ?_ |refine us (f4) ?_ |refine us (f5) ?_ |refine us (f6) ?_ |fail
  all_goals (simp only [*, Bool.true_and, Bool.false_and])
end Go.Proofs.YtaealcimocpnnaaGreat
namespace Go.Proofs.YtaealcimocpnnaaGreat
open Go.Kern Go.RowKit
theorem cat_drop {α : Type} [Inhabited α] (f : α → ByteArray) {l : List α} {i : Nat} (h : i < l.length) : catB ((l.map f).drop i) = f (l.getD i default) ++ catB ((l.map f).drop (i + 1)) := by
  rw [List.drop_eq_getElem_cons (by simpa using h), catB]
  simp [List.getD_eq_getElem?_getD, h]
theorem WS_end {σ t : Store} {w : Nat} {a b : ByteArray} (h : WS σ w a t) (e : a = b) : WS σ w b t := e ▸ h
set_option maxRecDepth 100000
set_option maxHeartbeats 4000000
attribute [local irreducible] PCall W
theorem lst_spec {σ t : Store} {w : Nat} {s : ByteArray} (h : WS σ w s t) (y : LstD) (hl : y.l.length < 4611686018427387904) (hg : ∀ r, r ∈ y.l → r.p.Ok) (hb : s.size + (lstText y).size ≤ 140737488355328) :
    PCall Tryz.prog 18 [.ptr w 0 0, eLst y] t (fun r t' => r = .tup [] ∧ WS σ w (s ++ lstText y) t') := by
  simp only [lstText, szA] at hb
  have y1 : ((⟨#[59]⟩ : ByteArray)).size = 1 := rfl
  refine PCall_w [] 28 Tryz.func18 (by rfl) rfl rfl rfl rfl ?_
  repeat' first |refine s1 ?_|refine gS ?_|refine wT rfl ?_|refine wF rfl ?_|refine wt rfl ?_|refine wf rfl ?_|(refine wC rfl (fun h=>?_) (fun h=>?_)<;>(try contradiction))|((first|refine rd ?_|refine ry [] c0 fun nu _ _=>?_);simp -dsimp (disch:=omega) only[go_sem])|refine e0 (by decide) ?_|(refine And.intro ?_ ?_;omega)|refine And.intro (of_eq_true PutAt_put) ?_|refine gT ?_|refine gF ?_|(refine gI (fun h=>?_) (fun h=>?_)<;>(try contradiction)<;>(try refine rd ?_)<;>(try simp -dsimp (disch:=omega) only[go_sem,h]))|refine Exists.intro _ (Exists.intro _ (And.intro (And.intro rfl rfl) ?_)) |(refine ck (line3 0 .full _ _ _ h (by omega) (by omega)) ?_;rintro _ _ ⟨rfl,hw⟩) |fail
  refine W_loop_st (fun x : Nat × Store × ByteArray => [(0, .ptr w 0 0), (12, .sl y.k (encL eRng y.l)), (13, .int .i64 y.l.length), (14, .int .i64 x.1)]) (fun x => x.2.1) (fun x => x.1 ≤ y.l.length ∧ WS σ w x.2.2 x.2.1 ∧ x.2.2 ++ catB ((y.l.map (fun r => lineB 1 [rngText r ++ (⟨#[59]⟩ : ByteArray)])).drop x.1) = (s ++ lineB 0 [(⟨#[112, 114, 101, 102, 105, 120, 45, 108, 105, 115, 116]⟩ : ByteArray), y.name, (⟨#[123]⟩ : ByteArray)]) ++ catB (y.l.map (fun r => lineB 1 [rngText r ++ (⟨#[59]⟩ : ByteArray)]))) (fun x => y.l.length - x.1) (0, _, (s ++ lineB 0 [(⟨#[112, 114, 101, 102, 105, 120, 45, 108, 105, 115, 116]⟩ : ByteArray), y.name, (⟨#[123]⟩ : ByteArray)])) ⟨Nat.zero_le _, hw, rfl⟩ (Env.Sub_of_has (by simp [Env.Has, Env.get, eLst])) (Store.Sub.refl _) ?_
  rintro ⟨i, u, v⟩ ⟨hi, hwi, hvi⟩
  simp only at hi hwi hvi
  by_cases hlt : i < y.l.length
  · have hmem : y.l.getD i default ∈ y.l := by rw [List.getD_eq_getElem?_getD, List.getElem?_eq_getElem hlt]; exact List.getElem_mem hlt
    have hcat := cat_drop (fun r => lineB 1 [rngText r ++ (⟨#[59]⟩ : ByteArray)]) hlt
    rw [hcat] at hvi
    have hsz := congrArg ByteArray.size hvi
    simp only [szA] at hsz
    obtain ⟨x, hx⟩ : ∃ x, y.l.getD i default = x := ⟨_, rfl⟩
    rw [hx] at hmem hvi hsz
    have d1 := rngText_spec x (hg x hmem)
    have z1 := rngText_size x (hg x hmem)
    repeat' first |refine s1 ?_|refine gS ?_|refine wT rfl ?_|refine wF rfl ?_|refine wt rfl ?_|refine wf rfl ?_|(refine wC rfl (fun h=>?_) (fun h=>?_)<;>(try contradiction))|((first|refine rd ?_|refine ry [] c0 fun nu _ _=>?_);simp -dsimp (disch:=omega) only[go_sem,hx])|refine e0 (by decide) ?_|(refine And.intro ?_ ?_;omega)|refine And.intro (of_eq_true PutAt_put) ?_|refine gT ?_|refine gF ?_|(refine gI (fun h=>?_) (fun h=>?_)<;>(try contradiction)<;>(try refine rd ?_)<;>(try simp -dsimp (disch:=omega) only[go_sem,h,hx]))|refine Exists.intro _ (Exists.intro _ (And.intro (And.intro rfl rfl) ?_)) |fail
    intro o1 ho1
    repeat' first |refine s1 ?_|refine gS ?_|refine wT rfl ?_|refine wF rfl ?_|refine wt rfl ?_|refine wf rfl ?_|(refine wC rfl (fun h=>?_) (fun h=>?_)<;>(try contradiction))|((first|refine rd ?_|refine ry [] c0 fun nu _ _=>?_);simp -dsimp (disch:=omega) only[go_sem,hx, szA, y1])|refine e0 (by decide) ?_|(refine And.intro ?_ ?_;omega)|refine And.intro (of_eq_true PutAt_put) ?_|refine gT ?_|refine gF ?_|(refine gI (fun h=>?_) (fun h=>?_)<;>(try contradiction)<;>(try refine rd ?_)<;>(try simp -dsimp (disch:=omega) only[go_sem,h,hx, szA, y1]))|refine Exists.intro _ (Exists.intro _ (And.intro (And.intro rfl rfl) ?_)) |refine us (d1) ?_ |(refine ck (line1 1 .full _ (WS_put hwi ho1) (by omega) (by first | omega | (simp only [szA];omega))) ?_;rintro _ _ ⟨rfl,hw⟩) |fail
    exact ⟨(i + 1, _, _), by simp only;omega, ⟨by simp only;omega, hw, by simp only;rw [asA];exact hvi⟩, Env.Sub_of_has (by simp [Env.Has, Env.get, eLst]), Store.Sub.refl _⟩
  · have hi' : i = y.l.length := by omega
    subst hi'
    rw [List.drop_eq_nil_of_le (by simp), catB, emA] at hvi
    rw [hvi] at hwi
    clear hvi
    have hw := hwi
    clear hwi
    repeat' first |refine s1 ?_|refine gS ?_|refine wT rfl ?_|refine wF rfl ?_|refine wt rfl ?_|refine wf rfl ?_|(refine wC rfl (fun h=>?_) (fun h=>?_)<;>(try contradiction))|((first|refine rd ?_|refine ry [] c0 fun nu _ _=>?_);simp -dsimp (disch:=omega) only[go_sem])|refine e0 (by decide) ?_|(refine And.intro ?_ ?_;omega)|refine And.intro (of_eq_true PutAt_put) ?_|refine gT ?_|refine gF ?_|(refine gI (fun h=>?_) (fun h=>?_)<;>(try contradiction)<;>(try refine rd ?_)<;>(try simp -dsimp (disch:=omega) only[go_sem,h]))|refine Exists.intro _ (Exists.intro _ (And.intro (And.intro rfl rfl) ?_)) |(refine ck (line1 0 .full _ hw (by omega) (by first | omega | (simp only [szA];omega))) ?_;rintro _ _ ⟨rfl,hw⟩) |fail
    refine ⟨_, Store.Sub.refl _, WS_end hw ?_⟩
    simp only [lstText, asA]
theorem map_spec {σ t : Store} {w : Nat} {s : ByteArray} (h : WS σ w s t) (y : MapD) (hl : y.l.length < 4611686018427387904) (hg : ∀ r, r ∈ y.l → r.Good) (hb : s.size + (mapText y).size ≤ 140737488355328) :
    PCall Tryz.prog 19 [.ptr w 0 0, eMap y] t (fun r t' => r = .tup [] ∧ WS σ w (s ++ mapText y) t') := by
  simp only [mapText, szA] at hb
  refine PCall_w [] 25 Tryz.func19 (by rfl) rfl rfl rfl rfl ?_
  repeat' first |refine s1 ?_|refine gS ?_|refine wT rfl ?_|refine wF rfl ?_|refine wt rfl ?_|refine wf rfl ?_|(refine wC rfl (fun h=>?_) (fun h=>?_)<;>(try contradiction))|((first|refine rd ?_|refine ry [] c0 fun nu _ _=>?_);simp -dsimp (disch:=omega) only[go_sem])|refine e0 (by decide) ?_|(refine And.intro ?_ ?_;omega)|refine And.intro (of_eq_true PutAt_put) ?_|refine gT ?_|refine gF ?_|(refine gI (fun h=>?_) (fun h=>?_)<;>(try contradiction)<;>(try refine rd ?_)<;>(try simp -dsimp (disch:=omega) only[go_sem,h]))|refine Exists.intro _ (Exists.intro _ (And.intro (And.intro rfl rfl) ?_)) |(refine ck (line3 0 .full _ _ _ h (by omega) (by omega)) ?_;rintro _ _ ⟨rfl,hw⟩) |fail
  refine W_loop_st (fun x : Nat × Store × ByteArray => [(0, .ptr w 0 0), (12, .sl y.k (encL eCls y.l)), (13, .int .i64 y.l.length), (14, .int .i64 x.1)]) (fun x => x.2.1) (fun x => x.1 ≤ y.l.length ∧ WS σ w x.2.2 x.2.1 ∧ x.2.2 ++ catB ((y.l.map clsText).drop x.1) = (s ++ lineB 0 [(⟨#[114, 111, 117, 116, 101, 45, 109, 97, 112]⟩ : ByteArray), y.name, (⟨#[123]⟩ : ByteArray)]) ++ catB (y.l.map clsText)) (fun x => y.l.length - x.1) (0, _, (s ++ lineB 0 [(⟨#[114, 111, 117, 116, 101, 45, 109, 97, 112]⟩ : ByteArray), y.name, (⟨#[123]⟩ : ByteArray)])) ⟨Nat.zero_le _, hw, rfl⟩ (Env.Sub_of_has (by simp [Env.Has, Env.get, eMap])) (Store.Sub.refl _) ?_
  rintro ⟨i, u, v⟩ ⟨hi, hwi, hvi⟩
  simp only at hi hwi hvi
  by_cases hlt : i < y.l.length
  · have hmem : y.l.getD i default ∈ y.l := by rw [List.getD_eq_getElem?_getD, List.getElem?_eq_getElem hlt]; exact List.getElem_mem hlt
    have hcat := cat_drop clsText hlt
    rw [hcat] at hvi
    have hsz := congrArg ByteArray.size hvi
    simp only [szA] at hsz
    obtain ⟨x, hx⟩ : ∃ x, y.l.getD i default = x := ⟨_, rfl⟩
    rw [hx] at hmem hvi hsz
    repeat' first |refine s1 ?_|refine gS ?_|refine wT rfl ?_|refine wF rfl ?_|refine wt rfl ?_|refine wf rfl ?_|(refine wC rfl (fun h=>?_) (fun h=>?_)<;>(try contradiction))|((first|refine rd ?_|refine ry [] c0 fun nu _ _=>?_);simp -dsimp (disch:=omega) only[go_sem,hx])|refine e0 (by decide) ?_|(refine And.intro ?_ ?_;omega)|refine And.intro (of_eq_true PutAt_put) ?_|refine gT ?_|refine gF ?_|(refine gI (fun h=>?_) (fun h=>?_)<;>(try contradiction)<;>(try refine rd ?_)<;>(try simp -dsimp (disch:=omega) only[go_sem,h,hx]))|refine Exists.intro _ (Exists.intro _ (And.intro (And.intro rfl rfl) ?_)) |fail
    intro o1 ho1
    repeat' first |refine s1 ?_|refine gS ?_|refine wT rfl ?_|refine wF rfl ?_|refine wt rfl ?_|refine wf rfl ?_|(refine wC rfl (fun h=>?_) (fun h=>?_)<;>(try contradiction))|((first|refine rd ?_|refine ry [] c0 fun nu _ _=>?_);simp -dsimp (disch:=omega) only[go_sem,hx])|refine e0 (by decide) ?_|(refine And.intro ?_ ?_;omega)|refine And.intro (of_eq_true PutAt_put) ?_|refine gT ?_|refine gF ?_|(refine gI (fun h=>?_) (fun h=>?_)<;>(try contradiction)<;>(try refine rd ?_)<;>(try simp -dsimp (disch:=omega) only[go_sem,h,hx]))|refine Exists.intro _ (Exists.intro _ (And.intro (And.intro rfl rfl) ?_)) |(refine ck (cls_spec (WS_put hwi ho1) x (hg x hmem) (by first | omega | (simp only [szA];omega))) ?_;rintro _ _ ⟨rfl,hw⟩) |fail
    exact ⟨(i + 1, _, _), by simp only;omega, ⟨by simp only;omega, hw, by simp only;rw [asA];exact hvi⟩, Env.Sub_of_has (by simp [Env.Has, Env.get, eMap]), Store.Sub.refl _⟩
  · have hi' : i = y.l.length := by omega
    subst hi'
    rw [List.drop_eq_nil_of_le (by simp), catB, emA] at hvi
    rw [hvi] at hwi
    clear hvi
    have hw := hwi
    clear hwi
    repeat' first |refine s1 ?_|refine gS ?_|refine wT rfl ?_|refine wF rfl ?_|refine wt rfl ?_|refine wf rfl ?_|(refine wC rfl (fun h=>?_) (fun h=>?_)<;>(try contradiction))|((first|refine rd ?_|refine ry [] c0 fun nu _ _=>?_);simp -dsimp (disch:=omega) only[go_sem])|refine e0 (by decide) ?_|(refine And.intro ?_ ?_;omega)|refine And.intro (of_eq_true PutAt_put) ?_|refine gT ?_|refine gF ?_|(refine gI (fun h=>?_) (fun h=>?_)<;>(try contradiction)<;>(try refine rd ?_)<;>(try simp -dsimp (disch:=omega) only[go_sem,h]))|refine Exists.intro _ (Exists.intro _ (And.intro (And.intro rfl rfl) ?_)) |(refine ck (line1 0 .full _ hw (by omega) (by first | omega | (simp only [szA];omega))) ?_;rintro _ _ ⟨rfl,hw⟩) |fail
    refine ⟨_, Store.Sub.refl _, WS_end hw ?_⟩
    simp only [mapText, asA]
structure Rtr.Good (y : Rtr) : Prop where
  asn : 0 ≤ y.asn ∧ y.asn ≤ 1000000000000
  id : 0 ≤ y.id ∧ y.id ≤ 1000000000000
  fits : y.Fits
  nets : ∀ p, p ∈ y.nets → p.Ok
  nbrs : ∀ n, n ∈ y.nbrs → n.name.size ≤ 1000 ∧ n.imp.size ≤ 1000 ∧ n.exp.size ≤ 1000
  links : ∀ n, n ∈ y.links → 0 ≤ n.cost ∧ n.cost ≤ 1000000000000
theorem rtr_spec {σ t : Store} {w : Nat} {s : ByteArray} (h : WS σ w s t) (y : Rtr) (hg : y.Good) (hb : s.size + (rtrText y).size ≤ 140737488355328) :
    PCall Tryz.prog 20 [.ptr w 0 0, eRtr y] t (fun r t' => r = .tup [] ∧ WS σ w (s ++ rtrText y) t') := by
  simp only [rtrText, szA] at hb
  have y1 : ((⟨#[59]⟩ : ByteArray)).size = 1 := rfl
  have y2 : ((⟨#[32, 105, 109, 112, 111, 114, 116, 32]⟩ : ByteArray)).size = 8 := rfl
  have y3 : ((⟨#[32, 101, 120, 112, 111, 114, 116, 32]⟩ : ByteArray)).size = 8 := rfl
  have y4 : ((⟨#[32, 99, 108, 105, 101, 110, 116]⟩ : ByteArray)).size = 7 := rfl
  have ln1 := hg.fits.nets
  have ln2 := hg.fits.nbrs
  have ln3 := hg.fits.links
  have z1 := digB_size y.asn (by have := hg.asn; omega)
  have z2 := digB_size y.id (by have := hg.id; omega)
  have d1 := digS_spec _ y.asn hg.asn.1 (Nat.lt_succ_self _) (by have := hg.asn; omega)
  have d2 := digS_spec _ y.id hg.id.1 (Nat.lt_succ_self _) (by have := hg.id; omega)
  refine PCall_w [] 99 Tryz.func20 (by rfl) rfl rfl rfl rfl ?_
  repeat' first |((fail_if_success (first|show W _ _ (Code.seq (Code.region 2 _ _) _) _ _ _|show W _ _ (Code.seq (Code.seq (Code.region 2 _ _) _) _) _ _ _));refine s1 ?_)|refine gS ?_|refine wT rfl ?_|refine wF rfl ?_|refine wt rfl ?_|refine wf rfl ?_|(refine wC rfl (fun h=>?_) (fun h=>?_)<;>(try contradiction))|((fail_if_success (first|show W _ _ (Code.region 2 _ _) _ _ _));(first|refine rd ?_|refine ry [] c0 fun nu _ _=>?_);simp -dsimp (disch:=omega) only[go_sem])|refine e0 (by decide) ?_|(refine And.intro ?_ ?_;omega)|refine And.intro (of_eq_true PutAt_put) ?_|refine gT ?_|refine gF ?_|(refine gI (fun h=>?_) (fun h=>?_)<;>(try contradiction)<;>(try refine rd ?_)<;>(try simp -dsimp (disch:=omega) only[go_sem,h]))|refine Exists.intro _ (Exists.intro _ (And.intro (And.intro rfl rfl) ?_)) |(refine ck (line3 0 .full _ _ _ h (by omega) (by omega)) ?_;rintro _ _ ⟨rfl,hw⟩) |fail
  repeat' first |((fail_if_success (first|show W _ _ (Code.seq (Code.region 3 _ _) _) _ _ _|show W _ _ (Code.seq (Code.seq (Code.region 3 _ _) _) _) _ _ _));refine s1 ?_)|refine gS ?_|refine wT rfl ?_|refine wF rfl ?_|refine wt rfl ?_|refine wf rfl ?_|(refine wC rfl (fun h=>?_) (fun h=>?_)<;>(try contradiction))|((fail_if_success (first|show W _ _ (Code.region 3 _ _) _ _ _));(first|refine rd ?_|refine ry [] c0 fun nu _ _=>?_);simp -dsimp (disch:=omega) only[go_sem,szA, y1])|refine e0 (by decide) ?_|(refine And.intro ?_ ?_;omega)|refine And.intro (of_eq_true PutAt_put) ?_|refine gT ?_|refine gF ?_|(refine gI (fun h=>?_) (fun h=>?_)<;>(try contradiction)<;>(try refine rd ?_)<;>(try simp -dsimp (disch:=omega) only[go_sem,h,szA, y1]))|refine Exists.intro _ (Exists.intro _ (And.intro (And.intro rfl rfl) ?_)) |refine us (d1) ?_ |(refine ck (line2 1 .full _ _ hw (by omega) (by first | omega | (simp only [szA];omega))) ?_;rintro _ _ ⟨rfl,hw⟩) |fail
  repeat' first |refine s1 ?_|refine gS ?_|refine wT rfl ?_|refine wF rfl ?_|refine wt rfl ?_|refine wf rfl ?_|(refine wC rfl (fun h=>?_) (fun h=>?_)<;>(try contradiction))|((first|refine rd ?_|refine ry [] c0 fun nu _ _=>?_);simp -dsimp (disch:=omega) only[go_sem,szA, y1])|refine e0 (by decide) ?_|(refine And.intro ?_ ?_;omega)|refine And.intro (of_eq_true PutAt_put) ?_|refine gT ?_|refine gF ?_|(refine gI (fun h=>?_) (fun h=>?_)<;>(try contradiction)<;>(try refine rd ?_)<;>(try simp -dsimp (disch:=omega) only[go_sem,h,szA, y1]))|refine Exists.intro _ (Exists.intro _ (And.intro (And.intro rfl rfl) ?_)) |refine us (d2) ?_ |(refine ck (line2 1 .full _ _ hw (by omega) (by first | omega | (simp only [szA];omega))) ?_;rintro _ _ ⟨rfl,hw⟩) |fail
  clear d1 d2 z1 z2
  refine W_loop_st (fun x : Nat × Store × ByteArray => [(0, .ptr w 0 0), (3, .ip (eRtr y) 0), (31, .sl y.kN (encL ePfx y.nets)), (32, .int .i64 y.nets.length), (33, .int .i64 x.1)]) (fun x => x.2.1) (fun x => x.1 ≤ y.nets.length ∧ WS σ w x.2.2 x.2.1 ∧ x.2.2 ++ catB ((y.nets.map (fun p => lineB 1 [(⟨#[110, 101, 116, 119, 111, 114, 107]⟩ : ByteArray), pfxText p ++ (⟨#[59]⟩ : ByteArray)])).drop x.1) = (s ++ lineB 0 [(⟨#[114, 111, 117, 116, 101, 114]⟩ : ByteArray), y.name, (⟨#[123]⟩ : ByteArray)] ++ lineB 1 [(⟨#[97, 115]⟩ : ByteArray), digB y.asn ++ (⟨#[59]⟩ : ByteArray)] ++ lineB 1 [(⟨#[105, 100]⟩ : ByteArray), digB y.id ++ (⟨#[59]⟩ : ByteArray)]) ++ catB (y.nets.map (fun p => lineB 1 [(⟨#[110, 101, 116, 119, 111, 114, 107]⟩ : ByteArray), pfxText p ++ (⟨#[59]⟩ : ByteArray)]))) (fun x => y.nets.length - x.1) (0, _, (s ++ lineB 0 [(⟨#[114, 111, 117, 116, 101, 114]⟩ : ByteArray), y.name, (⟨#[123]⟩ : ByteArray)] ++ lineB 1 [(⟨#[97, 115]⟩ : ByteArray), digB y.asn ++ (⟨#[59]⟩ : ByteArray)] ++ lineB 1 [(⟨#[105, 100]⟩ : ByteArray), digB y.id ++ (⟨#[59]⟩ : ByteArray)])) ⟨Nat.zero_le _, hw, rfl⟩ (Env.Sub_of_has (by simp [Env.Has, Env.get, eRtr])) (Store.Sub.refl _) ?_
  rintro ⟨i, u, v⟩ ⟨hi, hwi, hvi⟩
  simp only at hi hwi hvi
  by_cases hlt : i < y.nets.length
  · have hmem : y.nets.getD i default ∈ y.nets := by rw [List.getD_eq_getElem?_getD, List.getElem?_eq_getElem hlt]; exact List.getElem_mem hlt
    have hcat := cat_drop (fun p => lineB 1 [(⟨#[110, 101, 116, 119, 111, 114, 107]⟩ : ByteArray), pfxText p ++ (⟨#[59]⟩ : ByteArray)]) hlt
    rw [hcat] at hvi
    have hsz := congrArg ByteArray.size hvi
    simp only [szA] at hsz
    obtain ⟨x, hx⟩ : ∃ x, y.nets.getD i default = x := ⟨_, rfl⟩
    rw [hx] at hmem hvi hsz
    have d3 := pfxText_spec x (hg.nets x hmem)
    have z3 := pfxText_size x (hg.nets x hmem)
    repeat' first |refine s1 ?_|refine gS ?_|refine wT rfl ?_|refine wF rfl ?_|refine wt rfl ?_|refine wf rfl ?_|(refine wC rfl (fun h=>?_) (fun h=>?_)<;>(try contradiction))|((first|refine rd ?_|refine ry [] c0 fun nu _ _=>?_);simp -dsimp (disch:=omega) only[go_sem,hx])|refine e0 (by decide) ?_|(refine And.intro ?_ ?_;omega)|refine And.intro (of_eq_true PutAt_put) ?_|refine gT ?_|refine gF ?_|(refine gI (fun h=>?_) (fun h=>?_)<;>(try contradiction)<;>(try refine rd ?_)<;>(try simp -dsimp (disch:=omega) only[go_sem,h,hx]))|refine Exists.intro _ (Exists.intro _ (And.intro (And.intro rfl rfl) ?_)) |fail
    intro o1 ho1
    repeat' first |refine s1 ?_|refine gS ?_|refine wT rfl ?_|refine wF rfl ?_|refine wt rfl ?_|refine wf rfl ?_|(refine wC rfl (fun h=>?_) (fun h=>?_)<;>(try contradiction))|((first|refine rd ?_|refine ry [] c0 fun nu _ _=>?_);simp -dsimp (disch:=omega) only[go_sem,hx, szA, y1])|refine e0 (by decide) ?_|(refine And.intro ?_ ?_;omega)|refine And.intro (of_eq_true PutAt_put) ?_|refine gT ?_|refine gF ?_|(refine gI (fun h=>?_) (fun h=>?_)<;>(try contradiction)<;>(try refine rd ?_)<;>(try simp -dsimp (disch:=omega) only[go_sem,h,hx, szA, y1]))|refine Exists.intro _ (Exists.intro _ (And.intro (And.intro rfl rfl) ?_)) |refine us (d3) ?_ |(refine ck (line2 1 .full _ _ (WS_put hwi ho1) (by omega) (by first | omega | (simp only [szA];omega))) ?_;rintro _ _ ⟨rfl,hw⟩) |fail
    exact ⟨(i + 1, _, _), by simp only;omega, ⟨by simp only;omega, hw, by simp only;rw [asA];exact hvi⟩, Env.Sub_of_has (by simp [Env.Has, Env.get, eRtr]), Store.Sub.refl _⟩
  · have hi' : i = y.nets.length := by omega
    subst hi'
    rw [List.drop_eq_nil_of_le (by simp), catB, emA] at hvi
    rw [hvi] at hwi
    clear hvi
    have hw := hwi
    clear hwi
    repeat' first |refine s1 ?_|refine gS ?_|refine wT rfl ?_|refine wF rfl ?_|refine wt rfl ?_|refine wf rfl ?_|(refine wC rfl (fun h=>?_) (fun h=>?_)<;>(try contradiction))|((first|refine rd ?_|refine ry [] c0 fun nu _ _=>?_);simp -dsimp (disch:=omega) only[go_sem])|refine e0 (by decide) ?_|(refine And.intro ?_ ?_;omega)|refine And.intro (of_eq_true PutAt_put) ?_|refine gT ?_|refine gF ?_|(refine gI (fun h=>?_) (fun h=>?_)<;>(try contradiction)<;>(try refine rd ?_)<;>(try simp -dsimp (disch:=omega) only[go_sem,h]))|refine Exists.intro _ (Exists.intro _ (And.intro (And.intro rfl rfl) ?_)) |fail
    refine W_loop_st (fun x : Nat × Store × ByteArray => [(0, .ptr w 0 0), (3, .ip (eRtr y) 0), (45, .sl y.kB (encL eNbr y.nbrs)), (46, .int .i64 y.nbrs.length), (47, .int .i64 x.1)]) (fun x => x.2.1) (fun x => x.1 ≤ y.nbrs.length ∧ WS σ w x.2.2 x.2.1 ∧ x.2.2 ++ catB ((y.nbrs.map (fun n => lineB 1 [(⟨#[110, 101, 105, 103, 104, 98, 111, 114]⟩ : ByteArray), nbrWord n ++ (⟨#[59]⟩ : ByteArray)])).drop x.1) = ((s ++ lineB 0 [(⟨#[114, 111, 117, 116, 101, 114]⟩ : ByteArray), y.name, (⟨#[123]⟩ : ByteArray)] ++ lineB 1 [(⟨#[97, 115]⟩ : ByteArray), digB y.asn ++ (⟨#[59]⟩ : ByteArray)] ++ lineB 1 [(⟨#[105, 100]⟩ : ByteArray), digB y.id ++ (⟨#[59]⟩ : ByteArray)]) ++ catB (y.nets.map (fun p => lineB 1 [(⟨#[110, 101, 116, 119, 111, 114, 107]⟩ : ByteArray), pfxText p ++ (⟨#[59]⟩ : ByteArray)]))) ++ catB (y.nbrs.map (fun n => lineB 1 [(⟨#[110, 101, 105, 103, 104, 98, 111, 114]⟩ : ByteArray), nbrWord n ++ (⟨#[59]⟩ : ByteArray)]))) (fun x => y.nbrs.length - x.1) (0, _, ((s ++ lineB 0 [(⟨#[114, 111, 117, 116, 101, 114]⟩ : ByteArray), y.name, (⟨#[123]⟩ : ByteArray)] ++ lineB 1 [(⟨#[97, 115]⟩ : ByteArray), digB y.asn ++ (⟨#[59]⟩ : ByteArray)] ++ lineB 1 [(⟨#[105, 100]⟩ : ByteArray), digB y.id ++ (⟨#[59]⟩ : ByteArray)]) ++ catB (y.nets.map (fun p => lineB 1 [(⟨#[110, 101, 116, 119, 111, 114, 107]⟩ : ByteArray), pfxText p ++ (⟨#[59]⟩ : ByteArray)])))) ⟨Nat.zero_le _, hw, rfl⟩ (Env.Sub_of_has (by simp [Env.Has, Env.get, eRtr])) (Store.Sub.refl _) ?_
    rintro ⟨i, u, v⟩ ⟨hi, hwi, hvi⟩
    simp only at hi hwi hvi
    by_cases hlt : i < y.nbrs.length
    · have hmem : y.nbrs.getD i default ∈ y.nbrs := by rw [List.getD_eq_getElem?_getD, List.getElem?_eq_getElem hlt]; exact List.getElem_mem hlt
      have hcat := cat_drop (fun n => lineB 1 [(⟨#[110, 101, 105, 103, 104, 98, 111, 114]⟩ : ByteArray), nbrWord n ++ (⟨#[59]⟩ : ByteArray)]) hlt
      rw [hcat] at hvi
      have hsz := congrArg ByteArray.size hvi
      simp only [szA] at hsz
      obtain ⟨x, hx⟩ : ∃ x, y.nbrs.getD i default = x := ⟨_, rfl⟩
      rw [hx] at hmem hvi hsz
      have hg3 := hg.nbrs x hmem
      have z3 : (nw1 x).size ≤ 2100 := by unfold nw1; split <;> first | omega | (simp only [szA, y2]; omega)
      have z4 : (nw2 x).size ≤ 4200 := by unfold nw2; split <;> first | omega | (simp only [szA, y3]; omega)
      have z5 : (nbrWord x).size ≤ 4300 := by unfold nbrWord; split <;> first | omega | (simp only [szA, y4]; omega)
      repeat' first |refine s1 ?_|refine gS ?_|refine wT rfl ?_|refine wF rfl ?_|refine wt rfl ?_|refine wf rfl ?_|(refine wC rfl (fun h=>?_) (fun h=>?_)<;>(try contradiction))|((first|refine rd ?_|refine ry [] c0 fun nu _ _=>?_);simp -dsimp (disch:=omega) only[go_sem,hx])|refine e0 (by decide) ?_|(refine And.intro ?_ ?_;omega)|refine And.intro (of_eq_true PutAt_put) ?_|refine gT ?_|refine gF ?_|(refine gI (fun h=>?_) (fun h=>?_)<;>(try contradiction)<;>(try refine rd ?_)<;>(try simp -dsimp (disch:=omega) only[go_sem,h,hx]))|refine Exists.intro _ (Exists.intro _ (And.intro (And.intro rfl rfl) ?_)) |fail
      intro o1 ho1
      repeat' first |((fail_if_success (first|show W _ _ (Code.seq (Code.region 13 _ _) _) _ _ _|show W _ _ (Code.seq (Code.seq (Code.region 13 _ _) _) _) _ _ _));refine s1 ?_)|refine gS ?_|refine wT rfl ?_|refine wF rfl ?_|refine wt rfl ?_|refine wf rfl ?_|(refine wC rfl (fun h=>?_) (fun h=>?_)<;>(try contradiction))|((fail_if_success (first|show W _ _ (Code.region 13 _ _) _ _ _));(first|refine rd ?_|refine ry [] c0 fun nu _ _=>?_);simp -dsimp (disch:=omega) only[go_sem,hx, eNbr])|refine e0 (by decide) ?_|(refine And.intro ?_ ?_;omega)|refine And.intro (of_eq_true PutAt_put) ?_|refine gT ?_|refine gF ?_|(refine gI (fun h=>?_) (fun h=>?_)<;>(try contradiction)<;>(try refine rd ?_)<;>(try simp -dsimp (disch:=omega) only[go_sem,h,hx, eNbr]))|refine Exists.intro _ (Exists.intro _ (And.intro (And.intro rfl rfl) ?_)) |fail
      refine W_mid [(0, .ptr w 0 0), (3, .ip (eRtr y) 0), (45, .sl y.kB (encL eNbr y.nbrs)), (46, .int .i64 y.nbrs.length), (47, .int .i64 i), (7, .ptr o1 0 0), (8, .str (nw1 x))] (u.put o1 (.arr 61 [eNbr x])) ?_ ?_
      · skip
        repeat' first |refine s1 ?_|refine gS ?_|refine wT rfl ?_|refine wF rfl ?_|refine wt rfl ?_|refine wf rfl ?_|(refine wC rfl (fun h=>?_) (fun h=>?_)<;>(try contradiction))|((first|refine rd ?_|refine ry [] c0 fun nu _ _=>?_);simp -dsimp (disch:=omega) only[go_sem,hx, szA, y2, y3, y4, eNbr])|refine e0 (by decide) ?_|(refine And.intro ?_ ?_;omega)|refine And.intro (of_eq_true PutAt_put) ?_|refine gT ?_|refine gF ?_|(refine gI (fun h=>?_) (fun h=>?_)<;>(try contradiction)<;>(try refine rd ?_)<;>(try simp -dsimp (disch:=omega) only[go_sem,h,hx, szA, y2, y3, y4, eNbr]))|refine Exists.intro _ (Exists.intro _ (And.intro (And.intro rfl rfl) ?_)) |fail
        all_goals exact ⟨Env.Sub_of_has (by simp [Env.Has, Env.get, eRtr, eNbr, nw1, nw2, nbrWord, *]), sub_eq (by simp [eNbr])⟩
      repeat' first |((fail_if_success (first|show W _ _ (Code.seq (Code.region 15 _ _) _) _ _ _|show W _ _ (Code.seq (Code.seq (Code.region 15 _ _) _) _) _ _ _));refine s1 ?_)|refine gS ?_|refine wT rfl ?_|refine wF rfl ?_|refine wt rfl ?_|refine wf rfl ?_|(refine wC rfl (fun h=>?_) (fun h=>?_)<;>(try contradiction))|((fail_if_success (first|show W _ _ (Code.region 15 _ _) _ _ _));(first|refine rd ?_|refine ry [] c0 fun nu _ _=>?_);simp -dsimp (disch:=omega) only[go_sem])|refine e0 (by decide) ?_|(refine And.intro ?_ ?_;omega)|refine And.intro (of_eq_true PutAt_put) ?_|refine gT ?_|refine gF ?_|(refine gI (fun h=>?_) (fun h=>?_)<;>(try contradiction)<;>(try refine rd ?_)<;>(try simp -dsimp (disch:=omega) only[go_sem,h]))|refine Exists.intro _ (Exists.intro _ (And.intro (And.intro rfl rfl) ?_)) |fail
      refine W_mid [(0, .ptr w 0 0), (3, .ip (eRtr y) 0), (45, .sl y.kB (encL eNbr y.nbrs)), (46, .int .i64 y.nbrs.length), (47, .int .i64 i), (7, .ptr o1 0 0), (8, .str (nw2 x))] (u.put o1 (.arr 61 [eNbr x])) ?_ ?_
      · skip
        repeat' first |refine s1 ?_|refine gS ?_|refine wT rfl ?_|refine wF rfl ?_|refine wt rfl ?_|refine wf rfl ?_|(refine wC rfl (fun h=>?_) (fun h=>?_)<;>(try contradiction))|((first|refine rd ?_|refine ry [] c0 fun nu _ _=>?_);simp -dsimp (disch:=omega) only[go_sem,hx, szA, y2, y3, y4, eNbr])|refine e0 (by decide) ?_|(refine And.intro ?_ ?_;omega)|refine And.intro (of_eq_true PutAt_put) ?_|refine gT ?_|refine gF ?_|(refine gI (fun h=>?_) (fun h=>?_)<;>(try contradiction)<;>(try refine rd ?_)<;>(try simp -dsimp (disch:=omega) only[go_sem,h,hx, szA, y2, y3, y4, eNbr]))|refine Exists.intro _ (Exists.intro _ (And.intro (And.intro rfl rfl) ?_)) |fail
        all_goals exact ⟨Env.Sub_of_has (by simp [Env.Has, Env.get, eRtr, eNbr, nw1, nw2, nbrWord, *]), sub_eq (by simp [eNbr])⟩
      repeat' first |((fail_if_success (first|show W _ _ (Code.seq (Code.region 17 _ _) _) _ _ _|show W _ _ (Code.seq (Code.seq (Code.region 17 _ _) _) _) _ _ _));refine s1 ?_)|refine gS ?_|refine wT rfl ?_|refine wF rfl ?_|refine wt rfl ?_|refine wf rfl ?_|(refine wC rfl (fun h=>?_) (fun h=>?_)<;>(try contradiction))|((fail_if_success (first|show W _ _ (Code.region 17 _ _) _ _ _));(first|refine rd ?_|refine ry [] c0 fun nu _ _=>?_);simp -dsimp (disch:=omega) only[go_sem])|refine e0 (by decide) ?_|(refine And.intro ?_ ?_;omega)|refine And.intro (of_eq_true PutAt_put) ?_|refine gT ?_|refine gF ?_|(refine gI (fun h=>?_) (fun h=>?_)<;>(try contradiction)<;>(try refine rd ?_)<;>(try simp -dsimp (disch:=omega) only[go_sem,h]))|refine Exists.intro _ (Exists.intro _ (And.intro (And.intro rfl rfl) ?_)) |fail
      refine W_mid [(0, .ptr w 0 0), (3, .ip (eRtr y) 0), (45, .sl y.kB (encL eNbr y.nbrs)), (46, .int .i64 y.nbrs.length), (47, .int .i64 i), (7, .ptr o1 0 0), (8, .str (nbrWord x))] (u.put o1 (.arr 61 [eNbr x])) ?_ ?_
      · skip
        repeat' first |refine s1 ?_|refine gS ?_|refine wT rfl ?_|refine wF rfl ?_|refine wt rfl ?_|refine wf rfl ?_|(refine wC rfl (fun h=>?_) (fun h=>?_)<;>(try contradiction))|((first|refine rd ?_|refine ry [] c0 fun nu _ _=>?_);simp -dsimp (disch:=omega) only[go_sem,hx, szA, y2, y3, y4, eNbr])|refine e0 (by decide) ?_|(refine And.intro ?_ ?_;omega)|refine And.intro (of_eq_true PutAt_put) ?_|refine gT ?_|refine gF ?_|(refine gI (fun h=>?_) (fun h=>?_)<;>(try contradiction)<;>(try refine rd ?_)<;>(try simp -dsimp (disch:=omega) only[go_sem,h,hx, szA, y2, y3, y4, eNbr]))|refine Exists.intro _ (Exists.intro _ (And.intro (And.intro rfl rfl) ?_)) |fail
        all_goals exact ⟨Env.Sub_of_has (by simp [Env.Has, Env.get, eRtr, eNbr, nw1, nw2, nbrWord, *]), sub_eq (by simp [eNbr])⟩
      repeat' first |refine s1 ?_|refine gS ?_|refine wT rfl ?_|refine wF rfl ?_|refine wt rfl ?_|refine wf rfl ?_|(refine wC rfl (fun h=>?_) (fun h=>?_)<;>(try contradiction))|((first|refine rd ?_|refine ry [] c0 fun nu _ _=>?_);simp -dsimp (disch:=omega) only[go_sem,hx, szA, y1, eNbr])|refine e0 (by decide) ?_|(refine And.intro ?_ ?_;omega)|refine And.intro (of_eq_true PutAt_put) ?_|refine gT ?_|refine gF ?_|(refine gI (fun h=>?_) (fun h=>?_)<;>(try contradiction)<;>(try refine rd ?_)<;>(try simp -dsimp (disch:=omega) only[go_sem,h,hx, szA, y1, eNbr]))|refine Exists.intro _ (Exists.intro _ (And.intro (And.intro rfl rfl) ?_)) |(refine ck (line2 1 .full _ _ (WS_put hwi ho1) (by omega) (by first | omega | (simp only [szA];omega))) ?_;rintro _ _ ⟨rfl,hw⟩) |fail
      exact ⟨(i + 1, _, _), by simp only;omega, ⟨by simp only;omega, hw, by simp only;rw [asA];exact hvi⟩, Env.Sub_of_has (by simp [Env.Has, Env.get, eRtr]), Store.Sub.refl _⟩
    · have hi' : i = y.nbrs.length := by omega
      subst hi'
      rw [List.drop_eq_nil_of_le (by simp), catB, emA] at hvi
      rw [hvi] at hwi
      clear hvi
      have hw := hwi
      clear hwi
      repeat' first |refine s1 ?_|refine gS ?_|refine wT rfl ?_|refine wF rfl ?_|refine wt rfl ?_|refine wf rfl ?_|(refine wC rfl (fun h=>?_) (fun h=>?_)<;>(try contradiction))|((first|refine rd ?_|refine ry [] c0 fun nu _ _=>?_);simp -dsimp (disch:=omega) only[go_sem])|refine e0 (by decide) ?_|(refine And.intro ?_ ?_;omega)|refine And.intro (of_eq_true PutAt_put) ?_|refine gT ?_|refine gF ?_|(refine gI (fun h=>?_) (fun h=>?_)<;>(try contradiction)<;>(try refine rd ?_)<;>(try simp -dsimp (disch:=omega) only[go_sem,h]))|refine Exists.intro _ (Exists.intro _ (And.intro (And.intro rfl rfl) ?_)) |fail
      refine W_loop_st (fun x : Nat × Store × ByteArray => [(0, .ptr w 0 0), (3, .ip (eRtr y) 0), (80, .sl y.kL (encL eLnk y.links)), (81, .int .i64 y.links.length), (82, .int .i64 x.1)]) (fun x => x.2.1) (fun x => x.1 ≤ y.links.length ∧ WS σ w x.2.2 x.2.1 ∧ x.2.2 ++ catB ((y.links.map (fun l => lineB 1 [(⟨#[108, 105, 110, 107]⟩ : ByteArray), l.name, (⟨#[99, 111, 115, 116]⟩ : ByteArray), digB l.cost ++ (⟨#[59]⟩ : ByteArray)])).drop x.1) = (((s ++ lineB 0 [(⟨#[114, 111, 117, 116, 101, 114]⟩ : ByteArray), y.name, (⟨#[123]⟩ : ByteArray)] ++ lineB 1 [(⟨#[97, 115]⟩ : ByteArray), digB y.asn ++ (⟨#[59]⟩ : ByteArray)] ++ lineB 1 [(⟨#[105, 100]⟩ : ByteArray), digB y.id ++ (⟨#[59]⟩ : ByteArray)]) ++ catB (y.nets.map (fun p => lineB 1 [(⟨#[110, 101, 116, 119, 111, 114, 107]⟩ : ByteArray), pfxText p ++ (⟨#[59]⟩ : ByteArray)]))) ++ catB (y.nbrs.map (fun n => lineB 1 [(⟨#[110, 101, 105, 103, 104, 98, 111, 114]⟩ : ByteArray), nbrWord n ++ (⟨#[59]⟩ : ByteArray)]))) ++ catB (y.links.map (fun l => lineB 1 [(⟨#[108, 105, 110, 107]⟩ : ByteArray), l.name, (⟨#[99, 111, 115, 116]⟩ : ByteArray), digB l.cost ++ (⟨#[59]⟩ : ByteArray)]))) (fun x => y.links.length - x.1) (0, _, (((s ++ lineB 0 [(⟨#[114, 111, 117, 116, 101, 114]⟩ : ByteArray), y.name, (⟨#[123]⟩ : ByteArray)] ++ lineB 1 [(⟨#[97, 115]⟩ : ByteArray), digB y.asn ++ (⟨#[59]⟩ : ByteArray)] ++ lineB 1 [(⟨#[105, 100]⟩ : ByteArray), digB y.id ++ (⟨#[59]⟩ : ByteArray)]) ++ catB (y.nets.map (fun p => lineB 1 [(⟨#[110, 101, 116, 119, 111, 114, 107]⟩ : ByteArray), pfxText p ++ (⟨#[59]⟩ : ByteArray)]))) ++ catB (y.nbrs.map (fun n => lineB 1 [(⟨#[110, 101, 105, 103, 104, 98, 111, 114]⟩ : ByteArray), nbrWord n ++ (⟨#[59]⟩ : ByteArray)])))) ⟨Nat.zero_le _, hw, rfl⟩ (Env.Sub_of_has (by simp [Env.Has, Env.get, eRtr])) (Store.Sub.refl _) ?_
      rintro ⟨i, u, v⟩ ⟨hi, hwi, hvi⟩
      simp only at hi hwi hvi
      by_cases hlt : i < y.links.length
      · have hmem : y.links.getD i default ∈ y.links := by rw [List.getD_eq_getElem?_getD, List.getElem?_eq_getElem hlt]; exact List.getElem_mem hlt
        have hcat := cat_drop (fun l => lineB 1 [(⟨#[108, 105, 110, 107]⟩ : ByteArray), l.name, (⟨#[99, 111, 115, 116]⟩ : ByteArray), digB l.cost ++ (⟨#[59]⟩ : ByteArray)]) hlt
        rw [hcat] at hvi
        have hsz := congrArg ByteArray.size hvi
        simp only [szA] at hsz
        obtain ⟨x, hx⟩ : ∃ x, y.links.getD i default = x := ⟨_, rfl⟩
        rw [hx] at hmem hvi hsz
        have hg3 := hg.links x hmem
        have d3 := digS_spec _ x.cost hg3.1 (Nat.lt_succ_self _) (by omega)
        have z3 := digB_size x.cost (by omega)
        repeat' first |refine s1 ?_|refine gS ?_|refine wT rfl ?_|refine wF rfl ?_|refine wt rfl ?_|refine wf rfl ?_|(refine wC rfl (fun h=>?_) (fun h=>?_)<;>(try contradiction))|((first|refine rd ?_|refine ry [] c0 fun nu _ _=>?_);simp -dsimp (disch:=omega) only[go_sem,hx])|refine e0 (by decide) ?_|(refine And.intro ?_ ?_;omega)|refine And.intro (of_eq_true PutAt_put) ?_|refine gT ?_|refine gF ?_|(refine gI (fun h=>?_) (fun h=>?_)<;>(try contradiction)<;>(try refine rd ?_)<;>(try simp -dsimp (disch:=omega) only[go_sem,h,hx]))|refine Exists.intro _ (Exists.intro _ (And.intro (And.intro rfl rfl) ?_)) |fail
        intro o1 ho1
        repeat' first |refine s1 ?_|refine gS ?_|refine wT rfl ?_|refine wF rfl ?_|refine wt rfl ?_|refine wf rfl ?_|(refine wC rfl (fun h=>?_) (fun h=>?_)<;>(try contradiction))|((first|refine rd ?_|refine ry (id:=24) [] (cw [2,4] [8] [] [] [8]) fun nu _ _=>?_|refine ry [] c0 fun nu _ _=>?_);simp -dsimp (disch:=omega) only[go_sem,hx, szA, y1])|refine e0 (by decide) ?_|(refine And.intro ?_ ?_;omega)|refine And.intro (of_eq_true PutAt_put) ?_|refine gT ?_|refine gF ?_|(refine gI (fun h=>?_) (fun h=>?_)<;>(try contradiction)<;>(try refine rd ?_)<;>(try simp -dsimp (disch:=omega) only[go_sem,h,hx, szA, y1]))|refine Exists.intro _ (Exists.intro _ (And.intro (And.intro rfl rfl) ?_)) |refine us (d3) ?_ |(refine ck (line4 1 .full _ _ _ _ (WS_put hwi ho1) (by omega) (by first | omega | (simp only [szA];omega))) ?_;rintro _ _ ⟨rfl,hw⟩) |fail
        exact ⟨(i + 1, _, _), by simp only;omega, ⟨by simp only;omega, hw, by simp only;rw [asA];exact hvi⟩, Env.Sub_of_has (by simp [Env.Has, Env.get, eRtr]), Store.Sub.refl _⟩
      · have hi' : i = y.links.length := by omega
        subst hi'
        rw [List.drop_eq_nil_of_le (by simp), catB, emA] at hvi
        rw [hvi] at hwi
        clear hvi
        have hw := hwi
        clear hwi
        repeat' first |refine s1 ?_|refine gS ?_|refine wT rfl ?_|refine wF rfl ?_|refine wt rfl ?_|refine wf rfl ?_|(refine wC rfl (fun h=>?_) (fun h=>?_)<;>(try contradiction))|((first|refine rd ?_|refine ry [] c0 fun nu _ _=>?_);simp -dsimp (disch:=omega) only[go_sem])|refine e0 (by decide) ?_|(refine And.intro ?_ ?_;omega)|refine And.intro (of_eq_true PutAt_put) ?_|refine gT ?_|refine gF ?_|(refine gI (fun h=>?_) (fun h=>?_)<;>(try contradiction)<;>(try refine rd ?_)<;>(try simp -dsimp (disch:=omega) only[go_sem,h]))|refine Exists.intro _ (Exists.intro _ (And.intro (And.intro rfl rfl) ?_)) |(refine ck (line1 0 .full _ hw (by omega) (by first | omega | (simp only [szA];omega))) ?_;rintro _ _ ⟨rfl,hw⟩) |fail
        refine ⟨_, Store.Sub.refl _, WS_end hw ?_⟩
        simp only [rtrText, asA]
structure Cfg.Good (c : Cfg) : Prop where
  fits : c.Fits
  lists : ∀ x, x ∈ c.lists → ∀ r, r ∈ x.l → r.p.Ok
  maps : ∀ x, x ∈ c.maps → ∀ r, r ∈ x.l → r.Good
  routers : ∀ x, x ∈ c.routers → x.Good
def printE (c : Cfg) : Int := if cfgMay c = true then (if 8192 < (cfgText c).size then 2 else 0) else 1
def printS (c : Cfg) : ByteArray := if printE c = 0 then cfgText c else ⟨#[]⟩
theorem len_spec {σ t : Store} {w : Nat} {s : ByteArray} (h : WS σ w s t) : PCall Tryz.prog 21 [.ptr w 0 0] t (fun r t' => r = .int .i64 s.size ∧ t' = t) := by
  obtain ⟨h1, h2, h3⟩ := h
  rcases h3 with ⟨rfl, h5 | h5⟩ | ⟨h8, o, h4, h5, h6, h7⟩
  · skip
    refine PCall_w [.tmp 2] 8 Tryz.func21 (by rfl) rfl rfl rfl rfl ?_
    repeat' first |refine s1 ?_|refine gS ?_|refine wT rfl ?_|refine wF rfl ?_|refine wt rfl ?_|refine wf rfl ?_|(refine wC rfl (fun h=>?_) (fun h=>?_)<;>(try contradiction))|((first|refine rd ?_|refine ry [] c0 fun nu _ _=>?_);simp -dsimp (disch:=omega) only[go_sem,h5])|refine e0 (by decide) ?_|(refine And.intro ?_ ?_;omega)|refine And.intro (of_eq_true PutAt_put) ?_|refine gT ?_|refine gF ?_|(refine gI (fun h=>?_) (fun h=>?_)<;>(try contradiction)<;>(try refine rd ?_)<;>(try simp -dsimp (disch:=omega) only[go_sem,h,h5]))|refine Exists.intro _ (Exists.intro _ (And.intro (And.intro rfl rfl) ?_)) |fail
    exact ⟨_, Store.Sub.refl _, rfl, rfl⟩
  · skip
    refine PCall_w [.tmp 2] 8 Tryz.func21 (by rfl) rfl rfl rfl rfl ?_
    repeat' first |refine s1 ?_|refine gS ?_|refine wT rfl ?_|refine wF rfl ?_|refine wt rfl ?_|refine wf rfl ?_|(refine wC rfl (fun h=>?_) (fun h=>?_)<;>(try contradiction))|((first|refine rd ?_|refine ry [] c0 fun nu _ _=>?_);simp -dsimp (disch:=omega) only[go_sem,h5])|refine e0 (by decide) ?_|(refine And.intro ?_ ?_;omega)|refine And.intro (of_eq_true PutAt_put) ?_|refine gT ?_|refine gF ?_|(refine gI (fun h=>?_) (fun h=>?_)<;>(try contradiction)<;>(try refine rd ?_)<;>(try simp -dsimp (disch:=omega) only[go_sem,h,h5]))|refine Exists.intro _ (Exists.intro _ (And.intro (And.intro rfl rfl) ?_)) |fail
    exact ⟨_, Store.Sub.refl _, rfl, rfl⟩
  · skip
    refine PCall_w [.tmp 2] 8 Tryz.func21 (by rfl) rfl rfl rfl rfl ?_
    repeat' first |refine s1 ?_|refine gS ?_|refine wT rfl ?_|refine wF rfl ?_|refine wt rfl ?_|refine wf rfl ?_|(refine wC rfl (fun h=>?_) (fun h=>?_)<;>(try contradiction))|((first|refine rd ?_|refine ry [] c0 fun nu _ _=>?_);simp -dsimp (disch:=omega) only[go_sem,h6])|refine e0 (by decide) ?_|(refine And.intro ?_ ?_;omega)|refine And.intro (of_eq_true PutAt_put) ?_|refine gT ?_|refine gF ?_|(refine gI (fun h=>?_) (fun h=>?_)<;>(try contradiction)<;>(try refine rd ?_)<;>(try simp -dsimp (disch:=omega) only[go_sem,h,h6]))|refine Exists.intro _ (Exists.intro _ (And.intro (And.intro rfl rfl) ?_)) |fail
theorem unB_B (s : ByteArray) : unB (encL eB (B s)) = some s := unB_bytesA s
theorem c00 : ((((0 : Nat) : Int)) = 0) = True := eq_true rfl
theorem string_spec {σ t : Store} {w : Nat} {s : ByteArray} (h : WS σ w s t) (hb : s.size ≤ 140737488355328) : PCall Tryz.prog 22 [.ptr w 0 0] t (fun r t' => r = .str s ∧ σ.Sub t') := by
  obtain ⟨h1, h2, h3⟩ := h
  rcases h3 with ⟨rfl, h5 | h5⟩ | ⟨h8, o, h4, h5, h6, h7⟩
  · skip
    refine PCall_w [.tmp 2] 14 Tryz.func22 (by rfl) rfl rfl rfl rfl ?_
    repeat' first |refine s1 ?_|refine gS ?_|refine wT rfl ?_|refine wF rfl ?_|refine wt rfl ?_|refine wf rfl ?_|(refine wC rfl (fun h=>?_) (fun h=>?_)<;>(try contradiction))|((first|refine rd ?_|refine ry (id:=1) [] (cq [3,8]) fun nu _ _=>?_|refine ry [] c0 fun nu _ _=>?_);simp -dsimp (disch:=omega) only[go_sem,h5, c00])|refine e0 (by decide) ?_|(refine And.intro ?_ ?_;omega)|refine And.intro (of_eq_true PutAt_put) ?_|refine gT ?_|refine gF ?_|(refine gI (fun h=>?_) (fun h=>?_)<;>(try contradiction)<;>(try refine rd ?_)<;>(try simp -dsimp (disch:=omega) only[go_sem,h,h5, c00]))|refine Exists.intro _ (Exists.intro _ (And.intro (And.intro rfl rfl) ?_)) |fail
    all_goals exact ⟨_, Store.Sub.refl _, rfl, h1⟩
  · skip
    refine PCall_w [.tmp 2] 14 Tryz.func22 (by rfl) rfl rfl rfl rfl ?_
    repeat' first |refine s1 ?_|refine gS ?_|refine wT rfl ?_|refine wF rfl ?_|refine wt rfl ?_|refine wf rfl ?_|(refine wC rfl (fun h=>?_) (fun h=>?_)<;>(try contradiction))|((first|refine rd ?_|refine ry (id:=1) [] (cq [3,8]) fun nu _ _=>?_|refine ry [] c0 fun nu _ _=>?_);simp -dsimp (disch:=omega) only[go_sem,h5, c00])|refine e0 (by decide) ?_|(refine And.intro ?_ ?_;omega)|refine And.intro (of_eq_true PutAt_put) ?_|refine gT ?_|refine gF ?_|(refine gI (fun h=>?_) (fun h=>?_)<;>(try contradiction)<;>(try refine rd ?_)<;>(try simp -dsimp (disch:=omega) only[go_sem,h,h5, c00]))|refine Exists.intro _ (Exists.intro _ (And.intro (And.intro rfl rfl) ?_)) |fail
    all_goals exact ⟨_, Store.Sub.refl _, rfl, h1⟩
  · have hlb := length_B s
    have htk : (encL eB (B s)).take s.size = encL eB (B s) := by rw [take_encL, ← hlb, List.take_length]
    have hub := unB_B s
    have hns : ((s.size : Nat) : Int).toNat = s.size := rfl
    refine PCall_w [.tmp 2] 14 Tryz.func22 (by rfl) rfl rfl rfl rfl ?_
    repeat' first |refine s1 ?_|refine gS ?_|refine wT rfl ?_|refine wF rfl ?_|refine wt rfl ?_|refine wf rfl ?_|(refine wC rfl (fun h=>?_) (fun h=>?_)<;>(try contradiction))|((first|refine rd ?_|refine ry (id:=1) [] (cw [3,8] [10] [] [] []) fun nu _ _=>?_|refine ry [] c0 fun nu _ _=>?_);simp -dsimp (disch:=omega) only[go_sem,h6, h7, hlb, htk, hub, hns])|refine e0 (by decide) ?_|(refine And.intro ?_ ?_;omega)|refine And.intro (of_eq_true PutAt_put) ?_|refine gT ?_|refine gF ?_|(refine gI (fun h=>?_) (fun h=>?_)<;>(try contradiction)<;>(try refine rd ?_)<;>(try simp -dsimp (disch:=omega) only[go_sem,h,h6, h7, hlb, htk, hub, hns]))|refine Exists.intro _ (Exists.intro _ (And.intro (And.intro rfl rfl) ?_)) |fail
    all_goals exact ⟨_, Store.Sub.refl _, Sub_drop h1 h5⟩
theorem print_spec (c : Cfg) (hf : c.Fits) (hg : cfgMay c = true → c.Good ∧ (cfgText c).size ≤ 140737488355328) : Pure Tryz.prog 8 [eCfg c] (.tup [.str (printS c), .int .i64 (printE c)]) := by
  intro σ
  have h1 := cfgMay_spec c hf
  have z0 : (⟨#[]⟩ : ByteArray).size = 0 := rfl
  have ln1 := hf.lists
  have ln2 := hf.maps
  have ln3 := hf.routers
  by_cases hm : cfgMay c = true
  · obtain ⟨hc, hz⟩ := hg hm
    have hz2 := hz
    simp only [cfgText, szA] at hz2
    rw [hm] at h1
    refine PCall_q [.tmp 2, .tmp 3] 58 Tryz.func8 (by rfl) rfl rfl rfl rfl ?_
    repeat' first |refine s1 ?_|refine gS ?_|refine wT rfl ?_|refine wF rfl ?_|refine wt rfl ?_|refine wf rfl ?_|(refine wC rfl (fun h=>?_) (fun h=>?_)<;>(try contradiction))|((first|refine s3 (mu:=[15]) ?_|refine rd ?_|refine ry [15] c0 fun nu _ _=>?_);simp -dsimp (disch:=omega) only[go_sem])|refine e0 (by decide) ?_|(refine And.intro ?_ ?_;omega)|refine And.intro (of_eq_true PutAt_put) ?_|refine gT ?_|refine gF ?_|(refine gI (fun h=>?_) (fun h=>?_)<;>(try contradiction)<;>(try refine rd ?_)<;>(try simp -dsimp (disch:=omega) only[go_sem,h]))|refine Exists.intro _ (Exists.intro _ (And.intro (And.intro rfl rfl) ?_)) |refine us (h1) ?_ |fail
    intro w hw0
    have hw : WS σ w ⟨#[]⟩ (σ.put w (bldO .nilp (.sl .nil []))) := ⟨Sub_put (Store.Sub.refl _) hw0 _, hw0, .inl ⟨rfl, .inl (put_same ..)⟩⟩
    repeat' first |refine s1 ?_|refine gS ?_|refine wT rfl ?_|refine wF rfl ?_|refine wt rfl ?_|refine wf rfl ?_|(refine wC rfl (fun h=>?_) (fun h=>?_)<;>(try contradiction))|((first|refine rd ?_|refine ry [] c0 fun nu _ _=>?_);simp -dsimp (disch:=omega) only[go_sem])|refine e0 (by decide) ?_|(refine And.intro ?_ ?_;omega)|refine And.intro (of_eq_true PutAt_put) ?_|refine gT ?_|refine gF ?_|(refine gI (fun h=>?_) (fun h=>?_)<;>(try contradiction)<;>(try refine rd ?_)<;>(try simp -dsimp (disch:=omega) only[go_sem,h]))|refine Exists.intro _ (Exists.intro _ (And.intro (And.intro rfl rfl) ?_)) |fail
    refine W_loop_st (fun x : Nat × Store × ByteArray => [(1, .ip (eCfg c) 0), (4, .ptr w 0 0), (17, .sl c.kL (encL eLst c.lists)), (18, .int .i64 c.lists.length), (19, .int .i64 x.1)]) (fun x => x.2.1) (fun x => x.1 ≤ c.lists.length ∧ WS σ w x.2.2 x.2.1 ∧ x.2.2 ++ catB ((c.lists.map lstText).drop x.1) = (⟨#[]⟩ : ByteArray) ++ catB (c.lists.map lstText)) (fun x => c.lists.length - x.1) (0, _, (⟨#[]⟩ : ByteArray)) ⟨Nat.zero_le _, hw, rfl⟩ (Env.Sub_of_has (by simp [Env.Has, Env.get, eCfg])) (Store.Sub.refl _) ?_
    rintro ⟨i, u, v⟩ ⟨hi, hwi, hvi⟩
    simp only at hi hwi hvi
    by_cases hlt : i < c.lists.length
    · have hmem : c.lists.getD i default ∈ c.lists := by rw [List.getD_eq_getElem?_getD, List.getElem?_eq_getElem hlt]; exact List.getElem_mem hlt
      have hcat := cat_drop lstText hlt
      rw [hcat] at hvi
      have hsz := congrArg ByteArray.size hvi
      simp only [szA] at hsz
      obtain ⟨x, hx⟩ : ∃ x, c.lists.getD i default = x := ⟨_, rfl⟩
      rw [hx] at hmem hvi hsz
      repeat' first |refine s1 ?_|refine gS ?_|refine wT rfl ?_|refine wF rfl ?_|refine wt rfl ?_|refine wf rfl ?_|(refine wC rfl (fun h=>?_) (fun h=>?_)<;>(try contradiction))|((first|refine rd ?_|refine ry [] c0 fun nu _ _=>?_);simp -dsimp (disch:=omega) only[go_sem,hx])|refine e0 (by decide) ?_|(refine And.intro ?_ ?_;omega)|refine And.intro (of_eq_true PutAt_put) ?_|refine gT ?_|refine gF ?_|(refine gI (fun h=>?_) (fun h=>?_)<;>(try contradiction)<;>(try refine rd ?_)<;>(try simp -dsimp (disch:=omega) only[go_sem,h,hx]))|refine Exists.intro _ (Exists.intro _ (And.intro (And.intro rfl rfl) ?_)) |fail
      intro o1 ho1
      repeat' first |refine s1 ?_|refine gS ?_|refine wT rfl ?_|refine wF rfl ?_|refine wt rfl ?_|refine wf rfl ?_|(refine wC rfl (fun h=>?_) (fun h=>?_)<;>(try contradiction))|((first|refine rd ?_|refine ry [] c0 fun nu _ _=>?_);simp -dsimp (disch:=omega) only[go_sem,hx])|refine e0 (by decide) ?_|(refine And.intro ?_ ?_;omega)|refine And.intro (of_eq_true PutAt_put) ?_|refine gT ?_|refine gF ?_|(refine gI (fun h=>?_) (fun h=>?_)<;>(try contradiction)<;>(try refine rd ?_)<;>(try simp -dsimp (disch:=omega) only[go_sem,h,hx]))|refine Exists.intro _ (Exists.intro _ (And.intro (And.intro rfl rfl) ?_)) |(refine ck (lst_spec (WS_put hwi ho1) x (hc.fits.lst x hmem).1 (hc.lists x hmem) (by first | omega | (simp only [szA];omega))) ?_;rintro _ _ ⟨rfl,hw⟩) |fail
      exact ⟨(i + 1, _, _), by simp only;omega, ⟨by simp only;omega, hw, by simp only;rw [asA];exact hvi⟩, Env.Sub_of_has (by simp [Env.Has, Env.get, eCfg]), Store.Sub.refl _⟩
    · have hi' : i = c.lists.length := by omega
      subst hi'
      rw [List.drop_eq_nil_of_le (by simp), catB, emA] at hvi
      rw [hvi] at hwi
      clear hvi
      have hw := hwi
      clear hwi
      repeat' first |refine s1 ?_|refine gS ?_|refine wT rfl ?_|refine wF rfl ?_|refine wt rfl ?_|refine wf rfl ?_|(refine wC rfl (fun h=>?_) (fun h=>?_)<;>(try contradiction))|((first|refine rd ?_|refine ry [] c0 fun nu _ _=>?_);simp -dsimp (disch:=omega) only[go_sem])|refine e0 (by decide) ?_|(refine And.intro ?_ ?_;omega)|refine And.intro (of_eq_true PutAt_put) ?_|refine gT ?_|refine gF ?_|(refine gI (fun h=>?_) (fun h=>?_)<;>(try contradiction)<;>(try refine rd ?_)<;>(try simp -dsimp (disch:=omega) only[go_sem,h]))|refine Exists.intro _ (Exists.intro _ (And.intro (And.intro rfl rfl) ?_)) |fail
      refine W_loop_st (fun x : Nat × Store × ByteArray => [(1, .ip (eCfg c) 0), (4, .ptr w 0 0), (28, .sl c.kM (encL eMap c.maps)), (29, .int .i64 c.maps.length), (30, .int .i64 x.1)]) (fun x => x.2.1) (fun x => x.1 ≤ c.maps.length ∧ WS σ w x.2.2 x.2.1 ∧ x.2.2 ++ catB ((c.maps.map mapText).drop x.1) = ((⟨#[]⟩ : ByteArray) ++ catB (c.lists.map lstText)) ++ catB (c.maps.map mapText)) (fun x => c.maps.length - x.1) (0, _, ((⟨#[]⟩ : ByteArray) ++ catB (c.lists.map lstText))) ⟨Nat.zero_le _, hw, rfl⟩ (Env.Sub_of_has (by simp [Env.Has, Env.get, eCfg])) (Store.Sub.refl _) ?_
      rintro ⟨i, u, v⟩ ⟨hi, hwi, hvi⟩
      simp only at hi hwi hvi
      by_cases hlt : i < c.maps.length
      · have hmem : c.maps.getD i default ∈ c.maps := by rw [List.getD_eq_getElem?_getD, List.getElem?_eq_getElem hlt]; exact List.getElem_mem hlt
        have hcat := cat_drop mapText hlt
        rw [hcat] at hvi
        have hsz := congrArg ByteArray.size hvi
        simp only [szA] at hsz
        obtain ⟨x, hx⟩ : ∃ x, c.maps.getD i default = x := ⟨_, rfl⟩
        rw [hx] at hmem hvi hsz
        repeat' first |refine s1 ?_|refine gS ?_|refine wT rfl ?_|refine wF rfl ?_|refine wt rfl ?_|refine wf rfl ?_|(refine wC rfl (fun h=>?_) (fun h=>?_)<;>(try contradiction))|((first|refine rd ?_|refine ry [] c0 fun nu _ _=>?_);simp -dsimp (disch:=omega) only[go_sem,hx])|refine e0 (by decide) ?_|(refine And.intro ?_ ?_;omega)|refine And.intro (of_eq_true PutAt_put) ?_|refine gT ?_|refine gF ?_|(refine gI (fun h=>?_) (fun h=>?_)<;>(try contradiction)<;>(try refine rd ?_)<;>(try simp -dsimp (disch:=omega) only[go_sem,h,hx]))|refine Exists.intro _ (Exists.intro _ (And.intro (And.intro rfl rfl) ?_)) |fail
        intro o1 ho1
        repeat' first |refine s1 ?_|refine gS ?_|refine wT rfl ?_|refine wF rfl ?_|refine wt rfl ?_|refine wf rfl ?_|(refine wC rfl (fun h=>?_) (fun h=>?_)<;>(try contradiction))|((first|refine rd ?_|refine ry [] c0 fun nu _ _=>?_);simp -dsimp (disch:=omega) only[go_sem,hx])|refine e0 (by decide) ?_|(refine And.intro ?_ ?_;omega)|refine And.intro (of_eq_true PutAt_put) ?_|refine gT ?_|refine gF ?_|(refine gI (fun h=>?_) (fun h=>?_)<;>(try contradiction)<;>(try refine rd ?_)<;>(try simp -dsimp (disch:=omega) only[go_sem,h,hx]))|refine Exists.intro _ (Exists.intro _ (And.intro (And.intro rfl rfl) ?_)) |(refine ck (map_spec (WS_put hwi ho1) x (hc.fits.map x hmem).len (hc.maps x hmem) (by first | omega | (simp only [szA];omega))) ?_;rintro _ _ ⟨rfl,hw⟩) |fail
        exact ⟨(i + 1, _, _), by simp only;omega, ⟨by simp only;omega, hw, by simp only;rw [asA];exact hvi⟩, Env.Sub_of_has (by simp [Env.Has, Env.get, eCfg]), Store.Sub.refl _⟩
      · have hi' : i = c.maps.length := by omega
        subst hi'
        rw [List.drop_eq_nil_of_le (by simp), catB, emA] at hvi
        rw [hvi] at hwi
        clear hvi
        have hw := hwi
        clear hwi
        repeat' first |refine s1 ?_|refine gS ?_|refine wT rfl ?_|refine wF rfl ?_|refine wt rfl ?_|refine wf rfl ?_|(refine wC rfl (fun h=>?_) (fun h=>?_)<;>(try contradiction))|((first|refine rd ?_|refine ry [] c0 fun nu _ _=>?_);simp -dsimp (disch:=omega) only[go_sem])|refine e0 (by decide) ?_|(refine And.intro ?_ ?_;omega)|refine And.intro (of_eq_true PutAt_put) ?_|refine gT ?_|refine gF ?_|(refine gI (fun h=>?_) (fun h=>?_)<;>(try contradiction)<;>(try refine rd ?_)<;>(try simp -dsimp (disch:=omega) only[go_sem,h]))|refine Exists.intro _ (Exists.intro _ (And.intro (And.intro rfl rfl) ?_)) |fail
        refine W_loop_st (fun x : Nat × Store × ByteArray => [(1, .ip (eCfg c) 0), (4, .ptr w 0 0), (39, .sl c.kR (encL eRtr c.routers)), (40, .int .i64 c.routers.length), (41, .int .i64 x.1)]) (fun x => x.2.1) (fun x => x.1 ≤ c.routers.length ∧ WS σ w x.2.2 x.2.1 ∧ x.2.2 ++ catB ((c.routers.map rtrText).drop x.1) = (((⟨#[]⟩ : ByteArray) ++ catB (c.lists.map lstText)) ++ catB (c.maps.map mapText)) ++ catB (c.routers.map rtrText)) (fun x => c.routers.length - x.1) (0, _, (((⟨#[]⟩ : ByteArray) ++ catB (c.lists.map lstText)) ++ catB (c.maps.map mapText))) ⟨Nat.zero_le _, hw, rfl⟩ (Env.Sub_of_has (by simp [Env.Has, Env.get, eCfg])) (Store.Sub.refl _) ?_
        rintro ⟨i, u, v⟩ ⟨hi, hwi, hvi⟩
        simp only at hi hwi hvi
        by_cases hlt : i < c.routers.length
        · have hmem : c.routers.getD i default ∈ c.routers := by rw [List.getD_eq_getElem?_getD, List.getElem?_eq_getElem hlt]; exact List.getElem_mem hlt
          have hcat := cat_drop rtrText hlt
          rw [hcat] at hvi
          have hsz := congrArg ByteArray.size hvi
          simp only [szA] at hsz
          obtain ⟨x, hx⟩ : ∃ x, c.routers.getD i default = x := ⟨_, rfl⟩
          rw [hx] at hmem hvi hsz
          repeat' first |refine s1 ?_|refine gS ?_|refine wT rfl ?_|refine wF rfl ?_|refine wt rfl ?_|refine wf rfl ?_|(refine wC rfl (fun h=>?_) (fun h=>?_)<;>(try contradiction))|((first|refine rd ?_|refine ry [] c0 fun nu _ _=>?_);simp -dsimp (disch:=omega) only[go_sem,hx])|refine e0 (by decide) ?_|(refine And.intro ?_ ?_;omega)|refine And.intro (of_eq_true PutAt_put) ?_|refine gT ?_|refine gF ?_|(refine gI (fun h=>?_) (fun h=>?_)<;>(try contradiction)<;>(try refine rd ?_)<;>(try simp -dsimp (disch:=omega) only[go_sem,h,hx]))|refine Exists.intro _ (Exists.intro _ (And.intro (And.intro rfl rfl) ?_)) |fail
          intro o1 ho1
          repeat' first |refine s1 ?_|refine gS ?_|refine wT rfl ?_|refine wF rfl ?_|refine wt rfl ?_|refine wf rfl ?_|(refine wC rfl (fun h=>?_) (fun h=>?_)<;>(try contradiction))|((first|refine rd ?_|refine ry [] c0 fun nu _ _=>?_);simp -dsimp (disch:=omega) only[go_sem,hx])|refine e0 (by decide) ?_|(refine And.intro ?_ ?_;omega)|refine And.intro (of_eq_true PutAt_put) ?_|refine gT ?_|refine gF ?_|(refine gI (fun h=>?_) (fun h=>?_)<;>(try contradiction)<;>(try refine rd ?_)<;>(try simp -dsimp (disch:=omega) only[go_sem,h,hx]))|refine Exists.intro _ (Exists.intro _ (And.intro (And.intro rfl rfl) ?_)) |(refine ck (rtr_spec (WS_put hwi ho1) x (hc.routers x hmem) (by first | omega | (simp only [szA];omega))) ?_;rintro _ _ ⟨rfl,hw⟩) |fail
          exact ⟨(i + 1, _, _), by simp only;omega, ⟨by simp only;omega, hw, by simp only;rw [asA];exact hvi⟩, Env.Sub_of_has (by simp [Env.Has, Env.get, eCfg]), Store.Sub.refl _⟩
        · have hi' : i = c.routers.length := by omega
          subst hi'
          rw [List.drop_eq_nil_of_le (by simp), catB, emA] at hvi
          rw [hvi] at hwi
          clear hvi
          have hw := hwi
          clear hwi
          have e : (((⟨#[]⟩ : ByteArray) ++ catB (c.lists.map lstText)) ++ catB (c.maps.map mapText)) ++ catB (c.routers.map rtrText) = cfgText c := by simp only [cfgText, eA, asA]
          rw [e] at hw
          repeat' first |refine s1 ?_|refine gS ?_|refine wT rfl ?_|refine wF rfl ?_|refine wt rfl ?_|refine wf rfl ?_|(refine wC rfl (fun h=>?_) (fun h=>?_)<;>(try contradiction))|((first|refine rd ?_|refine ry [] c0 fun nu _ _=>?_);simp -dsimp (disch:=omega) only[go_sem])|refine e0 (by decide) ?_|(refine And.intro ?_ ?_;omega)|refine And.intro (of_eq_true PutAt_put) ?_|refine gT ?_|refine gF ?_|(refine gI (fun h=>?_) (fun h=>?_)<;>(try contradiction)<;>(try refine rd ?_)<;>(try simp -dsimp (disch:=omega) only[go_sem,h]))|refine Exists.intro _ (Exists.intro _ (And.intro (And.intro rfl rfl) ?_)) |refine uw (len_spec hw) ?_ |fail
          · have hE : printE c = 2 := by rw [printE, if_pos hm, if_pos (by omega)]
            have hS : printS c = ⟨#[]⟩ := by rw [printS, hE]; rfl
            rw [hE, hS]
            exact ⟨rfl, hw.1⟩
          · have hE : printE c = 0 := by rw [printE, if_pos hm, if_neg (by omega)]
            have hS : printS c = cfgText c := by rw [printS, hE]; rfl
            rw [hE, hS]
            refine ck (string_spec hw hz) ?_
            rintro _ t2 ⟨rfl, hs⟩
            repeat' first |refine s1 ?_|refine gS ?_|refine wT rfl ?_|refine wF rfl ?_|refine wt rfl ?_|refine wf rfl ?_|(refine wC rfl (fun h=>?_) (fun h=>?_)<;>(try contradiction))|((first|refine rd ?_|refine ry [] c0 fun nu _ _=>?_);simp -dsimp (disch:=omega) only[go_sem])|refine e0 (by decide) ?_|(refine And.intro ?_ ?_;omega)|refine And.intro (of_eq_true PutAt_put) ?_|refine gT ?_|refine gF ?_|(refine gI (fun h=>?_) (fun h=>?_)<;>(try contradiction)<;>(try refine rd ?_)<;>(try simp -dsimp (disch:=omega) only[go_sem,h]))|refine Exists.intro _ (Exists.intro _ (And.intro (And.intro rfl rfl) ?_)) |fail
            exact hs
  · have hm' : cfgMay c = false := by simpa using hm
    have hE : printE c = 1 := by rw [printE, if_neg hm]
    have hS : printS c = ⟨#[]⟩ := by rw [printS, hE]; rfl
    rw [hm'] at h1
    rw [hE, hS]
    refine PCall_q [.tmp 2, .tmp 3] 58 Tryz.func8 (by rfl) rfl rfl rfl rfl ?_
    repeat' first |refine s1 ?_|refine gS ?_|refine wT rfl ?_|refine wF rfl ?_|refine wt rfl ?_|refine wf rfl ?_|(refine wC rfl (fun h=>?_) (fun h=>?_)<;>(try contradiction))|((first|refine s3 (mu:=[15]) ?_|refine rd ?_|refine ry [15] c0 fun nu _ _=>?_);simp -dsimp (disch:=omega) only[go_sem])|refine e0 (by decide) ?_|(refine And.intro ?_ ?_;omega)|refine And.intro (of_eq_true PutAt_put) ?_|refine gT ?_|refine gF ?_|(refine gI (fun h=>?_) (fun h=>?_)<;>(try contradiction)<;>(try refine rd ?_)<;>(try simp -dsimp (disch:=omega) only[go_sem,h]))|refine Exists.intro _ (Exists.intro _ (And.intro (And.intro rfl rfl) ?_)) |refine us (h1) ?_ |fail
end Go.Proofs.YtaealcimocpnnaaGreat
namespace Go.Proofs.YtaealcimocpnnaaGreat
open Go.Kern Go.RowKit
def Cls.S (c : Cls) : Prop := c.m.list.size ≤ 100 ∧ c.m.path.size ≤ 100 ∧ c.s.add.length ≤ 20 ∧ c.s.del.length ≤ 20 ∧ c.s.pre.length ≤ 30
def LstD.S (x : LstD) : Prop := x.name.size ≤ 100 ∧ x.l.length ≤ 20
def MapD.S0 (x : MapD) : Prop := x.name.size ≤ 100 ∧ x.l.length ≤ 20
def MapD.S (x : MapD) : Prop := x.S0 ∧ ∀ c, c ∈ x.l → c.S
def Rtr.S (x : Rtr) : Prop := x.name.size ≤ 100 ∧ x.nets.length ≤ 20 ∧ x.nbrs.length ≤ 20 ∧ x.links.length ≤ 20
structure Cfg.S (c : Cfg) : Prop where
  len : c.lists.length ≤ 20 ∧ c.maps.length ≤ 20 ∧ c.routers.length ≤ 12
  lists : ∀ x, x ∈ c.lists → x.S
  maps : ∀ x, x ∈ c.maps → x.S
  routers : ∀ x, x ∈ c.routers → x.S
theorem take_all {α : Type} [Inhabited α] {P : α → Prop} {l : List α} {i : Nat} (h : i < l.length) (h1 : ∀ x, x ∈ l.take i → P x) (h2 : P (l.getD i default)) : ∀ x, x ∈ l.take (i + 1) → P x := by
  intro x hx
  rw [List.take_succ_eq_append_getElem h] at hx
  rcases List.mem_append.1 hx with hx | hx
  · exact h1 x hx
  · have : x = l.getD i default := by simpa [List.getD_eq_getElem?_getD, h] using hx
    rw [this]; exact h2
set_option maxRecDepth 100000
set_option maxHeartbeats 4000000
attribute [local irreducible] PCall W
theorem small_spec (c : Cfg) (σ : Store) : PCall Tryz.prog 6 [eCfg c] σ (fun r t => (r = .bool false ∨ (r = .bool true ∧ c.S)) ∧ t = σ) := by
  refine PCall_w [.tmp 2] 210 Tryz.func6 (by rfl) rfl rfl rfl rfl ?_
  by_cases g0 : c.lists.length ≤ 20 ∧ c.maps.length ≤ 20 ∧ c.routers.length ≤ 12
  · obtain ⟨l1, l2, l3⟩ := g0
    repeat' first |refine s1 ?_|refine gS ?_|refine wT rfl ?_|refine wF rfl ?_|refine wt rfl ?_|refine wf rfl ?_|(refine wC rfl (fun h=>?_) (fun h=>?_)<;>(try contradiction))|((first|refine rd ?_|refine ry [] c0 fun nu _ _=>?_);simp -dsimp (disch:=omega) only[go_sem])|refine e0 (by decide) ?_|(refine And.intro ?_ ?_;omega)|refine And.intro (of_eq_true PutAt_put) ?_|refine gT ?_|refine gF ?_|(refine gI (fun h=>?_) (fun h=>?_)<;>(try contradiction)<;>(try refine rd ?_)<;>(try simp -dsimp (disch:=omega) only[go_sem,h]))|refine Exists.intro _ (Exists.intro _ (And.intro (And.intro rfl rfl) ?_)) |fail
    refine W_loop_st (fun i : Nat => [(1, .ip (eCfg c) 0), (3, .int .i64 i)]) (fun _ => σ) (fun i => i ≤ c.lists.length ∧ ∀ x, x ∈ c.lists.take i → LstD.S x) (fun i => c.lists.length - i) 0 ⟨Nat.zero_le _, fun x hx => by simp at hx⟩ (Env.Sub_of_has (by simp [Env.Has, Env.get, eCfg])) (Store.Sub.refl _) ?_
    rintro i ⟨hi, hor⟩
    by_cases hlt : i < c.lists.length
    · obtain ⟨x, hx⟩ : ∃ x, c.lists.getD i default = x := ⟨_, rfl⟩
      by_cases hs : x.S
      · obtain ⟨p1, p2⟩ := hs
        repeat' first |refine s1 ?_|refine gS ?_|refine wT rfl ?_|refine wF rfl ?_|refine wt rfl ?_|refine wf rfl ?_|(refine wC rfl (fun h=>?_) (fun h=>?_)<;>(try contradiction))|((first|refine rd ?_|refine ry [] c0 fun nu _ _=>?_);simp -dsimp (disch:=omega) only[go_sem,hx])|refine e0 (by decide) ?_|(refine And.intro ?_ ?_;omega)|refine And.intro (of_eq_true PutAt_put) ?_|refine gT ?_|refine gF ?_|(refine gI (fun h=>?_) (fun h=>?_)<;>(try contradiction)<;>(try refine rd ?_)<;>(try simp -dsimp (disch:=omega) only[go_sem,h,hx]))|refine Exists.intro _ (Exists.intro _ (And.intro (And.intro rfl rfl) ?_)) |fail
        exact ⟨i + 1, by omega, ⟨by omega, take_all hlt hor (hx ▸ ⟨p1, p2⟩)⟩, Env.Sub_of_has (by simp [Env.Has, Env.get, eCfg]), Store.Sub.refl _⟩
      · unfold LstD.S at hs
        repeat' first |((fail_if_success (first|show W _ _ (Code.seq (Code.region 5 _ _) _) _ _ _|show W _ _ (Code.seq (Code.seq (Code.region 5 _ _) _) _) _ _ _));refine s1 ?_)|refine gS ?_|refine wT rfl ?_|refine wF rfl ?_|refine wt rfl ?_|refine wf rfl ?_|(refine wC rfl (fun h=>?_) (fun h=>?_)<;>(try contradiction))|((fail_if_success (first|show W _ _ (Code.region 5 _ _) _ _ _));(first|refine rd ?_|refine ry [] c0 fun nu _ _=>?_);simp -dsimp (disch:=omega) only[go_sem,hx])|refine e0 (by decide) ?_|(refine And.intro ?_ ?_;omega)|refine And.intro (of_eq_true PutAt_put) ?_|refine gT ?_|refine gF ?_|(refine gI (fun h=>?_) (fun h=>?_)<;>(try contradiction)<;>(try refine rd ?_)<;>(try simp -dsimp (disch:=omega) only[go_sem,h,hx]))|refine Exists.intro _ (Exists.intro _ (And.intro (And.intro rfl rfl) ?_)) |fail
        all_goals first | exact ⟨_, Store.Sub.refl _, rfl⟩ | exact ⟨_, Store.Sub.refl _, .inl rfl, rfl⟩ | exact Store.Sub.refl _
    · have hi' : i = c.lists.length := by omega
      subst hi'
      rw [List.take_length] at hor
      have hL := hor
      clear hor
      repeat' first |refine s1 ?_|refine gS ?_|refine wT rfl ?_|refine wF rfl ?_|refine wt rfl ?_|refine wf rfl ?_|(refine wC rfl (fun h=>?_) (fun h=>?_)<;>(try contradiction))|((first|refine rd ?_|refine ry [] c0 fun nu _ _=>?_);simp -dsimp (disch:=omega) only[go_sem])|refine e0 (by decide) ?_|(refine And.intro ?_ ?_;omega)|refine And.intro (of_eq_true PutAt_put) ?_|refine gT ?_|refine gF ?_|(refine gI (fun h=>?_) (fun h=>?_)<;>(try contradiction)<;>(try refine rd ?_)<;>(try simp -dsimp (disch:=omega) only[go_sem,h]))|refine Exists.intro _ (Exists.intro _ (And.intro (And.intro rfl rfl) ?_)) |fail
      refine W_loop_st (fun i : Nat => [(1, .ip (eCfg c) 0), (4, .int .i64 i)]) (fun _ => σ) (fun i => i ≤ c.maps.length ∧ ∀ x, x ∈ c.maps.take i → MapD.S x) (fun i => c.maps.length - i) 0 ⟨Nat.zero_le _, fun x hx => by simp at hx⟩ (Env.Sub_of_has (by simp [Env.Has, Env.get, eCfg])) (Store.Sub.refl _) ?_
      rintro i ⟨hi, hor⟩
      by_cases hlt : i < c.maps.length
      · obtain ⟨x, hx⟩ : ∃ x, c.maps.getD i default = x := ⟨_, rfl⟩
        by_cases hs : x.S0
        · have hs' := hs
          obtain ⟨p1, p2⟩ := hs
          repeat' first |refine s1 ?_|refine gS ?_|refine wT rfl ?_|refine wF rfl ?_|refine wt rfl ?_|refine wf rfl ?_|(refine wC rfl (fun h=>?_) (fun h=>?_)<;>(try contradiction))|((first|refine rd ?_|refine ry [] c0 fun nu _ _=>?_);simp -dsimp (disch:=omega) only[go_sem,hx])|refine e0 (by decide) ?_|(refine And.intro ?_ ?_;omega)|refine And.intro (of_eq_true PutAt_put) ?_|refine gT ?_|refine gF ?_|(refine gI (fun h=>?_) (fun h=>?_)<;>(try contradiction)<;>(try refine rd ?_)<;>(try simp -dsimp (disch:=omega) only[go_sem,h,hx]))|refine Exists.intro _ (Exists.intro _ (And.intro (And.intro rfl rfl) ?_)) |fail
          refine W_loop_st (fun j : Nat => [(1, .ip (eCfg c) 0), (4, .int .i64 i), (5, .int .i64 j)]) (fun _ => σ) (fun j => j ≤ x.l.length ∧ ∀ y, y ∈ x.l.take j → Cls.S y) (fun j => x.l.length - j) 0 ⟨Nat.zero_le _, fun x hx => by simp at hx⟩ (Env.Sub_of_has (by simp [Env.Has, Env.get, eCfg])) (Store.Sub.refl _) ?_
          rintro j ⟨hj, hoj⟩
          by_cases hlj : j < x.l.length
          · obtain ⟨y, hy⟩ : ∃ y, x.l.getD j default = y := ⟨_, rfl⟩
            by_cases hs : y.S
            · obtain ⟨u1, u2, u3, u4, u5⟩ := hs
              repeat' first |((fail_if_success (first|show W _ _ (Code.seq (Code.region 17 _ _) _) _ _ _|show W _ _ (Code.seq (Code.seq (Code.region 17 _ _) _) _) _ _ _));refine s1 ?_)|refine gS ?_|refine wT rfl ?_|refine wF rfl ?_|refine wt rfl ?_|refine wf rfl ?_|(refine wC rfl (fun h=>?_) (fun h=>?_)<;>(try contradiction))|((fail_if_success (first|show W _ _ (Code.region 17 _ _) _ _ _));(first|refine rd ?_|refine ry [] c0 fun nu _ _=>?_);simp -dsimp (disch:=omega) only[go_sem,hx, hy])|refine e0 (by decide) ?_|(refine And.intro ?_ ?_;omega)|refine And.intro (of_eq_true PutAt_put) ?_|refine gT ?_|refine gF ?_|(refine gI (fun h=>?_) (fun h=>?_)<;>(try contradiction)<;>(try refine rd ?_)<;>(try simp -dsimp (disch:=omega) only[go_sem,h,hx, hy]))|refine Exists.intro _ (Exists.intro _ (And.intro (And.intro rfl rfl) ?_)) |fail
              intro o1 ho1
              repeat' first |refine s1 ?_|refine gS ?_|refine wT rfl ?_|refine wF rfl ?_|refine wt rfl ?_|refine wf rfl ?_|(refine wC rfl (fun h=>?_) (fun h=>?_)<;>(try contradiction))|((first|refine rd ?_|refine ry [] c0 fun nu _ _=>?_);simp -dsimp (disch:=omega) only[go_sem,hx, hy])|refine e0 (by decide) ?_|(refine And.intro ?_ ?_;omega)|refine And.intro (of_eq_true PutAt_put) ?_|refine gT ?_|refine gF ?_|(refine gI (fun h=>?_) (fun h=>?_)<;>(try contradiction)<;>(try refine rd ?_)<;>(try simp -dsimp (disch:=omega) only[go_sem,h,hx, hy]))|refine Exists.intro _ (Exists.intro _ (And.intro (And.intro rfl rfl) ?_)) |fail
              exact ⟨j + 1, by omega, ⟨by omega, take_all hlj hoj (hy ▸ ⟨u1, u2, u3, u4, u5⟩)⟩, Env.Sub_of_has (by simp [Env.Has, Env.get, eCfg]), Sub_put (Store.Sub.refl _) ho1 _⟩
            · unfold Cls.S at hs
              repeat' first |((fail_if_success (first|show W _ _ (Code.seq (Code.region 17 _ _) _) _ _ _|show W _ _ (Code.seq (Code.seq (Code.region 17 _ _) _) _) _ _ _));refine s1 ?_)|refine gS ?_|refine wT rfl ?_|refine wF rfl ?_|refine wt rfl ?_|refine wf rfl ?_|(refine wC rfl (fun h=>?_) (fun h=>?_)<;>(try contradiction))|((fail_if_success (first|show W _ _ (Code.region 17 _ _) _ _ _));(first|refine rd ?_|refine ry [] c0 fun nu _ _=>?_);simp -dsimp (disch:=omega) only[go_sem,hx, hy])|refine e0 (by decide) ?_|(refine And.intro ?_ ?_;omega)|refine And.intro (of_eq_true PutAt_put) ?_|refine gT ?_|refine gF ?_|(refine gI (fun h=>?_) (fun h=>?_)<;>(try contradiction)<;>(try refine rd ?_)<;>(try simp -dsimp (disch:=omega) only[go_sem,h,hx, hy]))|refine Exists.intro _ (Exists.intro _ (And.intro (And.intro rfl rfl) ?_)) |fail
              intro o1 ho1
              repeat' first |((fail_if_success (first|show W _ _ (Code.seq (Code.region 15 _ _) _) _ _ _|show W _ _ (Code.seq (Code.seq (Code.region 15 _ _) _) _) _ _ _));refine s1 ?_)|refine gS ?_|refine wT rfl ?_|refine wF rfl ?_|refine wt rfl ?_|refine wf rfl ?_|(refine wC rfl (fun h=>?_) (fun h=>?_)<;>(try contradiction))|((fail_if_success (first|show W _ _ (Code.region 15 _ _) _ _ _));(first|refine rd ?_|refine ry [] c0 fun nu _ _=>?_);simp -dsimp (disch:=omega) only[go_sem,hx, hy])|refine e0 (by decide) ?_|(refine And.intro ?_ ?_;omega)|refine And.intro (of_eq_true PutAt_put) ?_|refine gT ?_|refine gF ?_|(refine gI (fun h=>?_) (fun h=>?_)<;>(try contradiction)<;>(try refine rd ?_)<;>(try simp -dsimp (disch:=omega) only[go_sem,h,hx, hy]))|refine Exists.intro _ (Exists.intro _ (And.intro (And.intro rfl rfl) ?_)) |fail
              all_goals first | exact Sub_put (Store.Sub.refl _) ho1 _ | exact ⟨_, Sub_put (Store.Sub.refl _) ho1 _, rfl⟩ | exact ⟨_, Sub_put (Store.Sub.refl _) ho1 _, .inl rfl, rfl⟩
          · have hj' : j = x.l.length := by omega
            subst hj'
            rw [List.take_length] at hoj
            repeat' first |refine s1 ?_|refine gS ?_|refine wT rfl ?_|refine wF rfl ?_|refine wt rfl ?_|refine wf rfl ?_|(refine wC rfl (fun h=>?_) (fun h=>?_)<;>(try contradiction))|((first|refine rd ?_|refine ry [] c0 fun nu _ _=>?_);simp -dsimp (disch:=omega) only[go_sem,hx])|refine e0 (by decide) ?_|(refine And.intro ?_ ?_;omega)|refine And.intro (of_eq_true PutAt_put) ?_|refine gT ?_|refine gF ?_|(refine gI (fun h=>?_) (fun h=>?_)<;>(try contradiction)<;>(try refine rd ?_)<;>(try simp -dsimp (disch:=omega) only[go_sem,h,hx]))|refine Exists.intro _ (Exists.intro _ (And.intro (And.intro rfl rfl) ?_)) |fail
            exact ⟨i + 1, by omega, ⟨by omega, take_all hlt hor (hx ▸ ⟨hs', hoj⟩)⟩, Env.Sub_of_has (by simp [Env.Has, Env.get, eCfg]), Store.Sub.refl _⟩
        · unfold MapD.S0 at hs
          repeat' first |((fail_if_success (first|show W _ _ (Code.seq (Code.region 13 _ _) _) _ _ _|show W _ _ (Code.seq (Code.seq (Code.region 13 _ _) _) _) _ _ _));refine s1 ?_)|refine gS ?_|refine wT rfl ?_|refine wF rfl ?_|refine wt rfl ?_|refine wf rfl ?_|(refine wC rfl (fun h=>?_) (fun h=>?_)<;>(try contradiction))|((fail_if_success (first|show W _ _ (Code.region 13 _ _) _ _ _));(first|refine rd ?_|refine ry [] c0 fun nu _ _=>?_);simp -dsimp (disch:=omega) only[go_sem,hx])|refine e0 (by decide) ?_|(refine And.intro ?_ ?_;omega)|refine And.intro (of_eq_true PutAt_put) ?_|refine gT ?_|refine gF ?_|(refine gI (fun h=>?_) (fun h=>?_)<;>(try contradiction)<;>(try refine rd ?_)<;>(try simp -dsimp (disch:=omega) only[go_sem,h,hx]))|refine Exists.intro _ (Exists.intro _ (And.intro (And.intro rfl rfl) ?_)) |fail
          all_goals first | exact ⟨_, Store.Sub.refl _, rfl⟩ | exact ⟨_, Store.Sub.refl _, .inl rfl, rfl⟩ | exact Store.Sub.refl _
      · have hi' : i = c.maps.length := by omega
        subst hi'
        rw [List.take_length] at hor
        have hM := hor
        clear hor
        repeat' first |refine s1 ?_|refine gS ?_|refine wT rfl ?_|refine wF rfl ?_|refine wt rfl ?_|refine wf rfl ?_|(refine wC rfl (fun h=>?_) (fun h=>?_)<;>(try contradiction))|((first|refine rd ?_|refine ry [] c0 fun nu _ _=>?_);simp -dsimp (disch:=omega) only[go_sem])|refine e0 (by decide) ?_|(refine And.intro ?_ ?_;omega)|refine And.intro (of_eq_true PutAt_put) ?_|refine gT ?_|refine gF ?_|(refine gI (fun h=>?_) (fun h=>?_)<;>(try contradiction)<;>(try refine rd ?_)<;>(try simp -dsimp (disch:=omega) only[go_sem,h]))|refine Exists.intro _ (Exists.intro _ (And.intro (And.intro rfl rfl) ?_)) |fail
        refine W_loop_st (fun i : Nat => [(1, .ip (eCfg c) 0), (7, .int .i64 i)]) (fun _ => σ) (fun i => i ≤ c.routers.length ∧ ∀ x, x ∈ c.routers.take i → Rtr.S x) (fun i => c.routers.length - i) 0 ⟨Nat.zero_le _, fun x hx => by simp at hx⟩ (Env.Sub_of_has (by simp [Env.Has, Env.get, eCfg])) (Store.Sub.refl _) ?_
        rintro i ⟨hi, hor⟩
        by_cases hlt : i < c.routers.length
        · obtain ⟨x, hx⟩ : ∃ x, c.routers.getD i default = x := ⟨_, rfl⟩
          repeat' first |((fail_if_success (first|show W _ _ (Code.seq (Code.region 23 _ _) _) _ _ _|show W _ _ (Code.seq (Code.seq (Code.region 23 _ _) _) _) _ _ _));refine s1 ?_)|refine gS ?_|refine wT rfl ?_|refine wF rfl ?_|refine wt rfl ?_|refine wf rfl ?_|(refine wC rfl (fun h=>?_) (fun h=>?_)<;>(try contradiction))|((fail_if_success (first|show W _ _ (Code.region 23 _ _) _ _ _));(first|refine rd ?_|refine ry [] c0 fun nu _ _=>?_);simp -dsimp (disch:=omega) only[go_sem,hx])|refine e0 (by decide) ?_|(refine And.intro ?_ ?_;omega)|refine And.intro (of_eq_true PutAt_put) ?_|refine gT ?_|refine gF ?_|(refine gI (fun h=>?_) (fun h=>?_)<;>(try contradiction)<;>(try refine rd ?_)<;>(try simp -dsimp (disch:=omega) only[go_sem,h,hx]))|refine Exists.intro _ (Exists.intro _ (And.intro (And.intro rfl rfl) ?_)) |fail
          intro o1 ho1
          repeat' first |((fail_if_success (first|show W _ _ (Code.seq (Code.region 23 _ _) _) _ _ _|show W _ _ (Code.seq (Code.seq (Code.region 23 _ _) _) _) _ _ _));refine s1 ?_)|refine gS ?_|refine wT rfl ?_|refine wF rfl ?_|refine wt rfl ?_|refine wf rfl ?_|(refine wC rfl (fun h=>?_) (fun h=>?_)<;>(try contradiction))|((fail_if_success (first|show W _ _ (Code.region 23 _ _) _ _ _));(first|refine rd ?_|refine ry [] c0 fun nu _ _=>?_);simp -dsimp (disch:=omega) only[go_sem,hx])|refine e0 (by decide) ?_|(refine And.intro ?_ ?_;omega)|refine And.intro (of_eq_true PutAt_put) ?_|refine gT ?_|refine gF ?_|(refine gI (fun h=>?_) (fun h=>?_)<;>(try contradiction)<;>(try refine rd ?_)<;>(try simp -dsimp (disch:=omega) only[go_sem,h,hx]))|refine Exists.intro _ (Exists.intro _ (And.intro (And.intro rfl rfl) ?_)) |fail
          by_cases hs : x.S
          · obtain ⟨p1, p2, p3, p4⟩ := hs
            repeat' first |((fail_if_success (first|show W _ _ (Code.seq (Code.region 26 _ _) _) _ _ _|show W _ _ (Code.seq (Code.seq (Code.region 26 _ _) _) _) _ _ _));refine s1 ?_)|refine gS ?_|refine wT rfl ?_|refine wF rfl ?_|refine wt rfl ?_|refine wf rfl ?_|(refine wC rfl (fun h=>?_) (fun h=>?_)<;>(try contradiction))|((fail_if_success (first|show W _ _ (Code.region 26 _ _) _ _ _));(first|refine rd ?_|refine ry [] c0 fun nu _ _=>?_);simp -dsimp (disch:=omega) only[go_sem,hx])|refine e0 (by decide) ?_|(refine And.intro ?_ ?_;omega)|refine And.intro (of_eq_true PutAt_put) ?_|refine gT ?_|refine gF ?_|(refine gI (fun h=>?_) (fun h=>?_)<;>(try contradiction)<;>(try refine rd ?_)<;>(try simp -dsimp (disch:=omega) only[go_sem,h,hx]))|refine Exists.intro _ (Exists.intro _ (And.intro (And.intro rfl rfl) ?_)) |fail
            refine W_loop_st (fun j : Nat => [(1, .ip (eCfg c) 0), (7, .int .i64 i), (8, .ptr o1 0 0), (9, .int .i64 j)]) (fun _ => σ.put o1 (.arr 59 [eRtr x])) (fun j => j ≤ x.nbrs.length) (fun j => x.nbrs.length - j) 0 (Nat.zero_le _) (Env.Sub_of_has (by simp [Env.Has, Env.get, eCfg])) (sub_eq (by simp [eRtr])) ?_
            rintro j hj
            by_cases hlj : j < x.nbrs.length
            · skip
              repeat' first |refine s1 ?_|refine gS ?_|refine wT rfl ?_|refine wF rfl ?_|refine wt rfl ?_|refine wf rfl ?_|(refine wC rfl (fun h=>?_) (fun h=>?_)<;>(try contradiction))|((first|refine rd ?_|refine ry (id:=28) [] (cq [1,5,8,12,16,20]) fun nu _ _=>?_|refine ry [] c0 fun nu _ _=>?_);simp -dsimp (disch:=omega) only[go_sem,eRtr])|refine e0 (by decide) ?_|(refine And.intro ?_ ?_;omega)|refine And.intro (of_eq_true PutAt_put) ?_|refine gT ?_|refine gF ?_|(refine gI (fun h=>?_) (fun h=>?_)<;>(try contradiction)<;>(try refine rd ?_)<;>(try simp -dsimp (disch:=omega) only[go_sem,h,eRtr]))|refine Exists.intro _ (Exists.intro _ (And.intro (And.intro rfl rfl) ?_)) |fail
              · first | exact Sub_put (Store.Sub.refl _) ho1 _ | exact ⟨_, Sub_put (Store.Sub.refl _) ho1 _, rfl⟩ | exact ⟨_, Sub_put (Store.Sub.refl _) ho1 _, .inl rfl, rfl⟩
              · exact ⟨j + 1, by omega, (by omega), Env.Sub_of_has (by simp [Env.Has, Env.get, eCfg]), Store.Sub.refl _⟩
            · have hj' : j = x.nbrs.length := by omega
              subst hj'
              repeat' first |refine s1 ?_|refine gS ?_|refine wT rfl ?_|refine wF rfl ?_|refine wt rfl ?_|refine wf rfl ?_|(refine wC rfl (fun h=>?_) (fun h=>?_)<;>(try contradiction))|((first|refine rd ?_|refine ry [] c0 fun nu _ _=>?_);simp -dsimp (disch:=omega) only[go_sem,eRtr])|refine e0 (by decide) ?_|(refine And.intro ?_ ?_;omega)|refine And.intro (of_eq_true PutAt_put) ?_|refine gT ?_|refine gF ?_|(refine gI (fun h=>?_) (fun h=>?_)<;>(try contradiction)<;>(try refine rd ?_)<;>(try simp -dsimp (disch:=omega) only[go_sem,h,eRtr]))|refine Exists.intro _ (Exists.intro _ (And.intro (And.intro rfl rfl) ?_)) |fail
              refine W_loop_st (fun j : Nat => [(1, .ip (eCfg c) 0), (7, .int .i64 i), (8, .ptr o1 0 0), (10, .int .i64 j)]) (fun _ => σ.put o1 (.arr 59 [eRtr x])) (fun j => j ≤ x.links.length) (fun j => x.links.length - j) 0 (Nat.zero_le _) (Env.Sub_of_has (by simp [Env.Has, Env.get, eCfg])) (sub_eq (by simp [eRtr])) ?_
              rintro j hj
              by_cases hlj : j < x.links.length
              · skip
                repeat' first |refine s1 ?_|refine gS ?_|refine wT rfl ?_|refine wF rfl ?_|refine wt rfl ?_|refine wf rfl ?_|(refine wC rfl (fun h=>?_) (fun h=>?_)<;>(try contradiction))|((first|refine rd ?_|refine ry (id:=28) [] (cq [1,5,8,12,16,20]) fun nu _ _=>?_|refine ry [] c0 fun nu _ _=>?_);simp -dsimp (disch:=omega) only[go_sem,eRtr])|refine e0 (by decide) ?_|(refine And.intro ?_ ?_;omega)|refine And.intro (of_eq_true PutAt_put) ?_|refine gT ?_|refine gF ?_|(refine gI (fun h=>?_) (fun h=>?_)<;>(try contradiction)<;>(try refine rd ?_)<;>(try simp -dsimp (disch:=omega) only[go_sem,h,eRtr]))|refine Exists.intro _ (Exists.intro _ (And.intro (And.intro rfl rfl) ?_)) |fail
                · first | exact Sub_put (Store.Sub.refl _) ho1 _ | exact ⟨_, Sub_put (Store.Sub.refl _) ho1 _, rfl⟩ | exact ⟨_, Sub_put (Store.Sub.refl _) ho1 _, .inl rfl, rfl⟩
                · exact ⟨j + 1, by omega, (by omega), Env.Sub_of_has (by simp [Env.Has, Env.get, eCfg]), Store.Sub.refl _⟩
              · have hj' : j = x.links.length := by omega
                subst hj'
                repeat' first |refine s1 ?_|refine gS ?_|refine wT rfl ?_|refine wF rfl ?_|refine wt rfl ?_|refine wf rfl ?_|(refine wC rfl (fun h=>?_) (fun h=>?_)<;>(try contradiction))|((first|refine rd ?_|refine ry [] c0 fun nu _ _=>?_);simp -dsimp (disch:=omega) only[go_sem,eRtr])|refine e0 (by decide) ?_|(refine And.intro ?_ ?_;omega)|refine And.intro (of_eq_true PutAt_put) ?_|refine gT ?_|refine gF ?_|(refine gI (fun h=>?_) (fun h=>?_)<;>(try contradiction)<;>(try refine rd ?_)<;>(try simp -dsimp (disch:=omega) only[go_sem,h,eRtr]))|refine Exists.intro _ (Exists.intro _ (And.intro (And.intro rfl rfl) ?_)) |fail
                exact ⟨i + 1, by omega, ⟨by omega, take_all hlt hor (hx ▸ ⟨p1, p2, p3, p4⟩)⟩, Env.Sub_of_has (by simp [Env.Has, Env.get, eCfg]), Sub_put (Store.Sub.refl _) ho1 _⟩
          · unfold Rtr.S at hs
            repeat' first |((fail_if_success (first|show W _ _ (Code.seq (Code.region 25 _ _) _) _ _ _|show W _ _ (Code.seq (Code.seq (Code.region 25 _ _) _) _) _ _ _));refine s1 ?_)|refine gS ?_|refine wT rfl ?_|refine wF rfl ?_|refine wt rfl ?_|refine wf rfl ?_|(refine wC rfl (fun h=>?_) (fun h=>?_)<;>(try contradiction))|((fail_if_success (first|show W _ _ (Code.region 25 _ _) _ _ _));(first|refine rd ?_|refine ry [] c0 fun nu _ _=>?_);simp -dsimp (disch:=omega) only[go_sem,hx])|refine e0 (by decide) ?_|(refine And.intro ?_ ?_;omega)|refine And.intro (of_eq_true PutAt_put) ?_|refine gT ?_|refine gF ?_|(refine gI (fun h=>?_) (fun h=>?_)<;>(try contradiction)<;>(try refine rd ?_)<;>(try simp -dsimp (disch:=omega) only[go_sem,h,hx]))|refine Exists.intro _ (Exists.intro _ (And.intro (And.intro rfl rfl) ?_)) |fail
            all_goals first | exact Sub_put (Store.Sub.refl _) ho1 _ | exact ⟨_, Sub_put (Store.Sub.refl _) ho1 _, rfl⟩ | exact ⟨_, Sub_put (Store.Sub.refl _) ho1 _, .inl rfl, rfl⟩
        · have hi' : i = c.routers.length := by omega
          subst hi'
          rw [List.take_length] at hor
          repeat' first |refine s1 ?_|refine gS ?_|refine wT rfl ?_|refine wF rfl ?_|refine wt rfl ?_|refine wf rfl ?_|(refine wC rfl (fun h=>?_) (fun h=>?_)<;>(try contradiction))|((first|refine rd ?_|refine ry [] c0 fun nu _ _=>?_);simp -dsimp (disch:=omega) only[go_sem])|refine e0 (by decide) ?_|(refine And.intro ?_ ?_;omega)|refine And.intro (of_eq_true PutAt_put) ?_|refine gT ?_|refine gF ?_|(refine gI (fun h=>?_) (fun h=>?_)<;>(try contradiction)<;>(try refine rd ?_)<;>(try simp -dsimp (disch:=omega) only[go_sem,h]))|refine Exists.intro _ (Exists.intro _ (And.intro (And.intro rfl rfl) ?_)) |fail
          first | exact ⟨⟨l1, l2, l3⟩, hL, hM, hor⟩ | exact ⟨_, Store.Sub.refl _, ⟨⟨l1, l2, l3⟩, hL, hM, hor⟩, rfl⟩ | exact ⟨_, Store.Sub.refl _, .inr ⟨⟨l1, l2, l3⟩, hL, hM, hor⟩, rfl⟩ | exact .inr ⟨⟨l1, l2, l3⟩, hL, hM, hor⟩ | exact ⟨_, Store.Sub.refl _, .inr ⟨rfl, ⟨l1, l2, l3⟩, hL, hM, hor⟩, rfl⟩
  · skip
    repeat' first |((fail_if_success (first|show W _ _ (Code.seq (Code.region 3 _ _) _) _ _ _|show W _ _ (Code.seq (Code.seq (Code.region 3 _ _) _) _) _ _ _));refine s1 ?_)|refine gS ?_|refine wT rfl ?_|refine wF rfl ?_|refine wt rfl ?_|refine wf rfl ?_|(refine wC rfl (fun h=>?_) (fun h=>?_)<;>(try contradiction))|((fail_if_success (first|show W _ _ (Code.region 3 _ _) _ _ _));(first|refine rd ?_|refine ry [] c0 fun nu _ _=>?_);simp -dsimp (disch:=omega) only[go_sem])|refine e0 (by decide) ?_|(refine And.intro ?_ ?_;omega)|refine And.intro (of_eq_true PutAt_put) ?_|refine gT ?_|refine gF ?_|(refine gI (fun h=>?_) (fun h=>?_)<;>(try contradiction)<;>(try refine rd ?_)<;>(try simp -dsimp (disch:=omega) only[go_sem,h]))|refine Exists.intro _ (Exists.intro _ (And.intro (And.intro rfl rfl) ?_)) |fail
    all_goals first | exact ⟨_, Store.Sub.refl _, rfl⟩ | exact ⟨_, Store.Sub.refl _, .inl rfl, rfl⟩
end Go.Proofs.YtaealcimocpnnaaGreat
namespace Go.Proofs.YtaealcimocpnnaaGreat
open Go.Kern Go.RowKit
set_option maxRecDepth 100000
set_option maxHeartbeats 4000000
attribute [local irreducible] PCall W
theorem namesLst (c : Cfg) (hl : c.lists.length ≤ 1000) (h1 : c.lists.length < 4611686018427387904) (h2 : c.maps.length < 4611686018427387904) (h3 : c.routers.length < 4611686018427387904) (σ : Store) :
    PCall Tryz.prog 12 [eCfg c, .int .i64 0] σ (fun r t => (∃ k, r = .sl k (encL AV.str (c.lists.map (·.name)))) ∧ t = σ) := by
  obtain ⟨f, hf⟩ : ∃ f : LstD → ByteArray, f = fun x => x.name := ⟨_, rfl⟩
  rw [show c.lists.map (·.name) = c.lists.map f from by rw [hf]]
  refine PCall_w [.tmp 4] 70 Tryz.func12 (by rfl) rfl rfl rfl rfl ?_
  repeat' first |refine s1 ?_|refine gS ?_|refine wT rfl ?_|refine wF rfl ?_|refine wt rfl ?_|refine wf rfl ?_|(refine wC rfl (fun h=>?_) (fun h=>?_)<;>(try contradiction))|((first|refine rd ?_|refine ry [] c0 fun nu _ _=>?_);simp -dsimp (disch:=omega) only[go_sem])|refine e0 (by decide) ?_|(refine And.intro ?_ ?_;omega)|refine And.intro (of_eq_true PutAt_put) ?_|refine gT ?_|refine gF ?_|(refine gI (fun h=>?_) (fun h=>?_)<;>(try contradiction)<;>(try refine rd ?_)<;>(try simp -dsimp (disch:=omega) only[go_sem,h]))|refine Exists.intro _ (Exists.intro _ (And.intro (And.intro rfl rfl) ?_)) |fail
  refine W_loop_st (fun x : Nat × Nat => [(1, .int .i64 0), (2, .ip (eCfg c) 0), (5, .sl (outK x.1 x.2) (encL AV.str ((c.lists.map f).take x.1))), (6, .int .i64 x.1)]) (fun x => outS σ 9 x.1 x.2) (fun x => x.1 ≤ c.lists.length ∧ (x.1 = 0 ∨ σ x.2 = none)) (fun x => c.lists.length - x.1) (0, 0) ⟨Nat.zero_le _, .inl rfl⟩ (Env.Sub_of_has (by simp [Env.Has, Env.get, outK, encL, eCfg])) (Store.Sub.refl _) ?_
  rintro ⟨i, o⟩ ⟨hi, ho⟩
  simp only at hi ho
  by_cases hlt : i < c.lists.length
  · have hstep := out_step f hlt
    have hlen : (encL AV.str ((c.lists.map f).take i)).length = i := by rw [length_encL, List.length_take, List.length_map]; omega
    have hrow : rowsOk 1 (encL AV.str ((c.lists.map f).take i)) = true := ok_encL 1 AV.str (fun _ => rfl) _
    have hfx : f (c.lists.getD i default) = (c.lists.getD i default).name := by rw [hf]
    rw [hfx] at hstep
    by_cases h0 : i = 0
    · subst h0
      have q0 : encL AV.str ((c.lists.map f).take 0) = [] := rfl
      simp only [outK, outS, if_pos, q0] at hstep ⊢
      repeat' first |refine s1 ?_|refine gS ?_|refine wT rfl ?_|refine wF rfl ?_|refine wt rfl ?_|refine wf rfl ?_|(refine wC rfl (fun h=>?_) (fun h=>?_)<;>(try contradiction))|((first|refine rd ?_|refine ry [] c0 fun nu _ _=>?_);simp -dsimp (disch:=omega) only[go_sem])|refine e0 (by decide) ?_|(refine And.intro ?_ ?_;omega)|refine And.intro (of_eq_true PutAt_put) ?_|refine gT ?_|refine gF ?_|(refine gI (fun h=>?_) (fun h=>?_)<;>(try contradiction)<;>(try refine rd ?_)<;>(try simp -dsimp (disch:=omega) only[go_sem,h]))|refine Exists.intro _ (Exists.intro _ (And.intro (And.intro rfl rfl) ?_)) |fail
      intro o' ho'
      repeat' first |refine s1 ?_|refine gS ?_|refine wT rfl ?_|refine wF rfl ?_|refine wt rfl ?_|refine wf rfl ?_|(refine wC rfl (fun h=>?_) (fun h=>?_)<;>(try contradiction))|((first|refine rd ?_|refine ry [] c0 fun nu _ _=>?_);simp -dsimp (disch:=omega) only[go_sem])|refine e0 (by decide) ?_|(refine And.intro ?_ ?_;omega)|refine And.intro (of_eq_true PutAt_put) ?_|refine gT ?_|refine gF ?_|(refine gI (fun h=>?_) (fun h=>?_)<;>(try contradiction)<;>(try refine rd ?_)<;>(try simp -dsimp (disch:=omega) only[go_sem,h]))|refine Exists.intro _ (Exists.intro _ (And.intro (And.intro rfl rfl) ?_)) |fail
      exact ⟨(1, o'), by simp only; omega, ⟨by simp only; omega, .inr ho'⟩, Env.Sub_of_has (by simp only [Env.Has, Env.get, outK]; simp [hstep, eCfg]), Store.Sub.refl _⟩
    · have hs1 : outS σ 9 i o = σ.put o (.tip i 9 1) := by simp [outS, h0]
      have hk1 : outK i o = .tip o := by simp [outK, h0]
      have hs2 : outS σ 9 (i + 1) o = σ.put o (.tip (i + 1) 9 1) := by simp [outS]
      have hk2 : outK (i + 1) o = .tip o := by simp [outK]
      rw [hs1, hk1]
      repeat' first |refine s1 ?_|refine gS ?_|refine wT rfl ?_|refine wF rfl ?_|refine wt rfl ?_|refine wf rfl ?_|(refine wC rfl (fun h=>?_) (fun h=>?_)<;>(try contradiction))|((first|refine rd ?_|refine ry [] c0 fun nu _ _=>?_);simp -dsimp (disch:=omega) only[go_sem,hlen, hrow])|refine e0 (by decide) ?_|(refine And.intro ?_ ?_;omega)|refine And.intro (of_eq_true PutAt_put) ?_|refine gT ?_|refine gF ?_|(refine gI (fun h=>?_) (fun h=>?_)<;>(try contradiction)<;>(try refine rd ?_)<;>(try simp -dsimp (disch:=omega) only[go_sem,h,hlen, hrow]))|refine Exists.intro _ (Exists.intro _ (And.intro (And.intro rfl rfl) ?_)) |fail
      refine ⟨(i + 1, o), by simp only; omega, ⟨by simp only; omega, .inr (ho.resolve_left h0)⟩, Env.Sub_of_has ?_, ?_⟩
      · simp only [Env.Has, Env.get, hk2, hstep]; simp [eCfg]
      · simp only [hs2, List.length_append, hlen, List.length_cons, List.length_nil, Nat.zero_add]; exact Store.Sub.refl _
  · have hi' : i = c.lists.length := by omega
    subst hi'
    have htk : (c.lists.map f).take c.lists.length = c.lists.map f := List.take_of_length_le (by simp)
    simp only [htk]
    have hsub : σ.Sub (outS σ 9 c.lists.length o) := by
      unfold outS
      split
      · exact Store.Sub.refl _
      · rename_i hne
        exact Sub_put (Store.Sub.refl _) (ho.resolve_left hne) _
    refine W_weaken (ρ' := [(1, .int .i64 0), (2, .ip (eCfg c) 0), (5, .sl (outK c.lists.length o) (encL AV.str (c.lists.map f))), (6, .int .i64 c.lists.length)]) (σ' := σ) (Env.Sub_of_has (by simp [Env.Has, Env.get, eCfg])) hsub ?_
    repeat' first |((fail_if_success (first|show W _ _ (Code.seq (Code.region 6 _ _) _) _ _ _|show W _ _ (Code.seq (Code.seq (Code.region 6 _ _) _) _) _ _ _));refine s1 ?_)|refine gS ?_|refine wT rfl ?_|refine wF rfl ?_|refine wt rfl ?_|refine wf rfl ?_|(refine wC rfl (fun h=>?_) (fun h=>?_)<;>(try contradiction))|((fail_if_success (first|show W _ _ (Code.region 6 _ _) _ _ _));(first|refine rd ?_|refine ry [] c0 fun nu _ _=>?_);simp -dsimp (disch:=omega) only[go_sem])|refine e0 (by decide) ?_|(refine And.intro ?_ ?_;omega)|refine And.intro (of_eq_true PutAt_put) ?_|refine gT ?_|refine gF ?_|(refine gI (fun h=>?_) (fun h=>?_)<;>(try contradiction)<;>(try refine rd ?_)<;>(try simp -dsimp (disch:=omega) only[go_sem,h]))|refine Exists.intro _ (Exists.intro _ (And.intro (And.intro rfl rfl) ?_)) |fail
    refine W_mid [(1, .int .i64 0), (2, .ip (eCfg c) 0), (5, .sl (outK c.lists.length o) (encL AV.str (c.lists.map f)))] (σ) ?_ ?_
    · skip
      repeat' first |refine s1 ?_|refine gS ?_|refine wT rfl ?_|refine wF rfl ?_|refine wt rfl ?_|refine wf rfl ?_|(refine wC rfl (fun h=>?_) (fun h=>?_)<;>(try contradiction))|((first|refine rd ?_|refine ry [] c0 fun nu _ _=>?_);simp -dsimp (disch:=omega) only[go_sem])|refine e0 (by decide) ?_|(refine And.intro ?_ ?_;omega)|refine And.intro (of_eq_true PutAt_put) ?_|refine gT ?_|refine gF ?_|(refine gI (fun h=>?_) (fun h=>?_)<;>(try contradiction)<;>(try refine rd ?_)<;>(try simp -dsimp (disch:=omega) only[go_sem,h]))|refine Exists.intro _ (Exists.intro _ (And.intro (And.intro rfl rfl) ?_)) |fail
      refine W_loop_st (fun _ : Unit => [(1, .int .i64 0), (2, .ip (eCfg c) 0), (5, .sl (outK c.lists.length o) (encL AV.str (c.lists.map f))), (7, .int .i64 0)]) (fun _ => σ) (fun _ => True) (fun _ => 0) () trivial (Env.Sub_of_has (by simp [Env.Has, Env.get, eCfg])) (Store.Sub.refl _) ?_
      intro _ _
      repeat' first |refine s1 ?_|refine gS ?_|refine wT rfl ?_|refine wF rfl ?_|refine wt rfl ?_|refine wf rfl ?_|(refine wC rfl (fun h=>?_) (fun h=>?_)<;>(try contradiction))|((first|refine rd ?_|refine ry [] c0 fun nu _ _=>?_);simp -dsimp (disch:=omega) only[go_sem])|refine e0 (by decide) ?_|(refine And.intro ?_ ?_;omega)|refine And.intro (of_eq_true PutAt_put) ?_|refine gT ?_|refine gF ?_|(refine gI (fun h=>?_) (fun h=>?_)<;>(try contradiction)<;>(try refine rd ?_)<;>(try simp -dsimp (disch:=omega) only[go_sem,h]))|refine Exists.intro _ (Exists.intro _ (And.intro (And.intro rfl rfl) ?_)) |fail
      all_goals exact ⟨Env.Sub_of_has (by simp [Env.Has, Env.get, eCfg]), Store.Sub.refl _⟩
    repeat' first |((fail_if_success (first|show W _ _ (Code.seq (Code.region 10 _ _) _) _ _ _|show W _ _ (Code.seq (Code.seq (Code.region 10 _ _) _) _) _ _ _));refine s1 ?_)|refine gS ?_|refine wT rfl ?_|refine wF rfl ?_|refine wt rfl ?_|refine wf rfl ?_|(refine wC rfl (fun h=>?_) (fun h=>?_)<;>(try contradiction))|((fail_if_success (first|show W _ _ (Code.region 10 _ _) _ _ _));(first|refine rd ?_|refine ry [] c0 fun nu _ _=>?_);simp -dsimp (disch:=omega) only[go_sem])|refine e0 (by decide) ?_|(refine And.intro ?_ ?_;omega)|refine And.intro (of_eq_true PutAt_put) ?_|refine gT ?_|refine gF ?_|(refine gI (fun h=>?_) (fun h=>?_)<;>(try contradiction)<;>(try refine rd ?_)<;>(try simp -dsimp (disch:=omega) only[go_sem,h]))|refine Exists.intro _ (Exists.intro _ (And.intro (And.intro rfl rfl) ?_)) |fail
    refine W_mid [(1, .int .i64 0), (2, .ip (eCfg c) 0), (5, .sl (outK c.lists.length o) (encL AV.str (c.lists.map f)))] (σ) ?_ ?_
    · skip
      repeat' first |refine s1 ?_|refine gS ?_|refine wT rfl ?_|refine wF rfl ?_|refine wt rfl ?_|refine wf rfl ?_|(refine wC rfl (fun h=>?_) (fun h=>?_)<;>(try contradiction))|((first|refine rd ?_|refine ry [] c0 fun nu _ _=>?_);simp -dsimp (disch:=omega) only[go_sem])|refine e0 (by decide) ?_|(refine And.intro ?_ ?_;omega)|refine And.intro (of_eq_true PutAt_put) ?_|refine gT ?_|refine gF ?_|(refine gI (fun h=>?_) (fun h=>?_)<;>(try contradiction)<;>(try refine rd ?_)<;>(try simp -dsimp (disch:=omega) only[go_sem,h]))|refine Exists.intro _ (Exists.intro _ (And.intro (And.intro rfl rfl) ?_)) |fail
      refine W_loop_st (fun _ : Unit => [(1, .int .i64 0), (2, .ip (eCfg c) 0), (5, .sl (outK c.lists.length o) (encL AV.str (c.lists.map f))), (8, .int .i64 0)]) (fun _ => σ) (fun _ => True) (fun _ => 0) () trivial (Env.Sub_of_has (by simp [Env.Has, Env.get, eCfg])) (Store.Sub.refl _) ?_
      intro _ _
      repeat' first |refine s1 ?_|refine gS ?_|refine wT rfl ?_|refine wF rfl ?_|refine wt rfl ?_|refine wf rfl ?_|(refine wC rfl (fun h=>?_) (fun h=>?_)<;>(try contradiction))|((first|refine rd ?_|refine ry [] c0 fun nu _ _=>?_);simp -dsimp (disch:=omega) only[go_sem])|refine e0 (by decide) ?_|(refine And.intro ?_ ?_;omega)|refine And.intro (of_eq_true PutAt_put) ?_|refine gT ?_|refine gF ?_|(refine gI (fun h=>?_) (fun h=>?_)<;>(try contradiction)<;>(try refine rd ?_)<;>(try simp -dsimp (disch:=omega) only[go_sem,h]))|refine Exists.intro _ (Exists.intro _ (And.intro (And.intro rfl rfl) ?_)) |fail
      all_goals exact ⟨Env.Sub_of_has (by simp [Env.Has, Env.get, eCfg]), Store.Sub.refl _⟩
    repeat' first |refine s1 ?_|refine gS ?_|refine wT rfl ?_|refine wF rfl ?_|refine wt rfl ?_|refine wf rfl ?_|(refine wC rfl (fun h=>?_) (fun h=>?_)<;>(try contradiction))|((first|refine rd ?_|refine ry [] c0 fun nu _ _=>?_);simp -dsimp (disch:=omega) only[go_sem])|refine e0 (by decide) ?_|(refine And.intro ?_ ?_;omega)|refine And.intro (of_eq_true PutAt_put) ?_|refine gT ?_|refine gF ?_|(refine gI (fun h=>?_) (fun h=>?_)<;>(try contradiction)<;>(try refine rd ?_)<;>(try simp -dsimp (disch:=omega) only[go_sem,h]))|refine Exists.intro _ (Exists.intro _ (And.intro (And.intro rfl rfl) ?_)) |fail
    all_goals first | exact ⟨_, Store.Sub.refl _, ⟨_, rfl⟩, rfl⟩ | exact ⟨_, rfl⟩ | trivial
theorem namesMap (c : Cfg) (hl : c.maps.length ≤ 1000) (h1 : c.lists.length < 4611686018427387904) (h2 : c.maps.length < 4611686018427387904) (h3 : c.routers.length < 4611686018427387904) (σ : Store) :
    PCall Tryz.prog 12 [eCfg c, .int .i64 1] σ (fun r t => (∃ k, r = .sl k (encL AV.str (c.maps.map (·.name)))) ∧ t = σ) := by
  obtain ⟨f, hf⟩ : ∃ f : MapD → ByteArray, f = fun x => x.name := ⟨_, rfl⟩
  rw [show c.maps.map (·.name) = c.maps.map f from by rw [hf]]
  refine PCall_w [.tmp 4] 70 Tryz.func12 (by rfl) rfl rfl rfl rfl ?_
  repeat' first |((fail_if_success (first|show W _ _ (Code.seq (Code.region 2 _ _) _) _ _ _|show W _ _ (Code.seq (Code.seq (Code.region 2 _ _) _) _) _ _ _));refine s1 ?_)|refine gS ?_|refine wT rfl ?_|refine wF rfl ?_|refine wt rfl ?_|refine wf rfl ?_|(refine wC rfl (fun h=>?_) (fun h=>?_)<;>(try contradiction))|((fail_if_success (first|show W _ _ (Code.region 2 _ _) _ _ _));(first|refine rd ?_|refine ry [] c0 fun nu _ _=>?_);simp -dsimp (disch:=omega) only[go_sem])|refine e0 (by decide) ?_|(refine And.intro ?_ ?_;omega)|refine And.intro (of_eq_true PutAt_put) ?_|refine gT ?_|refine gF ?_|(refine gI (fun h=>?_) (fun h=>?_)<;>(try contradiction)<;>(try refine rd ?_)<;>(try simp -dsimp (disch:=omega) only[go_sem,h]))|refine Exists.intro _ (Exists.intro _ (And.intro (And.intro rfl rfl) ?_)) |fail
  refine W_mid [(1, .int .i64 1), (2, .ip (eCfg c) 0), (5, .sl .nil [])] (σ) ?_ ?_
  · skip
    repeat' first |refine s1 ?_|refine gS ?_|refine wT rfl ?_|refine wF rfl ?_|refine wt rfl ?_|refine wf rfl ?_|(refine wC rfl (fun h=>?_) (fun h=>?_)<;>(try contradiction))|((first|refine rd ?_|refine ry [] c0 fun nu _ _=>?_);simp -dsimp (disch:=omega) only[go_sem])|refine e0 (by decide) ?_|(refine And.intro ?_ ?_;omega)|refine And.intro (of_eq_true PutAt_put) ?_|refine gT ?_|refine gF ?_|(refine gI (fun h=>?_) (fun h=>?_)<;>(try contradiction)<;>(try refine rd ?_)<;>(try simp -dsimp (disch:=omega) only[go_sem,h]))|refine Exists.intro _ (Exists.intro _ (And.intro (And.intro rfl rfl) ?_)) |fail
    refine W_loop_st (fun _ : Unit => [(1, .int .i64 1), (2, .ip (eCfg c) 0), (5, .sl .nil []), (6, .int .i64 0)]) (fun _ => σ) (fun _ => True) (fun _ => 0) () trivial (Env.Sub_of_has (by simp [Env.Has, Env.get, eCfg])) (Store.Sub.refl _) ?_
    intro _ _
    repeat' first |refine s1 ?_|refine gS ?_|refine wT rfl ?_|refine wF rfl ?_|refine wt rfl ?_|refine wf rfl ?_|(refine wC rfl (fun h=>?_) (fun h=>?_)<;>(try contradiction))|((first|refine rd ?_|refine ry [] c0 fun nu _ _=>?_);simp -dsimp (disch:=omega) only[go_sem])|refine e0 (by decide) ?_|(refine And.intro ?_ ?_;omega)|refine And.intro (of_eq_true PutAt_put) ?_|refine gT ?_|refine gF ?_|(refine gI (fun h=>?_) (fun h=>?_)<;>(try contradiction)<;>(try refine rd ?_)<;>(try simp -dsimp (disch:=omega) only[go_sem,h]))|refine Exists.intro _ (Exists.intro _ (And.intro (And.intro rfl rfl) ?_)) |fail
    all_goals exact ⟨Env.Sub_of_has (by simp [Env.Has, Env.get, eCfg]), Store.Sub.refl _⟩
  repeat' first |refine s1 ?_|refine gS ?_|refine wT rfl ?_|refine wF rfl ?_|refine wt rfl ?_|refine wf rfl ?_|(refine wC rfl (fun h=>?_) (fun h=>?_)<;>(try contradiction))|((first|refine rd ?_|refine ry [] c0 fun nu _ _=>?_);simp -dsimp (disch:=omega) only[go_sem])|refine e0 (by decide) ?_|(refine And.intro ?_ ?_;omega)|refine And.intro (of_eq_true PutAt_put) ?_|refine gT ?_|refine gF ?_|(refine gI (fun h=>?_) (fun h=>?_)<;>(try contradiction)<;>(try refine rd ?_)<;>(try simp -dsimp (disch:=omega) only[go_sem,h]))|refine Exists.intro _ (Exists.intro _ (And.intro (And.intro rfl rfl) ?_)) |fail
  refine W_loop_st (fun x : Nat × Nat => [(1, .int .i64 1), (2, .ip (eCfg c) 0), (5, .sl (outK x.1 x.2) (encL AV.str ((c.maps.map f).take x.1))), (7, .int .i64 x.1)]) (fun x => outS σ 9 x.1 x.2) (fun x => x.1 ≤ c.maps.length ∧ (x.1 = 0 ∨ σ x.2 = none)) (fun x => c.maps.length - x.1) (0, 0) ⟨Nat.zero_le _, .inl rfl⟩ (Env.Sub_of_has (by simp [Env.Has, Env.get, outK, encL, eCfg])) (Store.Sub.refl _) ?_
  rintro ⟨i, o⟩ ⟨hi, ho⟩
  simp only at hi ho
  by_cases hlt : i < c.maps.length
  · have hstep := out_step f hlt
    have hlen : (encL AV.str ((c.maps.map f).take i)).length = i := by rw [length_encL, List.length_take, List.length_map]; omega
    have hrow : rowsOk 1 (encL AV.str ((c.maps.map f).take i)) = true := ok_encL 1 AV.str (fun _ => rfl) _
    have hfx : f (c.maps.getD i default) = (c.maps.getD i default).name := by rw [hf]
    rw [hfx] at hstep
    by_cases h0 : i = 0
    · subst h0
      have q0 : encL AV.str ((c.maps.map f).take 0) = [] := rfl
      simp only [outK, outS, if_pos, q0] at hstep ⊢
      repeat' first |refine s1 ?_|refine gS ?_|refine wT rfl ?_|refine wF rfl ?_|refine wt rfl ?_|refine wf rfl ?_|(refine wC rfl (fun h=>?_) (fun h=>?_)<;>(try contradiction))|((first|refine rd ?_|refine ry [] c0 fun nu _ _=>?_);simp -dsimp (disch:=omega) only[go_sem])|refine e0 (by decide) ?_|(refine And.intro ?_ ?_;omega)|refine And.intro (of_eq_true PutAt_put) ?_|refine gT ?_|refine gF ?_|(refine gI (fun h=>?_) (fun h=>?_)<;>(try contradiction)<;>(try refine rd ?_)<;>(try simp -dsimp (disch:=omega) only[go_sem,h]))|refine Exists.intro _ (Exists.intro _ (And.intro (And.intro rfl rfl) ?_)) |fail
      intro o' ho'
      repeat' first |refine s1 ?_|refine gS ?_|refine wT rfl ?_|refine wF rfl ?_|refine wt rfl ?_|refine wf rfl ?_|(refine wC rfl (fun h=>?_) (fun h=>?_)<;>(try contradiction))|((first|refine rd ?_|refine ry [] c0 fun nu _ _=>?_);simp -dsimp (disch:=omega) only[go_sem])|refine e0 (by decide) ?_|(refine And.intro ?_ ?_;omega)|refine And.intro (of_eq_true PutAt_put) ?_|refine gT ?_|refine gF ?_|(refine gI (fun h=>?_) (fun h=>?_)<;>(try contradiction)<;>(try refine rd ?_)<;>(try simp -dsimp (disch:=omega) only[go_sem,h]))|refine Exists.intro _ (Exists.intro _ (And.intro (And.intro rfl rfl) ?_)) |fail
      exact ⟨(1, o'), by simp only; omega, ⟨by simp only; omega, .inr ho'⟩, Env.Sub_of_has (by simp only [Env.Has, Env.get, outK]; simp [hstep, eCfg]), Store.Sub.refl _⟩
    · have hs1 : outS σ 9 i o = σ.put o (.tip i 9 1) := by simp [outS, h0]
      have hk1 : outK i o = .tip o := by simp [outK, h0]
      have hs2 : outS σ 9 (i + 1) o = σ.put o (.tip (i + 1) 9 1) := by simp [outS]
      have hk2 : outK (i + 1) o = .tip o := by simp [outK]
      rw [hs1, hk1]
      repeat' first |refine s1 ?_|refine gS ?_|refine wT rfl ?_|refine wF rfl ?_|refine wt rfl ?_|refine wf rfl ?_|(refine wC rfl (fun h=>?_) (fun h=>?_)<;>(try contradiction))|((first|refine rd ?_|refine ry [] c0 fun nu _ _=>?_);simp -dsimp (disch:=omega) only[go_sem,hlen, hrow])|refine e0 (by decide) ?_|(refine And.intro ?_ ?_;omega)|refine And.intro (of_eq_true PutAt_put) ?_|refine gT ?_|refine gF ?_|(refine gI (fun h=>?_) (fun h=>?_)<;>(try contradiction)<;>(try refine rd ?_)<;>(try simp -dsimp (disch:=omega) only[go_sem,h,hlen, hrow]))|refine Exists.intro _ (Exists.intro _ (And.intro (And.intro rfl rfl) ?_)) |fail
      refine ⟨(i + 1, o), by simp only; omega, ⟨by simp only; omega, .inr (ho.resolve_left h0)⟩, Env.Sub_of_has ?_, ?_⟩
      · simp only [Env.Has, Env.get, hk2, hstep]; simp [eCfg]
      · simp only [hs2, List.length_append, hlen, List.length_cons, List.length_nil, Nat.zero_add]; exact Store.Sub.refl _
  · have hi' : i = c.maps.length := by omega
    subst hi'
    have htk : (c.maps.map f).take c.maps.length = c.maps.map f := List.take_of_length_le (by simp)
    simp only [htk]
    have hsub : σ.Sub (outS σ 9 c.maps.length o) := by
      unfold outS
      split
      · exact Store.Sub.refl _
      · rename_i hne
        exact Sub_put (Store.Sub.refl _) (ho.resolve_left hne) _
    refine W_weaken (ρ' := [(1, .int .i64 1), (2, .ip (eCfg c) 0), (5, .sl (outK c.maps.length o) (encL AV.str (c.maps.map f))), (7, .int .i64 c.maps.length)]) (σ' := σ) (Env.Sub_of_has (by simp [Env.Has, Env.get, eCfg])) hsub ?_
    repeat' first |((fail_if_success (first|show W _ _ (Code.seq (Code.region 10 _ _) _) _ _ _|show W _ _ (Code.seq (Code.seq (Code.region 10 _ _) _) _) _ _ _));refine s1 ?_)|refine gS ?_|refine wT rfl ?_|refine wF rfl ?_|refine wt rfl ?_|refine wf rfl ?_|(refine wC rfl (fun h=>?_) (fun h=>?_)<;>(try contradiction))|((fail_if_success (first|show W _ _ (Code.region 10 _ _) _ _ _));(first|refine rd ?_|refine ry [] c0 fun nu _ _=>?_);simp -dsimp (disch:=omega) only[go_sem])|refine e0 (by decide) ?_|(refine And.intro ?_ ?_;omega)|refine And.intro (of_eq_true PutAt_put) ?_|refine gT ?_|refine gF ?_|(refine gI (fun h=>?_) (fun h=>?_)<;>(try contradiction)<;>(try refine rd ?_)<;>(try simp -dsimp (disch:=omega) only[go_sem,h]))|refine Exists.intro _ (Exists.intro _ (And.intro (And.intro rfl rfl) ?_)) |fail
    refine W_mid [(1, .int .i64 1), (2, .ip (eCfg c) 0), (5, .sl (outK c.maps.length o) (encL AV.str (c.maps.map f)))] (σ) ?_ ?_
    · skip
      repeat' first |refine s1 ?_|refine gS ?_|refine wT rfl ?_|refine wF rfl ?_|refine wt rfl ?_|refine wf rfl ?_|(refine wC rfl (fun h=>?_) (fun h=>?_)<;>(try contradiction))|((first|refine rd ?_|refine ry [] c0 fun nu _ _=>?_);simp -dsimp (disch:=omega) only[go_sem])|refine e0 (by decide) ?_|(refine And.intro ?_ ?_;omega)|refine And.intro (of_eq_true PutAt_put) ?_|refine gT ?_|refine gF ?_|(refine gI (fun h=>?_) (fun h=>?_)<;>(try contradiction)<;>(try refine rd ?_)<;>(try simp -dsimp (disch:=omega) only[go_sem,h]))|refine Exists.intro _ (Exists.intro _ (And.intro (And.intro rfl rfl) ?_)) |fail
      refine W_loop_st (fun _ : Unit => [(1, .int .i64 1), (2, .ip (eCfg c) 0), (5, .sl (outK c.maps.length o) (encL AV.str (c.maps.map f))), (8, .int .i64 0)]) (fun _ => σ) (fun _ => True) (fun _ => 0) () trivial (Env.Sub_of_has (by simp [Env.Has, Env.get, eCfg])) (Store.Sub.refl _) ?_
      intro _ _
      repeat' first |refine s1 ?_|refine gS ?_|refine wT rfl ?_|refine wF rfl ?_|refine wt rfl ?_|refine wf rfl ?_|(refine wC rfl (fun h=>?_) (fun h=>?_)<;>(try contradiction))|((first|refine rd ?_|refine ry [] c0 fun nu _ _=>?_);simp -dsimp (disch:=omega) only[go_sem])|refine e0 (by decide) ?_|(refine And.intro ?_ ?_;omega)|refine And.intro (of_eq_true PutAt_put) ?_|refine gT ?_|refine gF ?_|(refine gI (fun h=>?_) (fun h=>?_)<;>(try contradiction)<;>(try refine rd ?_)<;>(try simp -dsimp (disch:=omega) only[go_sem,h]))|refine Exists.intro _ (Exists.intro _ (And.intro (And.intro rfl rfl) ?_)) |fail
      all_goals exact ⟨Env.Sub_of_has (by simp [Env.Has, Env.get, eCfg]), Store.Sub.refl _⟩
    repeat' first |refine s1 ?_|refine gS ?_|refine wT rfl ?_|refine wF rfl ?_|refine wt rfl ?_|refine wf rfl ?_|(refine wC rfl (fun h=>?_) (fun h=>?_)<;>(try contradiction))|((first|refine rd ?_|refine ry [] c0 fun nu _ _=>?_);simp -dsimp (disch:=omega) only[go_sem])|refine e0 (by decide) ?_|(refine And.intro ?_ ?_;omega)|refine And.intro (of_eq_true PutAt_put) ?_|refine gT ?_|refine gF ?_|(refine gI (fun h=>?_) (fun h=>?_)<;>(try contradiction)<;>(try refine rd ?_)<;>(try simp -dsimp (disch:=omega) only[go_sem,h]))|refine Exists.intro _ (Exists.intro _ (And.intro (And.intro rfl rfl) ?_)) |fail
    all_goals first | exact ⟨_, Store.Sub.refl _, ⟨_, rfl⟩, rfl⟩ | exact ⟨_, rfl⟩ | trivial
theorem namesRtr (c : Cfg) (hl : c.routers.length ≤ 1000) (h1 : c.lists.length < 4611686018427387904) (h2 : c.maps.length < 4611686018427387904) (h3 : c.routers.length < 4611686018427387904) (σ : Store) :
    PCall Tryz.prog 12 [eCfg c, .int .i64 2] σ (fun r t => (∃ k, r = .sl k (encL AV.str (c.routers.map (·.name)))) ∧ t = σ) := by
  obtain ⟨f, hf⟩ : ∃ f : Rtr → ByteArray, f = fun x => x.name := ⟨_, rfl⟩
  rw [show c.routers.map (·.name) = c.routers.map f from by rw [hf]]
  refine PCall_w [.tmp 4] 70 Tryz.func12 (by rfl) rfl rfl rfl rfl ?_
  repeat' first |((fail_if_success (first|show W _ _ (Code.seq (Code.region 2 _ _) _) _ _ _|show W _ _ (Code.seq (Code.seq (Code.region 2 _ _) _) _) _ _ _));refine s1 ?_)|refine gS ?_|refine wT rfl ?_|refine wF rfl ?_|refine wt rfl ?_|refine wf rfl ?_|(refine wC rfl (fun h=>?_) (fun h=>?_)<;>(try contradiction))|((fail_if_success (first|show W _ _ (Code.region 2 _ _) _ _ _));(first|refine rd ?_|refine ry [] c0 fun nu _ _=>?_);simp -dsimp (disch:=omega) only[go_sem])|refine e0 (by decide) ?_|(refine And.intro ?_ ?_;omega)|refine And.intro (of_eq_true PutAt_put) ?_|refine gT ?_|refine gF ?_|(refine gI (fun h=>?_) (fun h=>?_)<;>(try contradiction)<;>(try refine rd ?_)<;>(try simp -dsimp (disch:=omega) only[go_sem,h]))|refine Exists.intro _ (Exists.intro _ (And.intro (And.intro rfl rfl) ?_)) |fail
  refine W_mid [(1, .int .i64 2), (2, .ip (eCfg c) 0), (5, .sl .nil [])] (σ) ?_ ?_
  · skip
    repeat' first |refine s1 ?_|refine gS ?_|refine wT rfl ?_|refine wF rfl ?_|refine wt rfl ?_|refine wf rfl ?_|(refine wC rfl (fun h=>?_) (fun h=>?_)<;>(try contradiction))|((first|refine rd ?_|refine ry [] c0 fun nu _ _=>?_);simp -dsimp (disch:=omega) only[go_sem])|refine e0 (by decide) ?_|(refine And.intro ?_ ?_;omega)|refine And.intro (of_eq_true PutAt_put) ?_|refine gT ?_|refine gF ?_|(refine gI (fun h=>?_) (fun h=>?_)<;>(try contradiction)<;>(try refine rd ?_)<;>(try simp -dsimp (disch:=omega) only[go_sem,h]))|refine Exists.intro _ (Exists.intro _ (And.intro (And.intro rfl rfl) ?_)) |fail
    refine W_loop_st (fun _ : Unit => [(1, .int .i64 2), (2, .ip (eCfg c) 0), (5, .sl .nil []), (6, .int .i64 0)]) (fun _ => σ) (fun _ => True) (fun _ => 0) () trivial (Env.Sub_of_has (by simp [Env.Has, Env.get, eCfg])) (Store.Sub.refl _) ?_
    intro _ _
    repeat' first |refine s1 ?_|refine gS ?_|refine wT rfl ?_|refine wF rfl ?_|refine wt rfl ?_|refine wf rfl ?_|(refine wC rfl (fun h=>?_) (fun h=>?_)<;>(try contradiction))|((first|refine rd ?_|refine ry [] c0 fun nu _ _=>?_);simp -dsimp (disch:=omega) only[go_sem])|refine e0 (by decide) ?_|(refine And.intro ?_ ?_;omega)|refine And.intro (of_eq_true PutAt_put) ?_|refine gT ?_|refine gF ?_|(refine gI (fun h=>?_) (fun h=>?_)<;>(try contradiction)<;>(try refine rd ?_)<;>(try simp -dsimp (disch:=omega) only[go_sem,h]))|refine Exists.intro _ (Exists.intro _ (And.intro (And.intro rfl rfl) ?_)) |fail
    all_goals exact ⟨Env.Sub_of_has (by simp [Env.Has, Env.get, eCfg]), Store.Sub.refl _⟩
  repeat' first |((fail_if_success (first|show W _ _ (Code.seq (Code.region 6 _ _) _) _ _ _|show W _ _ (Code.seq (Code.seq (Code.region 6 _ _) _) _) _ _ _));refine s1 ?_)|refine gS ?_|refine wT rfl ?_|refine wF rfl ?_|refine wt rfl ?_|refine wf rfl ?_|(refine wC rfl (fun h=>?_) (fun h=>?_)<;>(try contradiction))|((fail_if_success (first|show W _ _ (Code.region 6 _ _) _ _ _));(first|refine rd ?_|refine ry [] c0 fun nu _ _=>?_);simp -dsimp (disch:=omega) only[go_sem])|refine e0 (by decide) ?_|(refine And.intro ?_ ?_;omega)|refine And.intro (of_eq_true PutAt_put) ?_|refine gT ?_|refine gF ?_|(refine gI (fun h=>?_) (fun h=>?_)<;>(try contradiction)<;>(try refine rd ?_)<;>(try simp -dsimp (disch:=omega) only[go_sem,h]))|refine Exists.intro _ (Exists.intro _ (And.intro (And.intro rfl rfl) ?_)) |fail
  refine W_mid [(1, .int .i64 2), (2, .ip (eCfg c) 0), (5, .sl .nil [])] (σ) ?_ ?_
  · skip
    repeat' first |refine s1 ?_|refine gS ?_|refine wT rfl ?_|refine wF rfl ?_|refine wt rfl ?_|refine wf rfl ?_|(refine wC rfl (fun h=>?_) (fun h=>?_)<;>(try contradiction))|((first|refine rd ?_|refine ry [] c0 fun nu _ _=>?_);simp -dsimp (disch:=omega) only[go_sem])|refine e0 (by decide) ?_|(refine And.intro ?_ ?_;omega)|refine And.intro (of_eq_true PutAt_put) ?_|refine gT ?_|refine gF ?_|(refine gI (fun h=>?_) (fun h=>?_)<;>(try contradiction)<;>(try refine rd ?_)<;>(try simp -dsimp (disch:=omega) only[go_sem,h]))|refine Exists.intro _ (Exists.intro _ (And.intro (And.intro rfl rfl) ?_)) |fail
    refine W_loop_st (fun _ : Unit => [(1, .int .i64 2), (2, .ip (eCfg c) 0), (5, .sl .nil []), (7, .int .i64 0)]) (fun _ => σ) (fun _ => True) (fun _ => 0) () trivial (Env.Sub_of_has (by simp [Env.Has, Env.get, eCfg])) (Store.Sub.refl _) ?_
    intro _ _
    repeat' first |refine s1 ?_|refine gS ?_|refine wT rfl ?_|refine wF rfl ?_|refine wt rfl ?_|refine wf rfl ?_|(refine wC rfl (fun h=>?_) (fun h=>?_)<;>(try contradiction))|((first|refine rd ?_|refine ry [] c0 fun nu _ _=>?_);simp -dsimp (disch:=omega) only[go_sem])|refine e0 (by decide) ?_|(refine And.intro ?_ ?_;omega)|refine And.intro (of_eq_true PutAt_put) ?_|refine gT ?_|refine gF ?_|(refine gI (fun h=>?_) (fun h=>?_)<;>(try contradiction)<;>(try refine rd ?_)<;>(try simp -dsimp (disch:=omega) only[go_sem,h]))|refine Exists.intro _ (Exists.intro _ (And.intro (And.intro rfl rfl) ?_)) |fail
    all_goals exact ⟨Env.Sub_of_has (by simp [Env.Has, Env.get, eCfg]), Store.Sub.refl _⟩
  repeat' first |refine s1 ?_|refine gS ?_|refine wT rfl ?_|refine wF rfl ?_|refine wt rfl ?_|refine wf rfl ?_|(refine wC rfl (fun h=>?_) (fun h=>?_)<;>(try contradiction))|((first|refine rd ?_|refine ry [] c0 fun nu _ _=>?_);simp -dsimp (disch:=omega) only[go_sem])|refine e0 (by decide) ?_|(refine And.intro ?_ ?_;omega)|refine And.intro (of_eq_true PutAt_put) ?_|refine gT ?_|refine gF ?_|(refine gI (fun h=>?_) (fun h=>?_)<;>(try contradiction)<;>(try refine rd ?_)<;>(try simp -dsimp (disch:=omega) only[go_sem,h]))|refine Exists.intro _ (Exists.intro _ (And.intro (And.intro rfl rfl) ?_)) |fail
  refine W_loop_st (fun x : Nat × Nat => [(1, .int .i64 2), (2, .ip (eCfg c) 0), (5, .sl (outK x.1 x.2) (encL AV.str ((c.routers.map f).take x.1))), (8, .int .i64 x.1)]) (fun x => outS σ 9 x.1 x.2) (fun x => x.1 ≤ c.routers.length ∧ (x.1 = 0 ∨ σ x.2 = none)) (fun x => c.routers.length - x.1) (0, 0) ⟨Nat.zero_le _, .inl rfl⟩ (Env.Sub_of_has (by simp [Env.Has, Env.get, outK, encL, eCfg])) (Store.Sub.refl _) ?_
  rintro ⟨i, o⟩ ⟨hi, ho⟩
  simp only at hi ho
  by_cases hlt : i < c.routers.length
  · have hstep := out_step f hlt
    have hlen : (encL AV.str ((c.routers.map f).take i)).length = i := by rw [length_encL, List.length_take, List.length_map]; omega
    have hrow : rowsOk 1 (encL AV.str ((c.routers.map f).take i)) = true := ok_encL 1 AV.str (fun _ => rfl) _
    have hfx : f (c.routers.getD i default) = (c.routers.getD i default).name := by rw [hf]
    rw [hfx] at hstep
    by_cases h0 : i = 0
    · subst h0
      have q0 : encL AV.str ((c.routers.map f).take 0) = [] := rfl
      simp only [outK, outS, if_pos, q0] at hstep ⊢
      repeat' first |refine s1 ?_|refine gS ?_|refine wT rfl ?_|refine wF rfl ?_|refine wt rfl ?_|refine wf rfl ?_|(refine wC rfl (fun h=>?_) (fun h=>?_)<;>(try contradiction))|((first|refine rd ?_|refine ry [] c0 fun nu _ _=>?_);simp -dsimp (disch:=omega) only[go_sem])|refine e0 (by decide) ?_|(refine And.intro ?_ ?_;omega)|refine And.intro (of_eq_true PutAt_put) ?_|refine gT ?_|refine gF ?_|(refine gI (fun h=>?_) (fun h=>?_)<;>(try contradiction)<;>(try refine rd ?_)<;>(try simp -dsimp (disch:=omega) only[go_sem,h]))|refine Exists.intro _ (Exists.intro _ (And.intro (And.intro rfl rfl) ?_)) |fail
      intro o' ho'
      repeat' first |refine s1 ?_|refine gS ?_|refine wT rfl ?_|refine wF rfl ?_|refine wt rfl ?_|refine wf rfl ?_|(refine wC rfl (fun h=>?_) (fun h=>?_)<;>(try contradiction))|((first|refine rd ?_|refine ry [] c0 fun nu _ _=>?_);simp -dsimp (disch:=omega) only[go_sem])|refine e0 (by decide) ?_|(refine And.intro ?_ ?_;omega)|refine And.intro (of_eq_true PutAt_put) ?_|refine gT ?_|refine gF ?_|(refine gI (fun h=>?_) (fun h=>?_)<;>(try contradiction)<;>(try refine rd ?_)<;>(try simp -dsimp (disch:=omega) only[go_sem,h]))|refine Exists.intro _ (Exists.intro _ (And.intro (And.intro rfl rfl) ?_)) |fail
      exact ⟨(1, o'), by simp only; omega, ⟨by simp only; omega, .inr ho'⟩, Env.Sub_of_has (by simp only [Env.Has, Env.get, outK]; simp [hstep, eCfg]), Store.Sub.refl _⟩
    · have hs1 : outS σ 9 i o = σ.put o (.tip i 9 1) := by simp [outS, h0]
      have hk1 : outK i o = .tip o := by simp [outK, h0]
      have hs2 : outS σ 9 (i + 1) o = σ.put o (.tip (i + 1) 9 1) := by simp [outS]
      have hk2 : outK (i + 1) o = .tip o := by simp [outK]
      rw [hs1, hk1]
      repeat' first |refine s1 ?_|refine gS ?_|refine wT rfl ?_|refine wF rfl ?_|refine wt rfl ?_|refine wf rfl ?_|(refine wC rfl (fun h=>?_) (fun h=>?_)<;>(try contradiction))|((first|refine rd ?_|refine ry [] c0 fun nu _ _=>?_);simp -dsimp (disch:=omega) only[go_sem,hlen, hrow])|refine e0 (by decide) ?_|(refine And.intro ?_ ?_;omega)|refine And.intro (of_eq_true PutAt_put) ?_|refine gT ?_|refine gF ?_|(refine gI (fun h=>?_) (fun h=>?_)<;>(try contradiction)<;>(try refine rd ?_)<;>(try simp -dsimp (disch:=omega) only[go_sem,h,hlen, hrow]))|refine Exists.intro _ (Exists.intro _ (And.intro (And.intro rfl rfl) ?_)) |fail
      refine ⟨(i + 1, o), by simp only; omega, ⟨by simp only; omega, .inr (ho.resolve_left h0)⟩, Env.Sub_of_has ?_, ?_⟩
      · simp only [Env.Has, Env.get, hk2, hstep]; simp [eCfg]
      · simp only [hs2, List.length_append, hlen, List.length_cons, List.length_nil, Nat.zero_add]; exact Store.Sub.refl _
  · have hi' : i = c.routers.length := by omega
    subst hi'
    have htk : (c.routers.map f).take c.routers.length = c.routers.map f := List.take_of_length_le (by simp)
    simp only [htk]
    have hsub : σ.Sub (outS σ 9 c.routers.length o) := by
      unfold outS
      split
      · exact Store.Sub.refl _
      · rename_i hne
        exact Sub_put (Store.Sub.refl _) (ho.resolve_left hne) _
    refine W_weaken (ρ' := [(1, .int .i64 2), (2, .ip (eCfg c) 0), (5, .sl (outK c.routers.length o) (encL AV.str (c.routers.map f))), (8, .int .i64 c.routers.length)]) (σ' := σ) (Env.Sub_of_has (by simp [Env.Has, Env.get, eCfg])) hsub ?_
    repeat' first |refine s1 ?_|refine gS ?_|refine wT rfl ?_|refine wF rfl ?_|refine wt rfl ?_|refine wf rfl ?_|(refine wC rfl (fun h=>?_) (fun h=>?_)<;>(try contradiction))|((first|refine rd ?_|refine ry [] c0 fun nu _ _=>?_);simp -dsimp (disch:=omega) only[go_sem])|refine e0 (by decide) ?_|(refine And.intro ?_ ?_;omega)|refine And.intro (of_eq_true PutAt_put) ?_|refine gT ?_|refine gF ?_|(refine gI (fun h=>?_) (fun h=>?_)<;>(try contradiction)<;>(try refine rd ?_)<;>(try simp -dsimp (disch:=omega) only[go_sem,h]))|refine Exists.intro _ (Exists.intro _ (And.intro (And.intro rfl rfl) ?_)) |fail
    all_goals first | exact ⟨_, Store.Sub.refl _, ⟨_, rfl⟩, rfl⟩ | exact ⟨_, rfl⟩ | trivial
def oneL (c : Cfg) (i : Nat) : Cfg := ⟨c.kL.cut, (c.lists.take (i + 1)).drop i, .nil, [], .nil, []⟩
def oneM (c : Cfg) (i : Nat) : Cfg := ⟨.nil, [], c.kM.cut, (c.maps.take (i + 1)).drop i, .nil, []⟩
def oneR (c : Cfg) (i : Nat) : Cfg := ⟨.nil, [], .nil, [], c.kR.cut, (c.routers.take (i + 1)).drop i⟩
theorem cutE {α : Type} (E : α → AV) (l : List α) (i : Nat) : ((encL E l).take (i + 1)).drop i = encL E ((l.take (i + 1)).drop i) := by rw [take_encL, drop_encL]
theorem toN1 (i : Nat) : (((i : Nat) : Int) + 1).toNat = i + 1 := by omega
theorem oneL_spec (c : Cfg) (i : Nat) (hi : i < c.lists.length) (hl : c.lists.length < 4611686018427387904) : Pure Tryz.prog 13 [eCfg c, .int .i64 0, .int .i64 i] (eCfg (oneL c i)) := by
  intro σ
  have hrow : rowsOk 2 (encL eLst c.lists) = true := ok_encL _ eLst (fun _ => rfl) _
  refine PCall_q [.cell 6 26] 33 Tryz.func13 (by rfl) rfl rfl rfl rfl ?_
  repeat' first |refine s1 ?_|refine gS ?_|refine wT rfl ?_|refine wF rfl ?_|refine wt rfl ?_|refine wf rfl ?_|(refine wC rfl (fun h=>?_) (fun h=>?_)<;>(try contradiction))|((first|refine rd ?_|refine ry [] c0 fun nu _ _=>?_);simp -dsimp (disch:=omega) only[go_sem])|refine e0 (by decide) ?_|(refine And.intro ?_ ?_;omega)|refine And.intro (of_eq_true PutAt_put) ?_|refine gT ?_|refine gF ?_|(refine gI (fun h=>?_) (fun h=>?_)<;>(try contradiction)<;>(try refine rd ?_)<;>(try simp -dsimp (disch:=omega) only[go_sem,h]))|refine Exists.intro _ (Exists.intro _ (And.intro (And.intro rfl rfl) ?_)) |fail
  intro o ho
  repeat' first |refine s1 ?_|refine gS ?_|refine wT rfl ?_|refine wF rfl ?_|refine wt rfl ?_|refine wf rfl ?_|(refine wC rfl (fun h=>?_) (fun h=>?_)<;>(try contradiction))|((first|refine rd ?_|refine ry [] c0 fun nu _ _=>?_);simp -dsimp (disch:=omega) only[go_sem,hrow, toN1, cutE, take_encL, drop_encL])|refine e0 (by decide) ?_|(refine And.intro ?_ ?_;omega)|refine And.intro (of_eq_true PutAt_put) ?_|refine gT ?_|refine gF ?_|(refine gI (fun h=>?_) (fun h=>?_)<;>(try contradiction)<;>(try refine rd ?_)<;>(try simp -dsimp (disch:=omega) only[go_sem,h,hrow, toN1, cutE, take_encL, drop_encL]))|refine Exists.intro _ (Exists.intro _ (And.intro (And.intro rfl rfl) ?_)) |fail
  all_goals first | exact Sub_put (Store.Sub.refl _) ho _ | exact ⟨rfl, Sub_put (Store.Sub.refl _) ho _⟩
theorem oneM_spec (c : Cfg) (i : Nat) (hi : i < c.maps.length) (hl : c.maps.length < 4611686018427387904) : Pure Tryz.prog 13 [eCfg c, .int .i64 1, .int .i64 i] (eCfg (oneM c i)) := by
  intro σ
  have hrow : rowsOk 2 (encL eMap c.maps) = true := ok_encL _ eMap (fun _ => rfl) _
  refine PCall_q [.cell 6 26] 33 Tryz.func13 (by rfl) rfl rfl rfl rfl ?_
  repeat' first |refine s1 ?_|refine gS ?_|refine wT rfl ?_|refine wF rfl ?_|refine wt rfl ?_|refine wf rfl ?_|(refine wC rfl (fun h=>?_) (fun h=>?_)<;>(try contradiction))|((first|refine rd ?_|refine ry [] c0 fun nu _ _=>?_);simp -dsimp (disch:=omega) only[go_sem])|refine e0 (by decide) ?_|(refine And.intro ?_ ?_;omega)|refine And.intro (of_eq_true PutAt_put) ?_|refine gT ?_|refine gF ?_|(refine gI (fun h=>?_) (fun h=>?_)<;>(try contradiction)<;>(try refine rd ?_)<;>(try simp -dsimp (disch:=omega) only[go_sem,h]))|refine Exists.intro _ (Exists.intro _ (And.intro (And.intro rfl rfl) ?_)) |fail
  intro o ho
  repeat' first |refine s1 ?_|refine gS ?_|refine wT rfl ?_|refine wF rfl ?_|refine wt rfl ?_|refine wf rfl ?_|(refine wC rfl (fun h=>?_) (fun h=>?_)<;>(try contradiction))|((first|refine rd ?_|refine ry [] c0 fun nu _ _=>?_);simp -dsimp (disch:=omega) only[go_sem,hrow, toN1, cutE, take_encL, drop_encL])|refine e0 (by decide) ?_|(refine And.intro ?_ ?_;omega)|refine And.intro (of_eq_true PutAt_put) ?_|refine gT ?_|refine gF ?_|(refine gI (fun h=>?_) (fun h=>?_)<;>(try contradiction)<;>(try refine rd ?_)<;>(try simp -dsimp (disch:=omega) only[go_sem,h,hrow, toN1, cutE, take_encL, drop_encL]))|refine Exists.intro _ (Exists.intro _ (And.intro (And.intro rfl rfl) ?_)) |fail
  all_goals first | exact Sub_put (Store.Sub.refl _) ho _ | exact ⟨rfl, Sub_put (Store.Sub.refl _) ho _⟩
theorem oneR_spec (c : Cfg) (i : Nat) (hi : i < c.routers.length) (hl : c.routers.length < 4611686018427387904) : Pure Tryz.prog 13 [eCfg c, .int .i64 2, .int .i64 i] (eCfg (oneR c i)) := by
  intro σ
  have hrow : rowsOk 6 (encL eRtr c.routers) = true := ok_encL _ eRtr (fun _ => rfl) _
  refine PCall_q [.cell 6 26] 33 Tryz.func13 (by rfl) rfl rfl rfl rfl ?_
  repeat' first |refine s1 ?_|refine gS ?_|refine wT rfl ?_|refine wF rfl ?_|refine wt rfl ?_|refine wf rfl ?_|(refine wC rfl (fun h=>?_) (fun h=>?_)<;>(try contradiction))|((first|refine rd ?_|refine ry [] c0 fun nu _ _=>?_);simp -dsimp (disch:=omega) only[go_sem])|refine e0 (by decide) ?_|(refine And.intro ?_ ?_;omega)|refine And.intro (of_eq_true PutAt_put) ?_|refine gT ?_|refine gF ?_|(refine gI (fun h=>?_) (fun h=>?_)<;>(try contradiction)<;>(try refine rd ?_)<;>(try simp -dsimp (disch:=omega) only[go_sem,h]))|refine Exists.intro _ (Exists.intro _ (And.intro (And.intro rfl rfl) ?_)) |fail
  intro o ho
  repeat' first |refine s1 ?_|refine gS ?_|refine wT rfl ?_|refine wF rfl ?_|refine wt rfl ?_|refine wf rfl ?_|(refine wC rfl (fun h=>?_) (fun h=>?_)<;>(try contradiction))|((first|refine rd ?_|refine ry [] c0 fun nu _ _=>?_);simp -dsimp (disch:=omega) only[go_sem,hrow, toN1, cutE, take_encL, drop_encL])|refine e0 (by decide) ?_|(refine And.intro ?_ ?_;omega)|refine And.intro (of_eq_true PutAt_put) ?_|refine gT ?_|refine gF ?_|(refine gI (fun h=>?_) (fun h=>?_)<;>(try contradiction)<;>(try refine rd ?_)<;>(try simp -dsimp (disch:=omega) only[go_sem,h,hrow, toN1, cutE, take_encL, drop_encL]))|refine Exists.intro _ (Exists.intro _ (And.intro (And.intro rfl rfl) ?_)) |fail
  all_goals first | exact Sub_put (Store.Sub.refl _) ho _ | exact ⟨rfl, Sub_put (Store.Sub.refl _) ho _⟩
def cfg0 : Cfg := ⟨.nil, [], .nil, [], .full, [⟨(⟨#[114, 49]⟩ : ByteArray), 65001, 1, .nil, [], .nil, [], .nil, []⟩]⟩
theorem dig1 : digB 1 = (⟨#[49]⟩ : ByteArray) := by rw [digB_small 1 (by decide)]; rfl
theorem dig65001 : digB 65001 = (⟨#[54, 53, 48, 48, 49]⟩ : ByteArray) := by
  rw [digB_step 65001 (by decide) (by decide), show (65001 : Int) / 10 = 6500 from rfl, digB_step 6500 (by decide) (by decide), show (6500 : Int) / 10 = 650 from rfl, digB_step 650 (by decide) (by decide), show (650 : Int) / 10 = 65 from rfl, digB_step 65 (by decide) (by decide), show (65 : Int) / 10 = 6 from rfl, digB_small 6 (by decide)]
  rfl
theorem text0 : cfgText cfg0 = (⟨#[114, 111, 117, 116, 101, 114, 32, 114, 49, 32, 123, 10, 32, 97, 115, 32, 54, 53, 48, 48, 49, 59, 10, 32, 105, 100, 32, 49, 59, 10, 125, 10]⟩ : ByteArray) := by
  simp only [cfgText, cfg0, List.map_cons, List.map_nil, catB, rtrText, dig1, dig65001]
  rfl
theorem may0 : cfgMay cfg0 = true := by decide
theorem fits0 : cfg0.Fits := by
  refine ⟨by decide, by decide, by decide, fun x hx => by simp [cfg0] at hx, fun x hx => by simp [cfg0] at hx, fun x hx => ?_⟩
  have : x = ⟨(⟨#[114, 49]⟩ : ByteArray), 65001, 1, .nil, [], .nil, [], .nil, []⟩ := by simpa [cfg0] using hx
  subst this
  exact ⟨by decide, by decide, by decide, by decide, fun x hx => by simp at hx, fun x hx => by simp at hx⟩
theorem good0 : cfg0.Good := by
  refine ⟨fits0, fun x hx => by simp [cfg0] at hx, fun x hx => by simp [cfg0] at hx, fun x hx => ?_⟩
  have h := fits0.rtr x hx
  have : x = ⟨(⟨#[114, 49]⟩ : ByteArray), 65001, 1, .nil, [], .nil, [], .nil, []⟩ := by simpa [cfg0] using hx
  subst this
  exact ⟨by decide, by decide, h, fun x hx => by simp at hx, fun x hx => by simp at hx, fun x hx => by simp at hx⟩
theorem print0 : Pure Tryz.prog 8 [eCfg cfg0] (.tup [.str (⟨#[114, 111, 117, 116, 101, 114, 32, 114, 49, 32, 123, 10, 32, 97, 115, 32, 54, 53, 48, 48, 49, 59, 10, 32, 105, 100, 32, 49, 59, 10, 125, 10]⟩ : ByteArray), .int .i64 0]) := by
  have h := print_spec cfg0 fits0 (fun _ => ⟨good0, by rw [text0]; decide⟩)
  have hE : printE cfg0 = 0 := by rw [printE, if_pos may0, text0, if_neg (by decide)]
  have hS : printS cfg0 = (⟨#[114, 111, 117, 116, 101, 114, 32, 114, 49, 32, 123, 10, 32, 97, 115, 32, 54, 53, 48, 48, 49, 59, 10, 32, 105, 100, 32, 49, 59, 10, 125, 10]⟩ : ByteArray) := by rw [printS, hE, text0]; rfl
  rw [hE, hS] at h
  exact h
theorem lives_spec : Pure Tryz.prog 7 [] (.bool true) := by
  intro σ
  have h := print0
  refine PCall_q [.tmp 0] 16 Tryz.func7 (by rfl) rfl rfl rfl rfl ?_
  repeat' first |refine s1 ?_|refine gS ?_|refine wT rfl ?_|refine wF rfl ?_|refine wt rfl ?_|refine wf rfl ?_|(refine wC rfl (fun h=>?_) (fun h=>?_)<;>(try contradiction))|((first|refine rd ?_|refine ry [] c0 fun nu _ _=>?_);simp -dsimp (disch:=omega) only[go_sem])|refine e0 (by decide) ?_|(refine And.intro ?_ ?_;omega)|refine And.intro (of_eq_true PutAt_put) ?_|refine gT ?_|refine gF ?_|(refine gI (fun h=>?_) (fun h=>?_)<;>(try contradiction)<;>(try refine rd ?_)<;>(try simp -dsimp (disch:=omega) only[go_sem,h]))|refine Exists.intro _ (Exists.intro _ (And.intro (And.intro rfl rfl) ?_)) |refine us (h) ?_ |fail
end Go.Proofs.YtaealcimocpnnaaGreat
namespace Go.Proofs.YtaealcimocpnnaaGreat
open Go.Kern Go.RowKit
structure Cfg.Wf (c : Cfg) : Prop where
  rules : ∀ x, x ∈ c.lists → ∀ r, r ∈ x.l → r.p.Ok
  nets : ∀ x, x ∈ c.routers → ∀ p, p ∈ x.nets → p.Ok
  nbrs : ∀ x, x ∈ c.routers → ∀ n, n ∈ x.nbrs → n.name.size ≤ 9223372036854775807 ∧ n.imp.size ≤ 9223372036854775807 ∧ n.exp.size ≤ 9223372036854775807
  links : ∀ x, x ∈ c.routers → ∀ n, n ∈ x.links → n.name.size ≤ 9223372036854775807
theorem in_fits (c : Cfg) (hS : c.S) (hW : c.Wf) : c.Fits := by
  obtain ⟨⟨a1, a2, a3⟩, a4, a5, a6⟩ := hS
  refine ⟨by omega, by omega, by omega, fun x hx => ?_, fun x hx => ?_, fun x hx => ?_⟩
  · obtain ⟨b1, b2⟩ := a4 x hx
    exact ⟨by omega, by omega⟩
  · obtain ⟨⟨b1, b2⟩, b3⟩ := a5 x hx
    refine ⟨by omega, fun y hy => ?_, by omega⟩
    obtain ⟨d1, d2, d3, d4, d5⟩ := b3 y hy
    exact ⟨⟨by omega, by omega, by omega⟩, by omega, by omega⟩
  · obtain ⟨b1, b2, b3, b4⟩ := a6 x hx
    exact ⟨by omega, by omega, by omega, by omega, hW.nbrs x hx, hW.links x hx⟩
theorem eachP_iff {α : Type} {m : Int} {q : α → Bool} {l : List α} : eachP m q l = true ↔ (l.length : Int) ≤ m ∧ ∀ x, x ∈ l → q x = true := by
  simp [eachP]
theorem anyS_neg {α τ : Type} (step : τ → α → Bool × τ) : ∀ (l : List α) (st : τ), (anyS (fun st x => (!(step st x).1, (step st x).2)) st l).1 = false → ∀ x, x ∈ l → ∃ st', (step st' x).1 = true
  | [], st, _, x, hx => by simp at hx
  | y :: l, st, h, x, hx => by
    simp only [anyS] at h
    split at h
    · cases h
    · rename_i hn
      rcases List.mem_cons.1 hx with rfl | hx
      · exact ⟨st, by simpa using hn⟩
      · exact anyS_neg step l _ h x hx
theorem cls_of {m : MapD} (h : mapMayB m = true) {c : Cls} (hc : c ∈ m.l) : ∃ last : Int, 0 ≤ last ∧ clsMay last c = true := by
  unfold mapMayB eachS at h
  split at h
  · simp only [Bool.not_eq_true'] at h
    obtain ⟨st, h2⟩ := anyS_neg clsStep m.l _ h c hc
    exact ⟨st.1, st.2.1, h2⟩
  · cases h
theorem within_iff {n a b : Int} : withinZ n a b = true ↔ a ≤ n ∧ n ≤ b := by simp [withinZ]
theorem cls_good {last : Int} {c : Cls} (h0 : 0 ≤ last) (h : clsMay last c = true) (hS : c.S) : c.Good := by
  simp only [clsMay, chgMay, Bool.and_eq_true, within_iff, eachP_iff] at h
  obtain ⟨⟨n1, n2⟩, _, ⟨p1, p2⟩, ⟨m1, m2⟩, ⟨o1, o2⟩, _, _, _, q⟩ := h
  obtain ⟨d1, d2, d3, d4, d5⟩ := hS
  exact ⟨by omega, by omega, by omega, by omega, by omega, by omega, by omega, by omega, fun n hn => by have := q n hn; omega, by omega, by omega⟩
theorem name_size {s : ByteArray} (h : nameB s = true) : s.size ≤ 12 := by
  simp only [nameB, Bool.and_eq_true, decide_eq_true_eq] at h
  exact h.2
theorem used_size {s : ByteArray} (h : usedB s = true) : s.size ≤ 12 := by
  simp only [usedB, Bool.or_eq_true, decide_eq_true_eq] at h
  rcases h with h | h
  · omega
  · exact name_size h
theorem unlike_name : ∀ (l pre : List ByteArray), unlikeB pre l = true → ∀ s, s ∈ l → nameB s = true
  | [], _, _, s, hs => by simp at hs
  | x :: l, pre, h, s, hs => by
    simp only [unlikeB, Bool.and_eq_true] at h
    rcases List.mem_cons.1 hs with rfl | hs
    · exact h.1.2
    · exact unlike_name l _ h.2 s hs
theorem rtr_good {x : Rtr} (h : rtrMay x = true) (hf : x.Fits) (hn : ∀ p, p ∈ x.nets → p.Ok) : x.Good := by
  simp only [rtrMay, Bool.and_eq_true, within_iff, eachP_iff] at h
  obtain ⟨⟨a1, a2⟩, ⟨b1, b2⟩, _, _, ⟨_, e⟩, ⟨_, f⟩, g, _⟩ := h
  refine ⟨by omega, by omega, hf, hn, fun n hx => ?_, fun n hx => ?_⟩
  · have q1 := e n hx
    simp only [nbrMay, Bool.and_eq_true] at q1
    have q2 := used_size q1.1
    have q3 := used_size q1.2
    have q4 := name_size (unlike_name _ _ g n.name (List.mem_map.2 ⟨n, hx, rfl⟩))
    omega
  · have q1 := f n hx
    rw [lnkMay, within_iff] at q1
    omega
structure Cfg.M (c : Cfg) : Prop where
  lists : ∀ x, x ∈ c.lists → lstMay x = true ∧ nameB x.name = true
  maps : ∀ x, x ∈ c.maps → mapMayB x = true ∧ nameB x.name = true
  routers : ∀ x, x ∈ c.routers → rtrMay x = true ∧ nameB x.name = true
theorem may_parts {c : Cfg} (h : cfgMay c = true) : c.M := by
  simp only [cfgMay, Bool.and_eq_true, eachP_iff] at h
  obtain ⟨⟨_, a⟩, ⟨_, b⟩, ⟨_, d⟩, e, f, g⟩ := h
  exact ⟨fun x hx => ⟨a x hx, unlike_name _ _ e x.name (List.mem_map.2 ⟨x, hx, rfl⟩)⟩, fun x hx => ⟨b x hx, unlike_name _ _ f x.name (List.mem_map.2 ⟨x, hx, rfl⟩)⟩, fun x hx => ⟨d x hx, unlike_name _ _ g x.name (List.mem_map.2 ⟨x, hx, rfl⟩)⟩⟩
theorem in_good {c : Cfg} (hS : c.S) (hW : c.Wf) (h : cfgMay c = true) : c.Good := by
  have hf := in_fits c hS hW
  have hm := may_parts h
  refine ⟨hf, hW.rules, fun x hx r hr => ?_, fun x hx => rtr_good (hm.routers x hx).1 (hf.rtr x hx) (hW.nets x hx)⟩
  obtain ⟨last, h0, h1⟩ := cls_of (hm.maps x hx).1 hr
  exact cls_good h0 h1 ((hS.maps x hx).2 r hr)
theorem rep_size (n : Nat) : (repB n).size = n := by rw [repB, szL, List.length_replicate]
theorem line_size (n m : Nat) (ws : List ByteArray) (h : ∀ w, w ∈ ws → w.size ≤ m) : (lineB n ws).size ≤ n + ws.length * (m + 1) + 1 := by
  have h1 := joinOf_size m blk ws h
  rw [show blk.size = 1 from rfl] at h1
  rw [lineB, szA, szA, rep_size, show ((⟨#[10]⟩ : ByteArray)).size = 1 from rfl]
  omega
theorem semi_size (m : Nat) : ∀ ws : List ByteArray, (∀ w, w ∈ ws → w.size ≤ m) → (∀ w, w ∈ semi ws → w.size ≤ m + 1) ∧ (semi ws).length = ws.length
  | [], h => ⟨fun w hw => by simp [semi] at hw, rfl⟩
  | [x], h => ⟨fun w hw => by
      simp only [semi, List.mem_singleton] at hw
      rw [hw, szA, show ((⟨#[59]⟩ : ByteArray)).size = 1 from rfl]
      have := h x (by simp); omega, rfl⟩
  | x :: y :: r, h => by
    obtain ⟨h1, h2⟩ := semi_size m (y :: r) fun w hw => h w (List.mem_cons_of_mem _ hw)
    refine ⟨fun w hw => ?_, by simp [semi, h2]⟩
    simp only [semi, List.mem_cons] at hw
    rcases hw with rfl | hw
    · have := h w (by simp); omega
    · exact h1 w hw
theorem some_size (is : Bool) (ws : List ByteArray) (hl : ws.length ≤ 3) (h : ∀ w, w ∈ ws → w.size ≤ 60000) : (someB is ws).size ≤ 200000 := by
  unfold someB
  split
  · obtain ⟨h1, h2⟩ := semi_size 60000 ws h
    have h3 := line_size 2 60001 (semi ws) h1
    rw [h2] at h3
    have : ws.length * (60001 + 1) ≤ 3 * (60001 + 1) := Nat.mul_le_mul_right _ hl
    omega
  · rw [szE]; omega
theorem words1 {m : Nat} {a : ByteArray} (h : a.size ≤ m) : ∀ w, w ∈ [a] → w.size ≤ m := fun w hw => by rw [List.mem_singleton.1 hw]; exact h
theorem words2 {m : Nat} {a b : ByteArray} (h : a.size ≤ m) (k : b.size ≤ m) : ∀ w, w ∈ [a, b] → w.size ≤ m := fun w hw => by
  rcases List.mem_cons.1 hw with rfl | hw
  · exact h
  · exact words1 k w hw
theorem words3 {m : Nat} {a b c : ByteArray} (h : a.size ≤ m) (k : b.size ≤ m) (l : c.size ≤ m) : ∀ w, w ∈ [a, b, c] → w.size ≤ m := fun w hw => by
  rcases List.mem_cons.1 hw with rfl | hw
  · exact h
  · exact words2 k l w hw
theorem words4 {m : Nat} {a b c d : ByteArray} (h : a.size ≤ m) (k : b.size ≤ m) (l : c.size ≤ m) (j : d.size ≤ m) : ∀ w, w ∈ [a, b, c, d] → w.size ≤ m := fun w hw => by
  rcases List.mem_cons.1 hw with rfl | hw
  · exact h
  · exact words3 k l j w hw
theorem cls_size {c : Cls} (hc : c.Good) : (clsText c).size ≤ 2400000 := by
  have m1 := max0_ok hc.pref
  have m2 := max0_ok hc.med
  have l1 := hc.list
  have l2 := hc.path
  have g1 := hc.del
  have g2 := hc.add
  have g3 := hc.pre
  have q0 := digB_size c.n (by have := hc.n1; omega)
  have q1 := digB_size (max0 c.s.pref) (by omega)
  have q2 := digB_size (max0 c.s.med) (by omega)
  have q3 := comText_size c.m.c
  have q4 : (origin (max0 c.s.origin)).size ≤ 4 := by unfold origin; split; · decide
                                                      · split <;> decide
  have q5 : (joinOf blk (c.s.del.map comText)).size ≤ 60000 := by
    have x := joinOf_map comText 50 blk c.s.del (fun x _ => comText_size x); rw [show blk.size = 1 from rfl] at x; omega
  have q6 : (joinOf blk (c.s.add.map comText)).size ≤ 60000 := by
    have x := joinOf_map comText 50 blk c.s.add (fun x _ => comText_size x); rw [show blk.size = 1 from rfl] at x; omega
  have q7 : (joinOf blk (c.s.pre.map digB)).size ≤ 60000 := by
    have x := joinOf_map digB 20 blk c.s.pre (fun x hx => digB_size x (by have := hc.each x hx; omega)); rw [show blk.size = 1 from rfl] at x; omega
  have q8 : (quoted c.m.path).size ≤ 60000 := by rw [quoted, szA, szA, show ((⟨#[34]⟩ : ByteArray)).size = 1 from rfl]; omega
  have q9 : (if c.permit = true then (⟨#[112, 101, 114, 109, 105, 116]⟩ : ByteArray) else (⟨#[100, 101, 110, 121]⟩ : ByteArray)).size ≤ 60000 := by split <;> decide
  have k1 := line_size 1 60000 [if c.permit = true then (⟨#[112, 101, 114, 109, 105, 116]⟩ : ByteArray) else (⟨#[100, 101, 110, 121]⟩ : ByteArray), digB c.n, (⟨#[123]⟩ : ByteArray)] (words3 q9 (by omega) (by decide))
  have k2 := line_size 1 60000 [(⟨#[125]⟩ : ByteArray)] (words1 (by decide))
  simp only [List.length_cons, List.length_nil] at k1 k2
  have := catB_size 200000 (clsLines c) (by
    intro x hx
    simp only [clsLines, List.mem_cons, List.not_mem_nil, or_false] at hx
    rcases hx with rfl | rfl | rfl | rfl | rfl | rfl | rfl | rfl | rfl | rfl | rfl | rfl
    · omega
    · exact some_size _ _ (by simp) (words2 (by decide) (by omega))
    · exact some_size _ _ (by simp) (words2 (by decide) q8)
    · exact some_size _ _ (by simp) (words2 (by decide) (by omega))
    · exact some_size _ _ (by simp) (words2 (by decide) (by omega))
    · exact some_size _ _ (by simp) (words2 (by decide) (by omega))
    · exact some_size _ _ (by simp) (words2 (by decide) (by omega))
    · exact some_size _ _ (by simp) (words1 (by decide))
    · exact some_size _ _ (by simp) (words2 (by decide) q5)
    · exact some_size _ _ (by simp) (words2 (by decide) q6)
    · exact some_size _ _ (by simp) (words2 (by decide) q7)
    · omega)
  rw [show (clsLines c).length = 12 from rfl] at this
  exact this
theorem line_le {n m : Nat} {ws : List ByteArray} {k : Nat} (h : ∀ w, w ∈ ws → w.size ≤ m) (hk : n + ws.length * (m + 1) + 1 ≤ k) : (lineB n ws).size ≤ k := Nat.le_trans (line_size n m ws h) hk
theorem end_size : (lineB 0 [(⟨#[125]⟩ : ByteArray)]).size ≤ 60002 := line_le (m := 60000) (words1 (by decide)) (by simp)
theorem rule_size (r : Rng) (hr : r.p.Ok) : (lineB 1 [rngText r ++ (⟨#[59]⟩ : ByteArray)]).size ≤ 60003 := by
  have z := rngText_size r hr
  exact line_le (m := 60000) (words1 (by rw [szA, show ((⟨#[59]⟩ : ByteArray)).size = 1 from rfl]; omega)) (by simp)
theorem lst_size {x : LstD} (h : x.S) (hg : ∀ r, r ∈ x.l → r.p.Ok) : (lstText x).size ≤ 1500000 := by
  obtain ⟨p1, p2⟩ := h
  have k0 := end_size
  have k1 : (lineB 0 [(⟨#[112, 114, 101, 102, 105, 120, 45, 108, 105, 115, 116]⟩ : ByteArray), x.name, (⟨#[123]⟩ : ByteArray)]).size ≤ 180004 := line_le (m := 60000) (words3 (by decide) (by omega) (by decide)) (by simp)
  have k2 := catB_map (fun r => lineB 1 [rngText r ++ (⟨#[59]⟩ : ByteArray)]) 60003 x.l fun r hr => rule_size r (hg r hr)
  have k3 : x.l.length * 60003 ≤ 20 * 60003 := Nat.mul_le_mul_right _ p2
  rw [lstText, szA, szA]; omega
theorem map_size {x : MapD} (h : x.S) (hg : ∀ r, r ∈ x.l → r.Good) : (mapText x).size ≤ 50000000 := by
  obtain ⟨⟨p1, p2⟩, _⟩ := h
  have k0 := end_size
  have k1 : (lineB 0 [(⟨#[114, 111, 117, 116, 101, 45, 109, 97, 112]⟩ : ByteArray), x.name, (⟨#[123]⟩ : ByteArray)]).size ≤ 180004 := line_le (m := 60000) (words3 (by decide) (by omega) (by decide)) (by simp)
  have k2 := catB_map clsText 2400000 x.l fun r hr => cls_size (hg r hr)
  have k3 : x.l.length * 2400000 ≤ 20 * 2400000 := Nat.mul_le_mul_right _ p2
  rw [mapText, szA, szA]; omega
theorem y1s : ((⟨#[59]⟩ : ByteArray)).size = 1 := rfl
theorem two_size (a b : ByteArray) (h : a.size ≤ 60000) (k : b.size ≤ 60000) : (lineB 1 [a, b]).size ≤ 120004 := line_le (m := 60000) (words2 h k) (by simp)
theorem word_size {n : Nbr} (q : n.name.size ≤ 1000 ∧ n.imp.size ≤ 1000 ∧ n.exp.size ≤ 1000) : (nbrWord n).size ≤ 4300 := by
  have z3 : (nw1 n).size ≤ 2100 := by unfold nw1; split <;> first | omega | (simp only [szA, show ((⟨#[32, 105, 109, 112, 111, 114, 116, 32]⟩ : ByteArray)).size = 8 from rfl]; omega)
  have z4 : (nw2 n).size ≤ 4200 := by unfold nw2; split <;> first | omega | (simp only [szA, show ((⟨#[32, 101, 120, 112, 111, 114, 116, 32]⟩ : ByteArray)).size = 8 from rfl]; omega)
  unfold nbrWord; split <;> first | omega | (simp only [szA, show ((⟨#[32, 99, 108, 105, 101, 110, 116]⟩ : ByteArray)).size = 7 from rfl]; omega)
theorem rtr_size {x : Rtr} (h : x.S) (g : x.Good) (hlk : ∀ n, n ∈ x.links → n.name.size ≤ 60000) : (rtrText x).size ≤ 20000000 := by
  obtain ⟨p1, p2, p3, p4⟩ := h
  have z1 := digB_size x.asn (by have := g.asn; omega)
  have z2 := digB_size x.id (by have := g.id; omega)
  have k0 := end_size
  have k1 : (lineB 0 [(⟨#[114, 111, 117, 116, 101, 114]⟩ : ByteArray), x.name, (⟨#[123]⟩ : ByteArray)]).size ≤ 180004 := line_le (m := 60000) (words3 (by decide) (by omega) (by decide)) (by simp)
  have k2 := two_size (⟨#[97, 115]⟩ : ByteArray) (digB x.asn ++ (⟨#[59]⟩ : ByteArray)) (by decide) (by rw [szA, y1s]; omega)
  have k3 := two_size (⟨#[105, 100]⟩ : ByteArray) (digB x.id ++ (⟨#[59]⟩ : ByteArray)) (by decide) (by rw [szA, y1s]; omega)
  have k4 := catB_map (fun p => lineB 1 [(⟨#[110, 101, 116, 119, 111, 114, 107]⟩ : ByteArray), pfxText p ++ (⟨#[59]⟩ : ByteArray)]) 120004 x.nets fun p hp => by
    have z := pfxText_size p (g.nets p hp)
    exact two_size _ _ (by decide) (by rw [szA, y1s]; omega)
  have k5 := catB_map (fun n => lineB 1 [(⟨#[110, 101, 105, 103, 104, 98, 111, 114]⟩ : ByteArray), nbrWord n ++ (⟨#[59]⟩ : ByteArray)]) 120004 x.nbrs fun n hn => by
    have z := word_size (g.nbrs n hn)
    exact two_size _ _ (by decide) (by rw [szA, y1s]; omega)
  have k6 := catB_map (fun l => lineB 1 [(⟨#[108, 105, 110, 107]⟩ : ByteArray), l.name, (⟨#[99, 111, 115, 116]⟩ : ByteArray), digB l.cost ++ (⟨#[59]⟩ : ByteArray)]) 240006 x.links fun n hn => by
    have z := digB_size n.cost (by have := g.links n hn; omega)
    exact line_le (m := 60000) (words4 (by decide) (hlk n hn) (by decide) (by rw [szA, y1s]; omega)) (by simp)
  have t1 : x.nets.length * 120004 ≤ 20 * 120004 := Nat.mul_le_mul_right _ p2
  have t2 : x.nbrs.length * 120004 ≤ 20 * 120004 := Nat.mul_le_mul_right _ p3
  have t3 : x.links.length * 240006 ≤ 20 * 240006 := Nat.mul_le_mul_right _ p4
  rw [rtrText]
  simp only [szA]
  omega
theorem in_size {c : Cfg} (hS : c.S) (hg : c.Good) (hlk : ∀ x, x ∈ c.routers → ∀ n, n ∈ x.links → n.name.size ≤ 60000) : (cfgText c).size ≤ 140737488355328 := by
  obtain ⟨⟨a1, a2, a3⟩, a4, a5, a6⟩ := hS
  have h1 := catB_map lstText 1500000 c.lists fun x hx => lst_size (a4 x hx) (hg.lists x hx)
  have h2 := catB_map mapText 50000000 c.maps fun x hx => map_size (a5 x hx) (hg.maps x hx)
  have h3 := catB_map rtrText 20000000 c.routers fun x hx => rtr_size (a6 x hx) (hg.routers x hx) (hlk x hx)
  have t1 : c.lists.length * 1500000 ≤ 20 * 1500000 := Nat.mul_le_mul_right _ a1
  have t2 : c.maps.length * 50000000 ≤ 20 * 50000000 := Nat.mul_le_mul_right _ a2
  have t3 : c.routers.length * 20000000 ≤ 12 * 20000000 := Nat.mul_le_mul_right _ a3
  rw [cfgText, szA, szA]; omega
theorem in_print {c : Cfg} (hS : c.S) (hW : c.Wf) : Pure Tryz.prog 8 [eCfg c] (.tup [.str (printS c), .int .i64 (printE c)]) :=
  print_spec c (in_fits c hS hW) fun h => ⟨in_good hS hW h, in_size hS (in_good hS hW h) fun x hx n hn => by
    have h1 := ((may_parts h).routers x hx).1
    simp only [rtrMay, Bool.and_eq_true] at h1
    have := name_size (unlike_name _ _ h1.2.2.2.2.2.2.2 n.name (List.mem_map.2 ⟨n, hn, rfl⟩))
    omega⟩
theorem take_one {α : Type} [Inhabited α] {l : List α} {i : Nat} (h : i < l.length) : (l.take (i + 1)).drop i = [l.getD i default] := by
  rw [List.take_succ_eq_append_getElem h, List.drop_append, List.drop_of_length_le (by rw [List.length_take]; omega), List.length_take]
  simp [List.getD_eq_getElem?_getD, h, Nat.min_eq_left (Nat.le_of_lt h)]
theorem mem_getD {α : Type} [Inhabited α] {l : List α} {i : Nat} (h : i < l.length) : l.getD i default ∈ l := by
  rw [List.getD_eq_getElem?_getD, List.getElem?_eq_getElem h]; exact List.getElem_mem h
theorem one_nil {α : Type} (q : α → Bool) (m : Int) (h : 0 ≤ m) : eachP m q [] = true := eachP_iff.2 ⟨by simpa using h, fun x hx => by simp at hx⟩
theorem one_each {α : Type} {q : α → Bool} {m : Int} (h : 1 ≤ m) {x : α} (hx : q x = true) : eachP m q [x] = true := eachP_iff.2 ⟨by simpa using h, fun y hy => by rw [List.mem_singleton.1 hy]; exact hx⟩
theorem one_name {s : ByteArray} (h : nameB s = true) : unlikeB [] [s] = true := by simp [unlikeB, h]
theorem one_print {c : Cfg} {t : ByteArray} (hS : c.S) (hW : c.Wf) (hm : cfgMay c = true) (ht : cfgText c = t) (hz : t.size ≤ 8192) : Pure Tryz.prog 8 [eCfg c] (.tup [.str t, .int .i64 0]) := by
  have h := in_print hS hW
  have hE : printE c = 0 := by rw [printE, if_pos hm, ht, if_neg (by omega)]
  have hP : printS c = t := by rw [printS, hE, ht]; rfl
  rw [hE, hP] at h
  exact h
theorem oneL_print {c : Cfg} (hS : c.S) (hW : c.Wf) (h : cfgMay c = true) {i : Nat} (hi : i < c.lists.length) (hz : (lstText (c.lists.getD i default)).size ≤ 8192) :
    Pure Tryz.prog 8 [eCfg (oneL c i)] (.tup [.str (lstText (c.lists.getD i default)), .int .i64 0]) := by
  have hp := may_parts h
  have hm := mem_getD hi
  unfold oneL
  rw [take_one hi]
  refine one_print ?_ ⟨fun x hx => by rw [List.mem_singleton.1 hx]; exact hW.rules _ hm, fun x hx => by simp at hx, fun x hx => by simp at hx, fun x hx => by simp at hx⟩ ?_ ?_ hz
  · exact ⟨⟨by simp, by simp, by simp⟩, fun x hx => by rw [List.mem_singleton.1 hx]; exact hS.lists _ hm, fun x hx => by simp at hx, fun x hx => by simp at hx⟩
  · simp only [cfgMay, List.map_cons, List.map_nil, one_each (m := 16) (q := lstMay) (by decide) (hp.lists _ hm).1, one_nil, one_name (hp.lists _ hm).2]
    first | rfl | (simp [eachP, unlikeB])
  · simp only [cfgText, List.map_cons, List.map_nil, catB, emA, eA]
theorem oneM_print {c : Cfg} (hS : c.S) (hW : c.Wf) (h : cfgMay c = true) {i : Nat} (hi : i < c.maps.length) (hz : (mapText (c.maps.getD i default)).size ≤ 8192) :
    Pure Tryz.prog 8 [eCfg (oneM c i)] (.tup [.str (mapText (c.maps.getD i default)), .int .i64 0]) := by
  have hp := may_parts h
  have hm := mem_getD hi
  unfold oneM
  rw [take_one hi]
  refine one_print ?_ ⟨fun x hx => by simp at hx, fun x hx => by simp at hx, fun x hx => by simp at hx, fun x hx => by simp at hx⟩ ?_ ?_ hz
  · exact ⟨⟨by simp, by simp, by simp⟩, fun x hx => by simp at hx, fun x hx => by rw [List.mem_singleton.1 hx]; exact hS.maps _ hm, fun x hx => by simp at hx⟩
  · simp only [cfgMay, List.map_cons, List.map_nil, one_each (m := 16) (q := mapMayB) (by decide) (hp.maps _ hm).1, one_nil, one_name (hp.maps _ hm).2]
    first | rfl | (simp [eachP, unlikeB])
  · simp only [cfgText, List.map_cons, List.map_nil, catB, emA, eA]
theorem oneR_print {c : Cfg} (hS : c.S) (hW : c.Wf) (h : cfgMay c = true) {i : Nat} (hi : i < c.routers.length) (hz : (rtrText (c.routers.getD i default)).size ≤ 8192) :
    Pure Tryz.prog 8 [eCfg (oneR c i)] (.tup [.str (rtrText (c.routers.getD i default)), .int .i64 0]) := by
  have hp := may_parts h
  have hm := mem_getD hi
  unfold oneR
  rw [take_one hi]
  refine one_print ?_ ⟨fun x hx => by simp at hx, fun x hx => by rw [List.mem_singleton.1 hx]; exact hW.nets _ hm, fun x hx => by rw [List.mem_singleton.1 hx]; exact hW.nbrs _ hm, fun x hx => by rw [List.mem_singleton.1 hx]; exact hW.links _ hm⟩ ?_ ?_ hz
  · exact ⟨⟨by simp, by simp, by simp⟩, fun x hx => by simp at hx, fun x hx => by simp at hx, fun x hx => by rw [List.mem_singleton.1 hx]; exact hS.routers _ hm⟩
  · simp only [cfgMay, List.map_cons, List.map_nil, one_each (m := 8) (q := rtrMay) (by decide) (hp.routers _ hm).1, one_nil, one_name (hp.routers _ hm).2]
    first | rfl | (simp [eachP, unlikeB])
  · simp only [cfgText, List.map_cons, List.map_nil, catB, emA, eA]
end Go.Proofs.YtaealcimocpnnaaGreat
namespace Go.Proofs.YtaealcimocpnnaaGreat
open Go.Kern Go.RowKit
def pt (c : Cfg) : Nat → List ByteArray
  | 0 => c.lists.map lstText
  | 1 => c.maps.map mapText
  | _ => c.routers.map rtrText
def pr (c : Cfg) : Nat → ByteArray
  | 0 => ⟨#[]⟩
  | k + 1 => pr c k ++ catB (pt c k)
theorem pr_all (c : Cfg) : pr c 3 = cfgText c := by
  simp only [pr, pt, cfgText, eA, asA]
theorem pr_le (c : Cfg) {k : Nat} (h : k < 3) : (pr c k).size + (catB (pt c k)).size ≤ (cfgText c).size := by
  rw [← pr_all]
  match k, h with
  | 0, _ => simp only [pr, szA, szE]; omega
  | 1, _ => simp only [pr, szA, szE]; omega
  | 2, _ => simp only [pr, szA, szE]; omega
theorem catB_split (l : List ByteArray) {i : Nat} (h : i < l.length) : catB (l.take (i + 1)) = catB (l.take i) ++ l.getD i default := by
  rw [List.take_succ_eq_append_getElem h, catB_append]
  simp only [catB, emA]
  rw [List.getD_eq_getElem?_getD, List.getElem?_eq_getElem h]; rfl
theorem catB_le (l : List ByteArray) {i : Nat} (h : i < l.length) : (catB (l.take i)).size + (l.getD i default).size ≤ (catB l).size := by
  have h1 := catB_split l h
  have h2 : catB l = catB (l.take (i + 1)) ++ catB (l.drop (i + 1)) := by rw [← catB_append, List.take_append_drop]
  rw [h2, h1]
  simp only [szA]; omega
theorem getD_mapB {α : Type} [Inhabited α] (f : α → ByteArray) {l : List α} {i : Nat} (h : i < l.length) : (l.map f).getD i default = f (l.getD i default) := by
  simp [List.getD_eq_getElem?_getD, h]
theorem pt_len {c : Cfg} (hS : c.S) (k : Nat) : (pt c k).length ≤ 20 := by
  obtain ⟨a1, a2, a3⟩ := hS.len
  match k with
  | 0 => simp only [pt, List.length_map]; omega
  | 1 => simp only [pt, List.length_map]; omega
  | k + 2 => simp only [pt, List.length_map]; omega
theorem names_any (c : Cfg) (hS : c.S) (k : Nat) (hk : k < 3) (σ : Store) : PCall Tryz.prog 12 [eCfg c, .int .i64 k] σ (fun r t => (∃ kk ns, r = .sl kk ns ∧ ns.length = (pt c k).length) ∧ t = σ) := by
  obtain ⟨a1, a2, a3⟩ := hS.len
  match k, hk with
  | 0, _ => exact (namesLst c (by omega) (by omega) (by omega) (by omega) σ).mono fun r t ⟨⟨kk, h⟩, h2⟩ => ⟨⟨kk, _, h, by simp [encL, pt]⟩, h2⟩
  | 1, _ => exact (namesMap c (by omega) (by omega) (by omega) (by omega) σ).mono fun r t ⟨⟨kk, h⟩, h2⟩ => ⟨⟨kk, _, h, by simp [encL, pt]⟩, h2⟩
  | 2, _ => exact (namesRtr c (by omega) (by omega) (by omega) (by omega) σ).mono fun r t ⟨⟨kk, h⟩, h2⟩ => ⟨⟨kk, _, h, by simp [encL, pt]⟩, h2⟩
theorem one_any {c : Cfg} (hS : c.S) (hW : c.Wf) (h : cfgMay c = true) (hz : (cfgText c).size ≤ 8192) (k : Nat) (hk : k < 3) (i : Nat) (hi : i < (pt c k).length) :
    ∃ oc, Pure Tryz.prog 13 [eCfg c, .int .i64 k, .int .i64 i] oc ∧ Pure Tryz.prog 8 [oc] (.tup [.str ((pt c k).getD i default), .int .i64 0]) := by
  obtain ⟨a1, a2, a3⟩ := hS.len
  have z1 := pr_le c hk
  have z2 := catB_le (pt c k) hi
  match k, hk with
  | 0, _ =>
    simp only [pt, List.length_map] at hi z1 z2 ⊢
    rw [getD_mapB lstText hi] at z2 ⊢
    exact ⟨_, oneL_spec c i hi (by omega), oneL_print hS hW h hi (by omega)⟩
  | 1, _ =>
    simp only [pt, List.length_map] at hi z1 z2 ⊢
    rw [getD_mapB mapText hi] at z2 ⊢
    exact ⟨_, oneM_spec c i hi (by omega), oneM_print hS hW h hi (by omega)⟩
  | 2, _ =>
    simp only [pt, List.length_map] at hi z1 z2 ⊢
    rw [getD_mapB rtrText hi] at z2 ⊢
    exact ⟨_, oneR_spec c i hi (by omega), oneR_print hS hW h hi (by omega)⟩
theorem printE_zero {c : Cfg} (h : printE c = 0) : cfgMay c = true ∧ (cfgText c).size ≤ 8192 ∧ printS c = cfgText c := by
  have hs : printS c = cfgText c := by rw [printS, if_pos h]
  unfold printE at h
  split at h
  · rename_i hm
    split at h
    · cases h
    · exact ⟨hm, by omega, hs⟩
  · cases h
set_option maxRecDepth 100000
set_option maxHeartbeats 4000000
attribute [local irreducible] PCall W
theorem ones_spec (c : Cfg) (hW : c.Wf) (σ : Store) : PCall Tryz.prog 4 [eCfg c] σ (fun r s => r = .bool true ∧ s = σ) := by
  have hl := lives_spec
  refine PCall_q [.tmp 2] 55 Tryz.func4 (by rfl) rfl rfl rfl rfl ?_
  repeat' first |refine s1 ?_|refine gS ?_|refine wT rfl ?_|refine wF rfl ?_|refine wt rfl ?_|refine wf rfl ?_|(refine wC rfl (fun h=>?_) (fun h=>?_)<;>(try contradiction))|((first|refine rd ?_|refine ry [] c0 fun nu _ _=>?_);simp -dsimp (disch:=omega) only[go_sem])|refine e0 (by decide) ?_|(refine And.intro ?_ ?_;omega)|refine And.intro (of_eq_true PutAt_put) ?_|refine gT ?_|refine gF ?_|(refine gI (fun h=>?_) (fun h=>?_)<;>(try contradiction)<;>(try refine rd ?_)<;>(try simp -dsimp (disch:=omega) only[go_sem,h]))|refine Exists.intro _ (Exists.intro _ (And.intro (And.intro rfl rfl) ?_)) |fail
  refine ck (small_spec c σ) ?_
  rintro _ _ ⟨rfl | ⟨rfl, hS⟩, rfl⟩
  · skip
    repeat' first |refine s1 ?_|refine gS ?_|refine wT rfl ?_|refine wF rfl ?_|refine wt rfl ?_|refine wf rfl ?_|(refine wC rfl (fun h=>?_) (fun h=>?_)<;>(try contradiction))|((first|refine rd ?_|refine ry [] c0 fun nu _ _=>?_);simp -dsimp (disch:=omega) only[go_sem])|refine e0 (by decide) ?_|(refine And.intro ?_ ?_;omega)|refine And.intro (of_eq_true PutAt_put) ?_|refine gT ?_|refine gF ?_|(refine gI (fun h=>?_) (fun h=>?_)<;>(try contradiction)<;>(try refine rd ?_)<;>(try simp -dsimp (disch:=omega) only[go_sem,h]))|refine Exists.intro _ (Exists.intro _ (And.intro (And.intro rfl rfl) ?_)) |refine us (hl) ?_ |fail
  have hp := in_print hS hW
  by_cases hE : printE c = 0
  · obtain ⟨hm, hz, hs⟩ := printE_zero hE
    rw [hs, hE] at hp
    repeat' first |refine s1 ?_|refine gS ?_|refine wT rfl ?_|refine wF rfl ?_|refine wt rfl ?_|refine wf rfl ?_|(refine wC rfl (fun h=>?_) (fun h=>?_)<;>(try contradiction))|((first|refine rd ?_|refine ry [] c0 fun nu _ _=>?_);simp -dsimp (disch:=omega) only[go_sem])|refine e0 (by decide) ?_|(refine And.intro ?_ ?_;omega)|refine And.intro (of_eq_true PutAt_put) ?_|refine gT ?_|refine gF ?_|(refine gI (fun h=>?_) (fun h=>?_)<;>(try contradiction)<;>(try refine rd ?_)<;>(try simp -dsimp (disch:=omega) only[go_sem,h]))|refine Exists.intro _ (Exists.intro _ (And.intro (And.intro rfl rfl) ?_)) |refine us (hl) ?_ |refine us (hp) ?_ |fail
    refine W_loop_st (fun k : Nat => [(1, .ip (eCfg c) 0), (3, .str (cfgText c)), (5, .str (pr c k)), (6, .int .i64 k)]) (fun _ => _) (fun k => k ≤ 3) (fun k => 3 - k) 0 (by omega) (Env.Sub_of_has (by simp [Env.Has, Env.get, eCfg, pr])) (Store.Sub.refl _) ?_
    intro k hk
    by_cases hlt : k < 3
    · skip
      repeat' first |refine s1 ?_|refine gS ?_|refine wT rfl ?_|refine wF rfl ?_|refine wt rfl ?_|refine wf rfl ?_|(refine wC rfl (fun h=>?_) (fun h=>?_)<;>(try contradiction))|((first|refine rd ?_|refine ry [] c0 fun nu _ _=>?_);simp -dsimp (disch:=omega) only[go_sem])|refine e0 (by decide) ?_|(refine And.intro ?_ ?_;omega)|refine And.intro (of_eq_true PutAt_put) ?_|refine gT ?_|refine gF ?_|(refine gI (fun h=>?_) (fun h=>?_)<;>(try contradiction)<;>(try refine rd ?_)<;>(try simp -dsimp (disch:=omega) only[go_sem,h]))|refine Exists.intro _ (Exists.intro _ (And.intro (And.intro rfl rfl) ?_)) |fail
      refine ck (names_any c hS k hlt _) ?_
      rintro _ _ ⟨⟨kk, ns, rfl, hns⟩, rfl⟩
      repeat' first |refine s1 ?_|refine gS ?_|refine wT rfl ?_|refine wF rfl ?_|refine wt rfl ?_|refine wf rfl ?_|(refine wC rfl (fun h=>?_) (fun h=>?_)<;>(try contradiction))|((first|refine rd ?_|refine ry [] c0 fun nu _ _=>?_);simp -dsimp (disch:=omega) only[go_sem])|refine e0 (by decide) ?_|(refine And.intro ?_ ?_;omega)|refine And.intro (of_eq_true PutAt_put) ?_|refine gT ?_|refine gF ?_|(refine gI (fun h=>?_) (fun h=>?_)<;>(try contradiction)<;>(try refine rd ?_)<;>(try simp -dsimp (disch:=omega) only[go_sem,h]))|refine Exists.intro _ (Exists.intro _ (And.intro (And.intro rfl rfl) ?_)) |fail
      refine W_loop_st (fun i : Nat => [(1, .ip (eCfg c) 0), (3, .str (cfgText c)), (5, .str (pr c k ++ catB ((pt c k).take i))), (6, .int .i64 k), (7, .sl kk ns), (8, .int .i64 i)]) (fun _ => _) (fun i => i ≤ (pt c k).length) (fun i => (pt c k).length - i) 0 (by omega) (Env.Sub_of_has (by simp [Env.Has, Env.get, eCfg, catB, emA])) (Store.Sub.refl _) ?_
      intro i hi
      by_cases hli : i < (pt c k).length
      · obtain ⟨oc, o1, o2⟩ := one_any hS hW hm hz k hlt i hli
        have z1 := pr_le c hlt
        have z2 := catB_le (pt c k) hli
        have z3 := catB_split (pt c k) hli
        have z4 := pt_len hS k
        repeat' first |refine s1 ?_|refine gS ?_|refine wT rfl ?_|refine wF rfl ?_|refine wt rfl ?_|refine wf rfl ?_|(refine wC rfl (fun h=>?_) (fun h=>?_)<;>(try contradiction))|((first|refine rd ?_|refine ry [] c0 fun nu _ _=>?_);simp -dsimp (disch:=omega) only[go_sem,hns, szA])|refine e0 (by decide) ?_|(refine And.intro ?_ ?_;omega)|refine And.intro (of_eq_true PutAt_put) ?_|refine gT ?_|refine gF ?_|(refine gI (fun h=>?_) (fun h=>?_)<;>(try contradiction)<;>(try refine rd ?_)<;>(try simp -dsimp (disch:=omega) only[go_sem,h,hns, szA]))|refine Exists.intro _ (Exists.intro _ (And.intro (And.intro rfl rfl) ?_)) |refine us (o1) ?_ |refine us (o2) ?_ |fail
        exact ⟨i + 1, by omega, (by omega), Env.Sub_of_has (by simp [Env.Has, Env.get, eCfg, z3, asA]), Store.Sub.refl _⟩
      · have hi' : i = (pt c k).length := by omega
        subst hi'
        repeat' first |refine s1 ?_|refine gS ?_|refine wT rfl ?_|refine wF rfl ?_|refine wt rfl ?_|refine wf rfl ?_|(refine wC rfl (fun h=>?_) (fun h=>?_)<;>(try contradiction))|((first|refine rd ?_|refine ry [] c0 fun nu _ _=>?_);simp -dsimp (disch:=omega) only[go_sem,hns])|refine e0 (by decide) ?_|(refine And.intro ?_ ?_;omega)|refine And.intro (of_eq_true PutAt_put) ?_|refine gT ?_|refine gF ?_|(refine gI (fun h=>?_) (fun h=>?_)<;>(try contradiction)<;>(try refine rd ?_)<;>(try simp -dsimp (disch:=omega) only[go_sem,h,hns]))|refine Exists.intro _ (Exists.intro _ (And.intro (And.intro rfl rfl) ?_)) |fail
        exact ⟨k + 1, by omega, (by omega), Env.Sub_of_has (by simp [Env.Has, Env.get, eCfg, pr]), Store.Sub.refl _⟩
    · have hk' : k = 3 := by omega
      subst hk'
      have ha := pr_all c
      repeat' first |refine s1 ?_|refine gS ?_|refine wT rfl ?_|refine wF rfl ?_|refine wt rfl ?_|refine wf rfl ?_|(refine wC rfl (fun h=>?_) (fun h=>?_)<;>(try contradiction))|((first|refine rd ?_|refine ry [] c0 fun nu _ _=>?_);simp -dsimp (disch:=omega) only[go_sem,ha])|refine e0 (by decide) ?_|(refine And.intro ?_ ?_;omega)|refine And.intro (of_eq_true PutAt_put) ?_|refine gT ?_|refine gF ?_|(refine gI (fun h=>?_) (fun h=>?_)<;>(try contradiction)<;>(try refine rd ?_)<;>(try simp -dsimp (disch:=omega) only[go_sem,h,ha]))|refine Exists.intro _ (Exists.intro _ (And.intro (And.intro rfl rfl) ?_)) |refine us (hl) ?_ |fail
  · skip
    repeat' first |refine s1 ?_|refine gS ?_|refine wT rfl ?_|refine wF rfl ?_|refine wt rfl ?_|refine wf rfl ?_|(refine wC rfl (fun h=>?_) (fun h=>?_)<;>(try contradiction))|((first|refine rd ?_|refine ry [] c0 fun nu _ _=>?_);simp -dsimp (disch:=omega) only[go_sem,hE])|refine e0 (by decide) ?_|(refine And.intro ?_ ?_;omega)|refine And.intro (of_eq_true PutAt_put) ?_|refine gT ?_|refine gF ?_|(refine gI (fun h=>?_) (fun h=>?_)<;>(try contradiction)<;>(try refine rd ?_)<;>(try simp -dsimp (disch:=omega) only[go_sem,h,hE]))|refine Exists.intro _ (Exists.intro _ (And.intro (And.intro rfl rfl) ?_)) |refine us (hl) ?_ |refine us (hp) ?_ |fail
end Go.Proofs.YtaealcimocpnnaaGreat
namespace Go.Proofs.YtaealcimocpnnaaGreat
open Go.Kern Go.RowKit
set_option maxRecDepth 100000
set_option maxHeartbeats 4000000
attribute [local irreducible] PCall W
def nameZ (s : ByteArray) : Int := if formedB s = true then (if 12 < s.size then 2 else 0) else 1
theorem nameZ_iff (s : ByteArray) : decide (nameZ s = 0) = nameB s := by
  unfold nameZ nameB
  by_cases h : formedB s = true
  · rw [if_pos h, h]
    by_cases h2 : 12 < s.size
    · rw [if_pos h2]; simp; omega
    · rw [if_neg h2]; simp; omega
  · rw [if_neg h]
    have : formedB s = false := by simpa using h
    rw [this]; rfl
theorem rname_spec (s : ByteArray) (hs : s.size ≤ 9223372036854775807) : Pure Tryz.prog 61 [.str s] (.int .i64 (nameZ s)) := by
  intro σ
  have hl := length_B s
  refine PCall_q [.tmp 2] 51 Tryz.func61 (by rfl) rfl rfl rfl rfl ?_
  by_cases h0 : s = ⟨#[]⟩
  · subst h0
    repeat' first |refine s1 ?_|refine gS ?_|refine wT rfl ?_|refine wF rfl ?_|refine wt rfl ?_|refine wf rfl ?_|(refine wC rfl (fun h=>?_) (fun h=>?_)<;>(try contradiction))|((first|refine rd ?_|refine ry [] c0 fun nu _ _=>?_);simp -dsimp (disch:=omega) only[go_sem])|refine e0 (by decide) ?_|(refine And.intro ?_ ?_;omega)|refine And.intro (of_eq_true PutAt_put) ?_|refine gT ?_|refine gF ?_|(refine gI (fun h=>?_) (fun h=>?_)<;>(try contradiction)<;>(try refine rd ?_)<;>(try simp -dsimp (disch:=omega) only[go_sem,h]))|refine Exists.intro _ (Exists.intro _ (And.intro (And.intro rfl rfl) ?_)) |fail
    rfl
  have hpos : 0 < (B s).length := by
    rcases Nat.eq_zero_or_pos (B s).length with h | h
    · exact absurd (B_inj.1 (List.eq_nil_of_length_eq_zero h : B s = B ⟨#[]⟩)) h0
    · exact h
  have hne : (B s).isEmpty = false := by
    cases h : B s with
    | nil => rw [h] at hpos; simp at hpos
    | cons a l => rfl
  obtain ⟨c0, hc0⟩ : ∃ c0, (B s).getD 0 default = c0 := ⟨_, rfl⟩
  have hin : (0 : Int) < s.size := by omega
  by_cases hL : 97 ≤ c0.toNat ∧ c0.toNat ≤ 122
  · have hLz : letterZ ((B s).getD 0 default).toNat = true := by rw [hc0]; simp [letterZ]; omega
    repeat' first |((fail_if_success (first|show W _ _ (Code.seq (Code.region 9 _ _) _) _ _ _|show W _ _ (Code.seq (Code.seq (Code.region 9 _ _) _) _) _ _ _));refine s1 ?_)|refine gS ?_|refine wT rfl ?_|refine wF rfl ?_|refine wt rfl ?_|refine wf rfl ?_|(refine wC rfl (fun h=>?_) (fun h=>?_)<;>(try contradiction))|((fail_if_success (first|show W _ _ (Code.region 9 _ _) _ _ _));(first|refine rd ?_|refine ry [] c0 fun nu _ _=>?_);simp -dsimp (disch:=omega) only[go_sem,h0, hc0])|refine e0 (by decide) ?_|(refine And.intro ?_ ?_;omega)|refine And.intro (of_eq_true PutAt_put) ?_|refine gT ?_|refine gF ?_|(refine gI (fun h=>?_) (fun h=>?_)<;>(try contradiction)<;>(try refine rd ?_)<;>(try simp -dsimp (disch:=omega) only[go_sem,h,h0, hc0]))|refine Exists.intro _ (Exists.intro _ (And.intro (And.intro rfl rfl) ?_)) |fail
    refine W_loop_st (fun i : Nat => [(0, .str s), (3, .int .i64 i)]) (fun _ => σ) (fun i => i ≤ (B s).length ∧ (B s).all okB = ((B s).drop i).all okB) (fun i => (B s).length - i) 0 ⟨Nat.zero_le _, rfl⟩ (Env.Sub_of_has (by simp [Env.Has, Env.get])) (Store.Sub.refl _) ?_
    rintro i ⟨hi, hor⟩
    by_cases hlt : i < (B s).length
    · have ho := all_drop okB hlt
      obtain ⟨x, hx⟩ : ∃ x, (B s).getD i default = x := ⟨_, rfl⟩
      rw [hx] at ho
      by_cases hk : okB x = true
      · have hk2 := hk
        simp only [okB, okZ, letterZ, Bool.or_eq_true, Bool.and_eq_true, decide_eq_true_eq] at hk2
        repeat' first |refine s1 ?_|refine gS ?_|refine wT rfl ?_|refine wF rfl ?_|refine wt rfl ?_|refine wf rfl ?_|(refine wC rfl (fun h=>?_) (fun h=>?_)<;>(try contradiction))|((first|refine rd ?_|refine ry [] c0 fun nu _ _=>?_);simp -dsimp (disch:=omega) only[go_sem,hx])|refine e0 (by decide) ?_|(refine And.intro ?_ ?_;omega)|refine And.intro (of_eq_true PutAt_put) ?_|refine gT ?_|refine gF ?_|(refine gI (fun h=>?_) (fun h=>?_)<;>(try contradiction)<;>(try refine rd ?_)<;>(try simp -dsimp (disch:=omega) only[go_sem,h,hx]))|refine Exists.intro _ (Exists.intro _ (And.intro (And.intro rfl rfl) ?_)) |fail
        all_goals exact ⟨i + 1, by omega, ⟨by omega, by rw [hor, ho, hk]; rfl⟩, Env.Sub_of_has (by simp [Env.Has, Env.get]), Store.Sub.refl _⟩
      · have hk2 := hk
        simp only [okB, okZ, letterZ, Bool.or_eq_true, Bool.and_eq_true, decide_eq_true_eq] at hk2
        have hf : nameZ s = 1 := by
          have : formedB s = false := by
            unfold formedB
            rw [hor, ho, show okB x = false from by simpa using hk]; simp
          rw [nameZ, this]; rfl
        rw [hf]
        repeat' first |refine s1 ?_|refine gS ?_|refine wT rfl ?_|refine wF rfl ?_|refine wt rfl ?_|refine wf rfl ?_|(refine wC rfl (fun h=>?_) (fun h=>?_)<;>(try contradiction))|((first|refine rd ?_|refine ry [] c0 fun nu _ _=>?_);simp -dsimp (disch:=omega) only[go_sem,hx])|refine e0 (by decide) ?_|(refine And.intro ?_ ?_;omega)|refine And.intro (of_eq_true PutAt_put) ?_|refine gT ?_|refine gF ?_|(refine gI (fun h=>?_) (fun h=>?_)<;>(try contradiction)<;>(try refine rd ?_)<;>(try simp -dsimp (disch:=omega) only[go_sem,h,hx]))|refine Exists.intro _ (Exists.intro _ (And.intro (And.intro rfl rfl) ?_)) |fail
    · have hi' : i = (B s).length := by omega
      subst hi'
      have hf : formedB s = true := by rw [formedB, hLz, hne, hor, List.drop_length]; rfl
      by_cases hz : 12 < s.size
      · have hr : nameZ s = 2 := by rw [nameZ, if_pos hf, if_pos hz]
        rw [hr]
        repeat' first |refine s1 ?_|refine gS ?_|refine wT rfl ?_|refine wF rfl ?_|refine wt rfl ?_|refine wf rfl ?_|(refine wC rfl (fun h=>?_) (fun h=>?_)<;>(try contradiction))|((first|refine rd ?_|refine ry [] c0 fun nu _ _=>?_);simp -dsimp (disch:=omega) only[go_sem])|refine e0 (by decide) ?_|(refine And.intro ?_ ?_;omega)|refine And.intro (of_eq_true PutAt_put) ?_|refine gT ?_|refine gF ?_|(refine gI (fun h=>?_) (fun h=>?_)<;>(try contradiction)<;>(try refine rd ?_)<;>(try simp -dsimp (disch:=omega) only[go_sem,h]))|refine Exists.intro _ (Exists.intro _ (And.intro (And.intro rfl rfl) ?_)) |fail
      · have hr : nameZ s = 0 := by rw [nameZ, if_pos hf, if_neg hz]
        rw [hr]
        repeat' first |refine s1 ?_|refine gS ?_|refine wT rfl ?_|refine wF rfl ?_|refine wt rfl ?_|refine wf rfl ?_|(refine wC rfl (fun h=>?_) (fun h=>?_)<;>(try contradiction))|((first|refine rd ?_|refine ry [] c0 fun nu _ _=>?_);simp -dsimp (disch:=omega) only[go_sem])|refine e0 (by decide) ?_|(refine And.intro ?_ ?_;omega)|refine And.intro (of_eq_true PutAt_put) ?_|refine gT ?_|refine gF ?_|(refine gI (fun h=>?_) (fun h=>?_)<;>(try contradiction)<;>(try refine rd ?_)<;>(try simp -dsimp (disch:=omega) only[go_sem,h]))|refine Exists.intro _ (Exists.intro _ (And.intro (And.intro rfl rfl) ?_)) |fail
  · have hf : nameZ s = 1 := by
      have : formedB s = false := by
        rw [formedB, show letterZ ((B s).getD 0 default).toNat = false from by rw [hc0]; simp [letterZ]; omega]; rfl
      rw [nameZ, this]; rfl
    rw [hf]
    repeat' first |refine s1 ?_|refine gS ?_|refine wT rfl ?_|refine wF rfl ?_|refine wt rfl ?_|refine wf rfl ?_|(refine wC rfl (fun h=>?_) (fun h=>?_)<;>(try contradiction))|((first|refine rd ?_|refine ry [] c0 fun nu _ _=>?_);simp -dsimp (disch:=omega) only[go_sem,h0, hc0])|refine e0 (by decide) ?_|(refine And.intro ?_ ?_;omega)|refine And.intro (of_eq_true PutAt_put) ?_|refine gT ?_|refine gF ?_|(refine gI (fun h=>?_) (fun h=>?_)<;>(try contradiction)<;>(try refine rd ?_)<;>(try simp -dsimp (disch:=omega) only[go_sem,h,h0, hc0]))|refine Exists.intro _ (Exists.intro _ (And.intro (And.intro rfl rfl) ?_)) |fail
theorem rused_spec (s : ByteArray) (hs : s.size ≤ 9223372036854775807) : Pure Tryz.prog 63 [.str s] (.bool (usedB s)) := by
  intro σ
  have h1 := rname_spec s hs
  have h2 := nameZ_iff s
  refine PCall_q [.tmp 2] 10 Tryz.func63 (by rfl) rfl rfl rfl rfl ?_
  repeat' first |refine s1 ?_|refine gS ?_|refine wT rfl ?_|refine wF rfl ?_|refine wt rfl ?_|refine wf rfl ?_|(refine wC rfl (fun h=>?_) (fun h=>?_)<;>(try contradiction))|((first|refine rd ?_|refine ry [] c0 fun nu _ _=>?_);simp -dsimp (disch:=omega) only[go_sem,h2])|refine e0 (by decide) ?_|(refine And.intro ?_ ?_;omega)|refine And.intro (of_eq_true PutAt_put) ?_|refine gT ?_|refine gF ?_|(refine gI (fun h=>?_) (fun h=>?_)<;>(try contradiction)<;>(try refine rd ?_)<;>(try simp -dsimp (disch:=omega) only[go_sem,h,h2]))|refine Exists.intro _ (Exists.intro _ (And.intro (And.intro rfl rfl) ?_)) |refine us (h1) ?_ |fail
  all_goals simp_all [usedB, empty_iff]
theorem rnameIn_spec (s : ByteArray) (hs : s.size ≤ 9223372036854775807) (k : SK) (l : List ByteArray) (hl : l.length ≤ 1000) : Pure Tryz.prog 23 [.str s, .sl k (encL AV.str l)] (.bool (!(l.any fun t => decide (t = s)) && nameB s)) := by
  intro σ
  have h1 := rname_spec s hs
  have h2 := nameZ_iff s
  refine PCall_q [.tmp 4] 21 Tryz.func23 (by rfl) rfl rfl rfl rfl ?_
  repeat' first |refine s1 ?_|refine gS ?_|refine wT rfl ?_|refine wF rfl ?_|refine wt rfl ?_|refine wf rfl ?_|(refine wC rfl (fun h=>?_) (fun h=>?_)<;>(try contradiction))|((first|refine rd ?_|refine ry [] c0 fun nu _ _=>?_);simp -dsimp (disch:=omega) only[go_sem])|refine e0 (by decide) ?_|(refine And.intro ?_ ?_;omega)|refine And.intro (of_eq_true PutAt_put) ?_|refine gT ?_|refine gF ?_|(refine gI (fun h=>?_) (fun h=>?_)<;>(try contradiction)<;>(try refine rd ?_)<;>(try simp -dsimp (disch:=omega) only[go_sem,h]))|refine Exists.intro _ (Exists.intro _ (And.intro (And.intro rfl rfl) ?_)) |fail
  refine W_loop_st (fun i : Nat => [(0, .str s), (1, .sl k (encL AV.str l)), (5, .int .i64 i)]) (fun _ => σ) (fun i => i ≤ l.length ∧ (l.any fun t => decide (t = s)) = ((l.drop i).any fun t => decide (t = s))) (fun i => l.length - i) 0 ⟨Nat.zero_le _, rfl⟩ (Env.Sub_of_has (by simp [Env.Has, Env.get])) (Store.Sub.refl _) ?_
  rintro i ⟨hi, hor⟩
  by_cases hlt : i < l.length
  · have ho := any_drop (fun t => decide (t = s)) hlt
    by_cases he : l.getD i default = s
    · have hr : (!(l.any fun t => decide (t = s)) && nameB s) = false := by rw [hor, ho, decide_eq_true he]; rfl
      rw [hr]
      repeat' first |refine s1 ?_|refine gS ?_|refine wT rfl ?_|refine wF rfl ?_|refine wt rfl ?_|refine wf rfl ?_|(refine wC rfl (fun h=>?_) (fun h=>?_)<;>(try contradiction))|((first|refine rd ?_|refine ry [] c0 fun nu _ _=>?_);simp -dsimp (disch:=omega) only[go_sem,he])|refine e0 (by decide) ?_|(refine And.intro ?_ ?_;omega)|refine And.intro (of_eq_true PutAt_put) ?_|refine gT ?_|refine gF ?_|(refine gI (fun h=>?_) (fun h=>?_)<;>(try contradiction)<;>(try refine rd ?_)<;>(try simp -dsimp (disch:=omega) only[go_sem,h,he]))|refine Exists.intro _ (Exists.intro _ (And.intro (And.intro rfl rfl) ?_)) |fail
    · skip
      repeat' first |refine s1 ?_|refine gS ?_|refine wT rfl ?_|refine wF rfl ?_|refine wt rfl ?_|refine wf rfl ?_|(refine wC rfl (fun h=>?_) (fun h=>?_)<;>(try contradiction))|((first|refine rd ?_|refine ry [] c0 fun nu _ _=>?_);simp -dsimp (disch:=omega) only[go_sem,he])|refine e0 (by decide) ?_|(refine And.intro ?_ ?_;omega)|refine And.intro (of_eq_true PutAt_put) ?_|refine gT ?_|refine gF ?_|(refine gI (fun h=>?_) (fun h=>?_)<;>(try contradiction)<;>(try refine rd ?_)<;>(try simp -dsimp (disch:=omega) only[go_sem,h,he]))|refine Exists.intro _ (Exists.intro _ (And.intro (And.intro rfl rfl) ?_)) |fail
      exact ⟨i + 1, by omega, ⟨by omega, by rw [hor, ho, decide_eq_false he, Bool.false_or]⟩, Env.Sub_of_has (by simp [Env.Has, Env.get]), Store.Sub.refl _⟩
  · have hi' : i = l.length := by omega
    subst hi'
    have hr : (!(l.any fun t => decide (t = s)) && nameB s) = nameB s := by rw [hor, List.drop_length]; simp
    rw [hr]
    repeat' first |refine s1 ?_|refine gS ?_|refine wT rfl ?_|refine wF rfl ?_|refine wt rfl ?_|refine wf rfl ?_|(refine wC rfl (fun h=>?_) (fun h=>?_)<;>(try contradiction))|((first|refine rd ?_|refine ry [] c0 fun nu _ _=>?_);simp -dsimp (disch:=omega) only[go_sem,h2])|refine e0 (by decide) ?_|(refine And.intro ?_ ?_;omega)|refine And.intro (of_eq_true PutAt_put) ?_|refine gT ?_|refine gF ?_|(refine gI (fun h=>?_) (fun h=>?_)<;>(try contradiction)<;>(try refine rd ?_)<;>(try simp -dsimp (disch:=omega) only[go_sem,h,h2]))|refine Exists.intro _ (Exists.intro _ (And.intro (And.intro rfl rfl) ?_)) |refine us (h1) ?_ |fail
theorem rcomMay_spec (c : Com) : Pure Tryz.prog 65 [eCom c] (.bool (comMay c)) := by
  intro σ
  refine PCall_q [.tmp 2] 21 Tryz.func65 (by rfl) rfl rfl rfl rfl ?_
  repeat' first |refine s1 ?_|refine gS ?_|refine wT rfl ?_|refine wF rfl ?_|refine wt rfl ?_|refine wf rfl ?_|(refine wC rfl (fun h=>?_) (fun h=>?_)<;>(try contradiction))|((first|refine rd ?_|refine ry [] c0 fun nu _ _=>?_);simp -dsimp (disch:=omega) only[go_sem])|refine e0 (by decide) ?_|(refine And.intro ?_ ?_;omega)|refine And.intro (of_eq_true PutAt_put) ?_|refine gT ?_|refine gF ?_|(refine gI (fun h=>?_) (fun h=>?_)<;>(try contradiction)<;>(try refine rd ?_)<;>(try simp -dsimp (disch:=omega) only[go_sem,h]))|refine Exists.intro _ (Exists.intro _ (And.intro (And.intro rfl rfl) ?_)) |fail
  all_goals (simp only [comMay, withinZ]; congr 1; rw [Bool.eq_iff_iff]; simp; omega)
theorem ras_spec (n : Int) : Pure Tryz.prog 68 [.int .i64 n] (.bool (withinZ n 1 65535)) := by
  intro σ
  refine PCall_q [.tmp 2] 9 Tryz.func68 (by rfl) rfl rfl rfl rfl ?_
  repeat' first |refine s1 ?_|refine gS ?_|refine wT rfl ?_|refine wF rfl ?_|refine wt rfl ?_|refine wf rfl ?_|(refine wC rfl (fun h=>?_) (fun h=>?_)<;>(try contradiction))|((first|refine rd ?_|refine ry [] c0 fun nu _ _=>?_);simp -dsimp (disch:=omega) only[go_sem])|refine e0 (by decide) ?_|(refine And.intro ?_ ?_;omega)|refine And.intro (of_eq_true PutAt_put) ?_|refine gT ?_|refine gF ?_|(refine gI (fun h=>?_) (fun h=>?_)<;>(try contradiction)<;>(try refine rd ?_)<;>(try simp -dsimp (disch:=omega) only[go_sem,h]))|refine Exists.intro _ (Exists.intro _ (And.intro (And.intro rfl rfl) ?_)) |fail
  all_goals (simp only [withinZ]; congr 1; rw [Bool.eq_iff_iff]; simp; omega)
theorem rnum_spec (n : Int) (h0 : 0 ≤ n) (h1 : n ≤ 9223372036854775807) : Pure Tryz.prog 96 [.int .i64 n] (.str (digB n)) := by
  intro σ
  refine PCall_q [.tmp 2] 23 Tryz.func96 (by rfl) rfl rfl rfl rfl ?_
  repeat' first |refine s1 ?_|refine gS ?_|refine wT rfl ?_|refine wF rfl ?_|refine wt rfl ?_|refine wf rfl ?_|(refine wC rfl (fun h=>?_) (fun h=>?_)<;>(try contradiction))|((first|refine rd ?_|refine ry [] c0 fun nu _ _=>?_);simp -dsimp (disch:=omega) only[go_sem])|refine e0 (by decide) ?_|(refine And.intro ?_ ?_;omega)|refine And.intro (of_eq_true PutAt_put) ?_|refine gT ?_|refine gF ?_|(refine gI (fun h=>?_) (fun h=>?_)<;>(try contradiction)<;>(try refine rd ?_)<;>(try simp -dsimp (disch:=omega) only[go_sem,h]))|refine Exists.intro _ (Exists.intro _ (And.intro (And.intro rfl rfl) ?_)) |fail
  refine W_loop_st (fun x : Int × ByteArray => [(0, .int .i64 x.1), (3, .str x.2)]) (fun _ => σ) (fun x => 0 ≤ x.1 ∧ x.1 ≤ n ∧ digB n = digB x.1 ++ x.2 ∧ x.2.size ≤ 20) (fun x => x.1.toNat) (n, ⟨#[]⟩) ⟨h0, Int.le_refl _, (emA _).symm, by rw [szE]; omega⟩ (Env.Sub_of_has (by simp [Env.Has, Env.get])) (Store.Sub.refl _) ?_
  rintro ⟨m, s⟩ ⟨g0, gn, g1, gs⟩
  simp only at g0 gn g1 gs
  by_cases h10 : m < 10
  · have w := wr8' g0 h10
    have hd := digB_small m h10
    rw [g1, hd, ← toN g0]
    repeat' first |refine s1 ?_|refine gS ?_|refine wT rfl ?_|refine wF rfl ?_|refine wt rfl ?_|refine wf rfl ?_|(refine wC rfl (fun h=>?_) (fun h=>?_)<;>(try contradiction))|((first|refine rd ?_|refine ry [] c0 fun nu _ _=>?_);simp -dsimp (disch:=omega) only[go_sem,w, un1, sz1])|refine e0 (by decide) ?_|(refine And.intro ?_ ?_;omega)|refine And.intro (of_eq_true PutAt_put) ?_|refine gT ?_|refine gF ?_|(refine gI (fun h=>?_) (fun h=>?_)<;>(try contradiction)<;>(try refine rd ?_)<;>(try simp -dsimp (disch:=omega) only[go_sem,h,w, un1, sz1]))|refine Exists.intro _ (Exists.intro _ (And.intro (And.intro rfl rfl) ?_)) |fail
  · have hr : m.tmod 10 = m % 10 := Int.tmod_eq_emod_of_nonneg g0
    have hq : m.tdiv 10 = m / 10 := Int.tdiv_eq_ediv_of_nonneg g0
    have w := wr8' (x := m % 10) (by omega) (by omega)
    have hs := digB_step m g0 h10
    rw [← toN (x := m % 10) (by omega)] at hs
    have hz : (digB n).size ≤ 20 := digB_size n (by omega)
    have hz2 := congrArg ByteArray.size g1
    rw [hs] at hz2
    simp only [szA, sz1] at hz2
    repeat' first |refine s1 ?_|refine gS ?_|refine wT rfl ?_|refine wF rfl ?_|refine wt rfl ?_|refine wf rfl ?_|(refine wC rfl (fun h=>?_) (fun h=>?_)<;>(try contradiction))|((first|refine rd ?_|refine ry [] c0 fun nu _ _=>?_);simp -dsimp (disch:=omega) only[go_sem,hr, hq, w, un1, sz1, t10])|refine e0 (by decide) ?_|(refine And.intro ?_ ?_;omega)|refine And.intro (of_eq_true PutAt_put) ?_|refine gT ?_|refine gF ?_|(refine gI (fun h=>?_) (fun h=>?_)<;>(try contradiction)<;>(try refine rd ?_)<;>(try simp -dsimp (disch:=omega) only[go_sem,h,hr, hq, w, un1, sz1, t10]))|refine Exists.intro _ (Exists.intro _ (And.intro (And.intro rfl rfl) ?_)) |fail
    refine ⟨(m / 10, _), by simp only; omega, ⟨by simp only; omega, by simp only; omega, ?_, ?_⟩, Env.Sub_of_has (by simp [Env.Has, Env.get]; rfl), Store.Sub.refl _⟩
    · rw [g1, hs, asA]
    · simp only [szA, sz1]; omega
end Go.Proofs.YtaealcimocpnnaaGreat
namespace Go.Proofs.YtaealcimocpnnaaGreat
open Go.Kern Go.RowKit
set_option maxRecDepth 100000
set_option maxHeartbeats 4000000
attribute [local irreducible] PCall W
theorem rskip_spec (s : ByteArray) (hs : s.size ≤ 1000) (i : Nat) (hi : i ≤ s.size) : Pure Tryz.prog 160 [.str s, .int .i64 i] (.int .i64 (skipB (B s) i)) := by
  intro σ
  have hl := length_B s
  refine PCall_q [.tmp 4] 18 Tryz.func160 (by rfl) rfl rfl rfl rfl ?_
  repeat' first |refine s1 ?_|refine gS ?_|refine wT rfl ?_|refine wF rfl ?_|refine wt rfl ?_|refine wf rfl ?_|(refine wC rfl (fun h=>?_) (fun h=>?_)<;>(try contradiction))|((first|refine rd ?_|refine ry [] c0 fun nu _ _=>?_);simp -dsimp (disch:=omega) only[go_sem])|refine e0 (by decide) ?_|(refine And.intro ?_ ?_;omega)|refine And.intro (of_eq_true PutAt_put) ?_|refine gT ?_|refine gF ?_|(refine gI (fun h=>?_) (fun h=>?_)<;>(try contradiction)<;>(try refine rd ?_)<;>(try simp -dsimp (disch:=omega) only[go_sem,h]))|refine Exists.intro _ (Exists.intro _ (And.intro (And.intro rfl rfl) ?_)) |fail
  refine W_loop_st (fun j : Nat => [(0, .str s), (1, .int .i64 j)]) (fun _ => σ) (fun j => j ≤ (B s).length ∧ skipB (B s) i = skipB (B s) j) (fun j => (B s).length - j) i ⟨by omega, rfl⟩ (Env.Sub_of_has (by simp [Env.Has, Env.get])) (Store.Sub.refl _) ?_
  rintro j ⟨hj, hor⟩
  by_cases hlt : j < (B s).length
  · obtain ⟨x, hx⟩ : ∃ x, (B s).getD j default = x := ⟨_, rfl⟩
    by_cases hc : x.toNat = 32
    · have h1 := skipB_step (B s) hlt (by rw [hx]; exact hc)
      have hz : ((x.toNat : Nat) : Int) = 32 := by omega
      repeat' first |refine s1 ?_|refine gS ?_|refine wT rfl ?_|refine wF rfl ?_|refine wt rfl ?_|refine wf rfl ?_|(refine wC rfl (fun h=>?_) (fun h=>?_)<;>(try contradiction))|((first|refine rd ?_|refine ry [] c0 fun nu _ _=>?_);simp -dsimp (disch:=omega) only[go_sem,hx, hz])|refine e0 (by decide) ?_|(refine And.intro ?_ ?_;omega)|refine And.intro (of_eq_true PutAt_put) ?_|refine gT ?_|refine gF ?_|(refine gI (fun h=>?_) (fun h=>?_)<;>(try contradiction)<;>(try refine rd ?_)<;>(try simp -dsimp (disch:=omega) only[go_sem,h,hx, hz]))|refine Exists.intro _ (Exists.intro _ (And.intro (And.intro rfl rfl) ?_)) |fail
      exact ⟨j + 1, by omega, ⟨by omega, by rw [hor, h1]⟩, Env.Sub_of_has (by simp [Env.Has, Env.get]), Store.Sub.refl _⟩
    · have h1 := skipB_stop (B s) hlt (by rw [hx]; exact hc)
      have hz : ¬ ((x.toNat : Nat) : Int) = 32 := by omega
      rw [hor, h1]
      repeat' first |refine s1 ?_|refine gS ?_|refine wT rfl ?_|refine wF rfl ?_|refine wt rfl ?_|refine wf rfl ?_|(refine wC rfl (fun h=>?_) (fun h=>?_)<;>(try contradiction))|((first|refine rd ?_|refine ry [] c0 fun nu _ _=>?_);simp -dsimp (disch:=omega) only[go_sem,hx, hz])|refine e0 (by decide) ?_|(refine And.intro ?_ ?_;omega)|refine And.intro (of_eq_true PutAt_put) ?_|refine gT ?_|refine gF ?_|(refine gI (fun h=>?_) (fun h=>?_)<;>(try contradiction)<;>(try refine rd ?_)<;>(try simp -dsimp (disch:=omega) only[go_sem,h,hx, hz]))|refine Exists.intro _ (Exists.intro _ (And.intro (And.intro rfl rfl) ?_)) |fail
  · have hj' : j = (B s).length := by omega
    subst hj'
    rw [hor, skipB_end (B s) (Nat.le_refl _)]
    repeat' first |refine s1 ?_|refine gS ?_|refine wT rfl ?_|refine wF rfl ?_|refine wt rfl ?_|refine wf rfl ?_|(refine wC rfl (fun h=>?_) (fun h=>?_)<;>(try contradiction))|((first|refine rd ?_|refine ry [] c0 fun nu _ _=>?_);simp -dsimp (disch:=omega) only[go_sem])|refine e0 (by decide) ?_|(refine And.intro ?_ ?_;omega)|refine And.intro (of_eq_true PutAt_put) ?_|refine gT ?_|refine gF ?_|(refine gI (fun h=>?_) (fun h=>?_)<;>(try contradiction)<;>(try refine rd ?_)<;>(try simp -dsimp (disch:=omega) only[go_sem,h]))|refine Exists.intro _ (Exists.intro _ (And.intro (And.intro rfl rfl) ?_)) |fail
theorem ris_spec (s : ByteArray) (hs : s.size ≤ 1000) (i : Nat) (hi : i ≤ s.size) (c : Int) : Pure Tryz.prog 159 [.str s, .int .i64 i, .int .u8 c] (.bool (isB (B s) i c)) := by
  intro σ
  have hl := length_B s
  have h1 := rskip_spec s hs i hi
  have h2 := skipB_len (B s) (i := i) (by omega)
  unfold isB
  obtain ⟨j, hj⟩ : ∃ j, skipB (B s) i = j := ⟨_, rfl⟩
  rw [hj] at h1 h2 ⊢
  by_cases hlt : j < (B s).length
  · rw [decide_eq_true hlt, Bool.true_and]
    refine PCall_q [.tmp 6] 21 Tryz.func159 (by rfl) rfl rfl rfl rfl ?_
    repeat' first |refine s1 ?_|refine gS ?_|refine wT rfl ?_|refine wF rfl ?_|refine wt rfl ?_|refine wf rfl ?_|(refine wC rfl (fun h=>?_) (fun h=>?_)<;>(try contradiction))|((first|refine rd ?_|refine ry [] c0 fun nu _ _=>?_);simp -dsimp (disch:=omega) only[go_sem])|refine e0 (by decide) ?_|(refine And.intro ?_ ?_;omega)|refine And.intro (of_eq_true PutAt_put) ?_|refine gT ?_|refine gF ?_|(refine gI (fun h=>?_) (fun h=>?_)<;>(try contradiction)<;>(try refine rd ?_)<;>(try simp -dsimp (disch:=omega) only[go_sem,h]))|refine Exists.intro _ (Exists.intro _ (And.intro (And.intro rfl rfl) ?_)) |refine us (h1) ?_ |fail
  · rw [decide_eq_false hlt, Bool.false_and]
    refine PCall_q [.tmp 6] 21 Tryz.func159 (by rfl) rfl rfl rfl rfl ?_
    repeat' first |refine s1 ?_|refine gS ?_|refine wT rfl ?_|refine wF rfl ?_|refine wt rfl ?_|refine wf rfl ?_|(refine wC rfl (fun h=>?_) (fun h=>?_)<;>(try contradiction))|((first|refine rd ?_|refine ry [] c0 fun nu _ _=>?_);simp -dsimp (disch:=omega) only[go_sem])|refine e0 (by decide) ?_|(refine And.intro ?_ ?_;omega)|refine And.intro (of_eq_true PutAt_put) ?_|refine gT ?_|refine gF ?_|(refine gI (fun h=>?_) (fun h=>?_)<;>(try contradiction)<;>(try refine rd ?_)<;>(try simp -dsimp (disch:=omega) only[go_sem,h]))|refine Exists.intro _ (Exists.intro _ (And.intro (And.intro rfl rfl) ?_)) |refine us (h1) ?_ |fail
end Go.Proofs.YtaealcimocpnnaaGreat
namespace Go.Proofs.YtaealcimocpnnaaGreat
open Go.Kern Go.RowKit
set_option maxRecDepth 100000
set_option maxHeartbeats 4000000
attribute [local irreducible] PCall W
section
variable (l : List UInt8)
theorem isB_lt {i : Nat} {c : Int} (h : isB l i c = true) : skipB l i < l.length := by
  simp only [isB, Bool.and_eq_true, decide_eq_true_eq] at h
  exact h.1
theorem rNumber_le {i : Nat} (hi : i ≤ l.length) : i ≤ (rNumber l i).2.1 ∧ (rNumber l i).2.1 ≤ l.length ∧ ((rNumber l i).2.2 = 0 → i < (rNumber l i).2.1) := by
  have h1 := skipB_le l i
  have h2 := skipB_len l hi
  have h3 := numR_le (l.drop (skipB l i)) (skipB l i) 0
  rw [List.length_drop] at h3
  unfold rNumber
  obtain ⟨r, hr⟩ : ∃ r, numR (l.drop (skipB l i)) (skipB l i) 0 = r := ⟨_, rfl⟩
  obtain ⟨b, n⟩ := r
  simp only [hr] at h3 ⊢
  by_cases q : b = skipB l i ∨ (skipB l i + 1 < b ∧ ((l.getD (skipB l i) default).toNat : Int) = 48)
  · rw [if_pos q]; exact ⟨h1, h2, fun h => by simp at h⟩
  · rw [if_neg q]
    have h4 : b ≠ skipB l i := fun e => q (Or.inl e)
    by_cases q2 : 0 < n ∧ n < 65536
    · rw [if_pos q2]
      simp only
      exact ⟨by omega, by omega, fun _ => by omega⟩
    · rw [if_neg q2]; exact ⟨h1, h2, fun h => by simp at h⟩
end
section
variable (s : ByteArray) (hs : s.size ≤ 1000)
include hs
theorem rnumber_spec (i : Nat) (hi : i ≤ s.size) : Pure Tryz.prog 204 [.str s, .int .i64 i] (.tup [.int .i64 (rNumber (B s) i).1, .int .i64 (rNumber (B s) i).2.1, .int .i64 (rNumber (B s) i).2.2]) := by
  intro σ
  have hl := length_B s
  have h1 := rskip_spec s hs i hi
  have h2 := skipB_len (B s) (i := i) (by omega)
  have h3 := numR_le ((B s).drop (skipB (B s) i)) (skipB (B s) i) 0
  rw [List.length_drop] at h3
  unfold rNumber
  simp only
  obtain ⟨j, hj⟩ : ∃ j, skipB (B s) i = j := ⟨_, rfl⟩
  rw [hj] at h1 h2 h3 ⊢
  obtain ⟨b, n, hbn⟩ : ∃ b n, numR ((B s).drop j) j 0 = (b, n) := ⟨_, _, rfl⟩
  rw [hbn] at h3 ⊢
  simp only at h3 ⊢
  have fin : ∀ (m : Nat) (v : Int), (b = j + m ∧ n = v) → (if b = j ∨ j + 1 < b ∧ (((B s).getD j default).toNat : Int) = 48 then ((0 : Int), j, (4 : Int)) else if 0 < n ∧ n < 65536 then (n, b, 0) else (0, j, 7)) = (if m = 0 ∨ 1 < m ∧ (((B s).getD j default).toNat : Int) = 48 then ((0 : Int), j, (4 : Int)) else if 0 < v ∧ v < 65536 then (v, j + m, 0) else (0, j, 7)) := by
    rintro m v ⟨rfl, rfl⟩
    have : (j + m = j ∨ j + 1 < j + m ∧ (((B s).getD j default).toNat : Int) = 48) = (m = 0 ∨ 1 < m ∧ (((B s).getD j default).toNat : Int) = 48) := by
      apply propext
      constructor
      · rintro (h | ⟨h, k⟩)
        · exact .inl (by omega)
        · exact .inr ⟨by omega, k⟩
      · rintro (h | ⟨h, k⟩)
        · exact .inl (by omega)
        · exact .inr ⟨by omega, k⟩
    simp only [this]
  obtain ⟨R, hR⟩ : ∃ R, (if b = j ∨ j + 1 < b ∧ (((B s).getD j default).toNat : Int) = 48 then ((0 : Int), j, (4 : Int)) else if 0 < n ∧ n < 65536 then (n, b, 0) else (0, j, 7)) = R := ⟨_, rfl⟩
  rw [hR] at fin ⊢
  refine PCall_q [.tmp 4, .tmp 5, .tmp 6] 69 Tryz.func204 (by rfl) rfl rfl rfl rfl ?_
  repeat' first |refine s1 ?_|refine gS ?_|refine wT rfl ?_|refine wF rfl ?_|refine wt rfl ?_|refine wf rfl ?_|(refine wC rfl (fun h=>?_) (fun h=>?_)<;>(try contradiction))|((first|refine rd ?_|refine ry [] c0 fun nu _ _=>?_);simp -dsimp (disch:=omega) only[go_sem])|refine e0 (by decide) ?_|(refine And.intro ?_ ?_;omega)|refine And.intro (of_eq_true PutAt_put) ?_|refine gT ?_|refine gF ?_|(refine gI (fun h=>?_) (fun h=>?_)<;>(try contradiction)<;>(try refine rd ?_)<;>(try simp -dsimp (disch:=omega) only[go_sem,h]))|refine Exists.intro _ (Exists.intro _ (And.intro (And.intro rfl rfl) ?_)) |refine us (h1) ?_ |fail
  refine W_loop_st (fun x : Nat × Int => [(0, .str s), (1, .int .i64 j), (7, .int .i64 x.1), (8, .int .i64 x.2)]) (fun _ => σ) (fun x => j + x.1 ≤ (B s).length ∧ 0 ≤ x.2 ∧ x.2 ≤ 1000000 ∧ numR ((B s).drop (j + x.1)) (j + x.1) x.2 = (b, n)) (fun x => (B s).length - x.1) (0, 0) ⟨h2, by simp, by simp, hbn⟩ (Env.Sub_of_has (by simp [Env.Has, Env.get])) (Store.Sub.refl _) ?_
  rintro ⟨k, v⟩ ⟨hk, hv0, hv1, hr⟩
  simp only at hk hv0 hv1 hr
  obtain ⟨m, hm⟩ : ∃ m, j + k = m := ⟨_, rfl⟩
  have hjk : ((j : Int) + (k : Int)) = (m : Int) := by omega
  rw [hm] at hk hr
  have done : (b = m ∧ n = v) → R = (if k = 0 ∨ 1 < k ∧ (((B s).getD j default).toNat : Int) = 48 then ((0 : Int), j, (4 : Int)) else if 0 < v ∧ v < 65536 then (v, j + k, 0) else (0, j, 7)) := fun h => fin k v ⟨by omega, h.2⟩
  have hg : m < (B s).length → (B s).drop m = (B s).getD m default :: (B s).drop (m + 1) := fun h => by
    rw [List.drop_eq_getElem_cons h]; simp [List.getD_eq_getElem?_getD, h]
  obtain ⟨c, hc⟩ : ∃ c, (B s).getD m default = c := ⟨_, rfl⟩
  rw [hc] at hg
  have hc255 := c.toNat_lt
  by_cases hgo : m < (B s).length ∧ digitZ c.toNat = true
  · obtain ⟨hlt, hd⟩ := hgo
    rw [hg hlt] at hr
    have hcb : 48 ≤ (c.toNat : Int) ∧ (c.toNat : Int) ≤ 57 := by simpa [digitZ] using hd
    obtain ⟨hc0, hc1⟩ := hcb
    rw [numR, if_pos hd] at hr
    by_cases hbig : 1000000 < v * 10 + ((c.toNat : Int) - 48)
    · rw [if_pos hbig] at hr
      repeat' first |refine s1 ?_|refine gS ?_|refine wT rfl ?_|refine wF rfl ?_|refine wt rfl ?_|refine wf rfl ?_|(refine wC rfl (fun h=>?_) (fun h=>?_)<;>(try contradiction))|((first|refine rd ?_|refine ry [] c0 fun nu _ _=>?_);simp -dsimp (disch:=omega) only[go_sem,hjk, hc])|refine e0 (by decide) ?_|(refine And.intro ?_ ?_;omega)|refine And.intro (of_eq_true PutAt_put) ?_|refine gT ?_|refine gF ?_|(refine gI (fun h=>?_) (fun h=>?_)<;>(try contradiction)<;>(try refine rd ?_)<;>(try simp -dsimp (disch:=omega) only[go_sem,h,hjk, hc]))|refine Exists.intro _ (Exists.intro _ (And.intro (And.intro rfl rfl) ?_)) |fail
      exact ⟨(k + 1, 1000000), by simp only; omega, ⟨by simp only; omega, by simp, by simp, by simp only; rw [show j + (k + 1) = m + 1 by omega]; exact hr⟩, Env.Sub_of_has (by simp [Env.Has, Env.get]), Store.Sub.refl _⟩
    · rw [if_neg hbig] at hr
      repeat' first |refine s1 ?_|refine gS ?_|refine wT rfl ?_|refine wF rfl ?_|refine wt rfl ?_|refine wf rfl ?_|(refine wC rfl (fun h=>?_) (fun h=>?_)<;>(try contradiction))|((first|refine rd ?_|refine ry [] c0 fun nu _ _=>?_);simp -dsimp (disch:=omega) only[go_sem,hjk, hc])|refine e0 (by decide) ?_|(refine And.intro ?_ ?_;omega)|refine And.intro (of_eq_true PutAt_put) ?_|refine gT ?_|refine gF ?_|(refine gI (fun h=>?_) (fun h=>?_)<;>(try contradiction)<;>(try refine rd ?_)<;>(try simp -dsimp (disch:=omega) only[go_sem,h,hjk, hc]))|refine Exists.intro _ (Exists.intro _ (And.intro (And.intro rfl rfl) ?_)) |fail
      exact ⟨(k + 1, v * 10 + ((c.toNat : Int) - 48)), by simp only; omega, ⟨by simp only; omega, by simp only; omega, by simp only; omega, by simp only; rw [show j + (k + 1) = m + 1 by omega]; exact hr⟩, Env.Sub_of_has (by simp [Env.Has, Env.get]; omega), Store.Sub.refl _⟩
  · have hR2 : b = m ∧ n = v := by
      by_cases hlt : m < (B s).length
      · rw [hg hlt, numR, if_neg (fun h => hgo ⟨hlt, h⟩)] at hr
        injection hr with q1 q2
        exact ⟨q1.symm, q2.symm⟩
      · rw [List.drop_eq_nil_of_le (by omega), numR] at hr
        injection hr with q1 q2
        exact ⟨q1.symm, q2.symm⟩
    have hR3 := done hR2
    have has := ras_spec v
    have hx : ¬ (m < (B s).length) ∨ (m < (B s).length ∧ ¬ 48 ≤ (c.toNat : Int)) ∨ (m < (B s).length ∧ 48 ≤ (c.toNat : Int) ∧ ¬ (c.toNat : Int) ≤ 57) := by
      simp only [digitZ, Bool.and_eq_true, decide_eq_true_eq] at hgo
      omega
    obtain ⟨z, hz⟩ : ∃ z, (B s).getD j default = z := ⟨_, rfl⟩
    rw [hz] at hR3
    have hy : (k = 0 ∧ R = (0, j, 4)) ∨ (1 < k ∧ (z.toNat : Int) = 48 ∧ R = (0, j, 4)) ∨ (0 < k ∧ (¬ 1 < k ∨ (1 < k ∧ ¬ (z.toNat : Int) = 48)) ∧ withinZ v 1 65535 = false ∧ R = (0, j, 7)) ∨ (0 < k ∧ (¬ 1 < k ∨ (1 < k ∧ ¬ (z.toNat : Int) = 48)) ∧ withinZ v 1 65535 = true ∧ R = (v, j + k, 0)) := by
      by_cases y1 : k = 0
      · rw [if_pos (Or.inl y1)] at hR3; exact .inl ⟨y1, hR3⟩
      by_cases y2 : 1 < k ∧ (z.toNat : Int) = 48
      · rw [if_pos (Or.inr y2)] at hR3; exact .inr (.inl ⟨y2.1, y2.2, hR3⟩)
      rw [if_neg (fun h => h.elim y1 y2)] at hR3
      have y3 : ¬ 1 < k ∨ (1 < k ∧ ¬ (z.toNat : Int) = 48) := by omega
      by_cases y4 : 0 < v ∧ v < 65536
      · rw [if_pos y4] at hR3
        exact .inr (.inr (.inr ⟨by omega, y3, by simp [withinZ]; omega, hR3⟩))
      · rw [if_neg y4] at hR3
        exact .inr (.inr (.inl ⟨by omega, y3, by simp [withinZ]; omega, hR3⟩))
    clear hR hR2 hR3 fin done hbn h3 hgo hr
    rcases hy with ⟨y1, rfl⟩ | ⟨y1, y2, rfl⟩ | ⟨y1, y2 | y2, y3, rfl⟩ | ⟨y1, y2 | y2, y3, rfl⟩ <;> rcases hx with hx | ⟨hx, hx2⟩ | ⟨hx, hx2, hx3⟩
    all_goals (
      (try rw [y3] at has)
      repeat' first |refine s1 ?_|refine gS ?_|refine wT rfl ?_|refine wF rfl ?_|refine wt rfl ?_|refine wf rfl ?_|(refine wC rfl (fun h=>?_) (fun h=>?_)<;>(try contradiction))|((first|refine rd ?_|refine ry [] c0 fun nu _ _=>?_);simp -dsimp (disch:=omega) only[go_sem,hjk, hc, hz])|refine e0 (by decide) ?_|(refine And.intro ?_ ?_;omega)|refine And.intro (of_eq_true PutAt_put) ?_|refine gT ?_|refine gF ?_|(refine gI (fun h=>?_) (fun h=>?_)<;>(try contradiction)<;>(try refine rd ?_)<;>(try simp -dsimp (disch:=omega) only[go_sem,h,hjk, hc, hz]))|refine Exists.intro _ (Exists.intro _ (And.intro (And.intro rfl rfl) ?_)) |refine us (has) ?_ |fail
    )
    all_goals rw [hm]
end
end Go.Proofs.YtaealcimocpnnaaGreat
