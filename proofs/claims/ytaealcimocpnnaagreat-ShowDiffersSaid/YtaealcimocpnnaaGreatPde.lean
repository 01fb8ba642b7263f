/- What the claim needs, part 5: Dc Dh Di Dd Dk Dm. Conditions: none. -/
import Derived.Test.YtaealcimocpnnaaGreatPdd
set_option linter.unusedVariables false
set_option linter.unusedSimpArgs false
set_option linter.unusedSectionVars false
namespace Go.Proofs.YtaealcimocpnnaaGreat
open Go.Kern Go.RowKit
def qMat (x y : Mat) : Bool := decide (x.list = y.list) && (decide (x.path = y.path) && (decide (x.c.asn = y.c.asn) && decide (x.c.n = y.c.n)))
def qSet (x y : Chg) : Bool := decide (x.pref = y.pref) && (decide (x.med = y.med) && (decide (x.origin = y.origin) && (decide (x.clear = y.clear) && (allS qCom x.add y.add && (allS qCom x.del y.del && allS qInt x.pre y.pre)))))
def qCls (x y : Cls) : Bool := decide (x.n = y.n) && (decide (x.permit = y.permit) && (qMat x.m y.m && qSet x.s y.s))
def qLst (x y : LstD) : Bool := decide (x.name = y.name) && allS qRng x.l y.l
def qMap (x y : MapD) : Bool := decide (x.name = y.name) && allS qCls x.l y.l
def qRtr (x y : Rtr) : Bool := decide (x.name = y.name) && (decide (x.asn = y.asn) && (decide (x.id = y.id) && (allS qPfx x.nets y.nets && (allS qNbr x.nbrs y.nbrs && allS qLnk x.links y.links))))
def qCfg (x y : Cfg) : Bool := allS qLst x.lists y.lists && (allS qMap x.maps y.maps && allS qRtr x.routers y.routers)
theorem beq_dec (a b : Bool) : (a == b) = decide (a = b) := by cases a <;> cases b <;> rfl
set_option maxRecDepth 100000
set_option maxHeartbeats 4000000
attribute [local irreducible] PCall W
theorem sameSet_spec (x y : Chg) (hx : x.Fits) (hy : y.Fits) : Pure Tryz.prog 109 [eChg x, eChg y] (.bool (qSet x y)) := by
  intro σ
  have u4 := eqCom x.kA y.kA x.add y.add hx.add hy.add
  have u5 := eqCom x.kD y.kD x.del y.del hx.del hy.del
  have u6 := eqInt x.kP y.kP x.pre y.pre hx.pre hy.pre
  obtain ⟨b0, c0⟩ : ∃ b, decide (x.pref = y.pref) = b := ⟨_, rfl⟩
  obtain ⟨b1, c1⟩ : ∃ b, decide (x.med = y.med) = b := ⟨_, rfl⟩
  obtain ⟨b2, c2⟩ : ∃ b, decide (x.origin = y.origin) = b := ⟨_, rfl⟩
  obtain ⟨b3, c3⟩ : ∃ b, decide (x.clear = y.clear) = b := ⟨_, rfl⟩
  obtain ⟨b4, c4⟩ : ∃ b, allS qCom x.add y.add = b := ⟨_, rfl⟩
  obtain ⟨b5, c5⟩ : ∃ b, allS qCom x.del y.del = b := ⟨_, rfl⟩
  obtain ⟨b6, c6⟩ : ∃ b, allS qInt x.pre y.pre = b := ⟨_, rfl⟩
  rw [qSet, c0, c1, c2, c3, c4, c5, c6]
  rw [c4] at u4
  rw [c5] at u5
  rw [c6] at u6
  cases b0 with
  | false =>
    refine PCall_q [.tmp 4] 52 Tryz.func109 (by rfl) rfl rfl rfl rfl ?_
    repeat' first |refine s1 ?_|refine gS ?_|refine wT rfl ?_|refine wF rfl ?_|refine wt rfl ?_|refine wf rfl ?_|(refine wC rfl (fun h=>?_) (fun h=>?_)<;>(try contradiction))|((first|refine rd ?_|refine ry [] c0 fun nu _ _=>?_);simp -dsimp (disch:=omega) only[go_sem,eChg, beq_dec, c0])|refine e0 (by decide) ?_|(refine zA ?_ ?_;omega)|refine zA (of_eq_true PutAt_put) ?_|refine gT ?_|refine gF ?_|(refine gI (fun h=>?_) (fun h=>?_)<;>(try contradiction)<;>(try refine rd ?_)<;>(try simp -dsimp (disch:=omega) only[go_sem,h,eChg, beq_dec, c0]))|refine zX _ (zX _ (zA (zA rfl rfl) ?_)) |fail
  | true =>
  cases b1 with
  | false =>
    refine PCall_q [.tmp 4] 52 Tryz.func109 (by rfl) rfl rfl rfl rfl ?_
    repeat' first |refine s1 ?_|refine gS ?_|refine wT rfl ?_|refine wF rfl ?_|refine wt rfl ?_|refine wf rfl ?_|(refine wC rfl (fun h=>?_) (fun h=>?_)<;>(try contradiction))|((first|refine rd ?_|refine ry [] c0 fun nu _ _=>?_);simp -dsimp (disch:=omega) only[go_sem,eChg, beq_dec, c0, c1])|refine e0 (by decide) ?_|(refine zA ?_ ?_;omega)|refine zA (of_eq_true PutAt_put) ?_|refine gT ?_|refine gF ?_|(refine gI (fun h=>?_) (fun h=>?_)<;>(try contradiction)<;>(try refine rd ?_)<;>(try simp -dsimp (disch:=omega) only[go_sem,h,eChg, beq_dec, c0, c1]))|refine zX _ (zX _ (zA (zA rfl rfl) ?_)) |fail
  | true =>
  cases b2 with
  | false =>
    refine PCall_q [.tmp 4] 52 Tryz.func109 (by rfl) rfl rfl rfl rfl ?_
    repeat' first |refine s1 ?_|refine gS ?_|refine wT rfl ?_|refine wF rfl ?_|refine wt rfl ?_|refine wf rfl ?_|(refine wC rfl (fun h=>?_) (fun h=>?_)<;>(try contradiction))|((first|refine rd ?_|refine ry [] c0 fun nu _ _=>?_);simp -dsimp (disch:=omega) only[go_sem,eChg, beq_dec, c0, c1, c2])|refine e0 (by decide) ?_|(refine zA ?_ ?_;omega)|refine zA (of_eq_true PutAt_put) ?_|refine gT ?_|refine gF ?_|(refine gI (fun h=>?_) (fun h=>?_)<;>(try contradiction)<;>(try refine rd ?_)<;>(try simp -dsimp (disch:=omega) only[go_sem,h,eChg, beq_dec, c0, c1, c2]))|refine zX _ (zX _ (zA (zA rfl rfl) ?_)) |fail
  | true =>
  cases b3 with
  | false =>
    refine PCall_q [.tmp 4] 52 Tryz.func109 (by rfl) rfl rfl rfl rfl ?_
    repeat' first |refine s1 ?_|refine gS ?_|refine wT rfl ?_|refine wF rfl ?_|refine wt rfl ?_|refine wf rfl ?_|(refine wC rfl (fun h=>?_) (fun h=>?_)<;>(try contradiction))|((first|refine rd ?_|refine ry [] c0 fun nu _ _=>?_);simp -dsimp (disch:=omega) only[go_sem,eChg, beq_dec, c0, c1, c2, c3])|refine e0 (by decide) ?_|(refine zA ?_ ?_;omega)|refine zA (of_eq_true PutAt_put) ?_|refine gT ?_|refine gF ?_|(refine gI (fun h=>?_) (fun h=>?_)<;>(try contradiction)<;>(try refine rd ?_)<;>(try simp -dsimp (disch:=omega) only[go_sem,h,eChg, beq_dec, c0, c1, c2, c3]))|refine zX _ (zX _ (zA (zA rfl rfl) ?_)) |fail
  | true =>
  cases b4 with
  | false =>
    refine PCall_q [.tmp 4] 52 Tryz.func109 (by rfl) rfl rfl rfl rfl ?_
    repeat' first |refine s1 ?_|refine gS ?_|refine wT rfl ?_|refine wF rfl ?_|refine wt rfl ?_|refine wf rfl ?_|(refine wC rfl (fun h=>?_) (fun h=>?_)<;>(try contradiction))|((first|refine rd ?_|refine ry [] c0 fun nu _ _=>?_);simp -dsimp (disch:=omega) only[go_sem,eChg, beq_dec, c0, c1, c2, c3])|refine e0 (by decide) ?_|(refine zA ?_ ?_;omega)|refine zA (of_eq_true PutAt_put) ?_|refine gT ?_|refine gF ?_|(refine gI (fun h=>?_) (fun h=>?_)<;>(try contradiction)<;>(try refine rd ?_)<;>(try simp -dsimp (disch:=omega) only[go_sem,h,eChg, beq_dec, c0, c1, c2, c3]))|refine zX _ (zX _ (zA (zA rfl rfl) ?_)) |refine us (u4) ?_ |fail
  | true =>
  cases b5 with
  | false =>
    refine PCall_q [.tmp 4] 52 Tryz.func109 (by rfl) rfl rfl rfl rfl ?_
    repeat' first |refine s1 ?_|refine gS ?_|refine wT rfl ?_|refine wF rfl ?_|refine wt rfl ?_|refine wf rfl ?_|(refine wC rfl (fun h=>?_) (fun h=>?_)<;>(try contradiction))|((first|refine rd ?_|refine ry [] c0 fun nu _ _=>?_);simp -dsimp (disch:=omega) only[go_sem,eChg, beq_dec, c0, c1, c2, c3])|refine e0 (by decide) ?_|(refine zA ?_ ?_;omega)|refine zA (of_eq_true PutAt_put) ?_|refine gT ?_|refine gF ?_|(refine gI (fun h=>?_) (fun h=>?_)<;>(try contradiction)<;>(try refine rd ?_)<;>(try simp -dsimp (disch:=omega) only[go_sem,h,eChg, beq_dec, c0, c1, c2, c3]))|refine zX _ (zX _ (zA (zA rfl rfl) ?_)) |refine us (u4) ?_ |refine us (u5) ?_ |fail
  | true =>
  refine PCall_q [.tmp 4] 52 Tryz.func109 (by rfl) rfl rfl rfl rfl ?_
  repeat' first |refine s1 ?_|refine gS ?_|refine wT rfl ?_|refine wF rfl ?_|refine wt rfl ?_|refine wf rfl ?_|(refine wC rfl (fun h=>?_) (fun h=>?_)<;>(try contradiction))|((first|refine rd ?_|refine ry [] c0 fun nu _ _=>?_);simp -dsimp (disch:=omega) only[go_sem,eChg, beq_dec, c0, c1, c2, c3])|refine e0 (by decide) ?_|(refine zA ?_ ?_;omega)|refine zA (of_eq_true PutAt_put) ?_|refine gT ?_|refine gF ?_|(refine gI (fun h=>?_) (fun h=>?_)<;>(try contradiction)<;>(try refine rd ?_)<;>(try simp -dsimp (disch:=omega) only[go_sem,h,eChg, beq_dec, c0, c1, c2, c3]))|refine zX _ (zX _ (zA (zA rfl rfl) ?_)) |refine us (u4) ?_ |refine us (u5) ?_ |refine us (u6) ?_ |fail
theorem sameCls_spec (x y : Cls) (hx : x.s.Fits) (hy : y.s.Fits) : Pure Tryz.prog 108 [eCls x, eCls y] (.bool (qCls x y)) := by
  intro σ
  have u3 := sameSet_spec x.s y.s hx hy
  have m2 : qMat x.m y.m = (decide (x.m.list = y.m.list) && (decide (x.m.path = y.m.path) && (decide (x.m.c.asn = y.m.c.asn) && decide (x.m.c.n = y.m.c.n)))) := rfl
  rw [qCls, m2]
  clear m2
  obtain ⟨b0, c0⟩ : ∃ b, decide (x.n = y.n) = b := ⟨_, rfl⟩
  obtain ⟨b1, c1⟩ : ∃ b, decide (x.permit = y.permit) = b := ⟨_, rfl⟩
  obtain ⟨b2, c2⟩ : ∃ b, (decide (x.m.list = y.m.list) && (decide (x.m.path = y.m.path) && (decide (x.m.c.asn = y.m.c.asn) && decide (x.m.c.n = y.m.c.n)))) = b := ⟨_, rfl⟩
  obtain ⟨b3, c3⟩ : ∃ b, qSet x.s y.s = b := ⟨_, rfl⟩
  rw [c0, c1, c2, c3]
  rw [c3] at u3
  cases b0 with
  | false =>
    refine PCall_q [.tmp 4] 31 Tryz.func108 (by rfl) rfl rfl rfl rfl ?_
    repeat' first |refine s1 ?_|refine gS ?_|refine wT rfl ?_|refine wF rfl ?_|refine wt rfl ?_|refine wf rfl ?_|(refine wC rfl (fun h=>?_) (fun h=>?_)<;>(try contradiction))|((first|refine rd ?_|refine ry [] c0 fun nu _ _=>?_);simp -dsimp (disch:=omega) only[go_sem,eCls, eMat, eChg, beq_dec, c0])|refine e0 (by decide) ?_|(refine zA ?_ ?_;omega)|refine zA (of_eq_true PutAt_put) ?_|refine gT ?_|refine gF ?_|(refine gI (fun h=>?_) (fun h=>?_)<;>(try contradiction)<;>(try refine rd ?_)<;>(try simp -dsimp (disch:=omega) only[go_sem,h,eCls, eMat, eChg, beq_dec, c0]))|refine zX _ (zX _ (zA (zA rfl rfl) ?_)) |fail
  | true =>
  cases b1 with
  | false =>
    refine PCall_q [.tmp 4] 31 Tryz.func108 (by rfl) rfl rfl rfl rfl ?_
    repeat' first |refine s1 ?_|refine gS ?_|refine wT rfl ?_|refine wF rfl ?_|refine wt rfl ?_|refine wf rfl ?_|(refine wC rfl (fun h=>?_) (fun h=>?_)<;>(try contradiction))|((first|refine rd ?_|refine ry [] c0 fun nu _ _=>?_);simp -dsimp (disch:=omega) only[go_sem,eCls, eMat, eChg, beq_dec, c0, c1])|refine e0 (by decide) ?_|(refine zA ?_ ?_;omega)|refine zA (of_eq_true PutAt_put) ?_|refine gT ?_|refine gF ?_|(refine gI (fun h=>?_) (fun h=>?_)<;>(try contradiction)<;>(try refine rd ?_)<;>(try simp -dsimp (disch:=omega) only[go_sem,h,eCls, eMat, eChg, beq_dec, c0, c1]))|refine zX _ (zX _ (zA (zA rfl rfl) ?_)) |fail
  | true =>
  cases b2 with
  | false =>
    refine PCall_q [.tmp 4] 31 Tryz.func108 (by rfl) rfl rfl rfl rfl ?_
    repeat' first |refine s1 ?_|refine gS ?_|refine wT rfl ?_|refine wF rfl ?_|refine wt rfl ?_|refine wf rfl ?_|(refine wC rfl (fun h=>?_) (fun h=>?_)<;>(try contradiction))|((first|refine rd ?_|refine ry [] c0 fun nu _ _=>?_);simp -dsimp (disch:=omega) only[go_sem,eCls, eMat, eChg, beq_dec, c0, c1, c2])|refine e0 (by decide) ?_|(refine zA ?_ ?_;omega)|refine zA (of_eq_true PutAt_put) ?_|refine gT ?_|refine gF ?_|(refine gI (fun h=>?_) (fun h=>?_)<;>(try contradiction)<;>(try refine rd ?_)<;>(try simp -dsimp (disch:=omega) only[go_sem,h,eCls, eMat, eChg, beq_dec, c0, c1, c2]))|refine zX _ (zX _ (zA (zA rfl rfl) ?_)) |fail
  | true =>
  refine PCall_q [.tmp 4] 31 Tryz.func108 (by rfl) rfl rfl rfl rfl ?_
  repeat' first |refine s1 ?_|refine gS ?_|refine wT rfl ?_|refine wF rfl ?_|refine wt rfl ?_|refine wf rfl ?_|(refine wC rfl (fun h=>?_) (fun h=>?_)<;>(try contradiction))|((first|refine rd ?_|refine ry [] c0 fun nu _ _=>?_);simp -dsimp (disch:=omega) only[go_sem,eCls, eMat, eChg, beq_dec, c0, c1, c2])|refine e0 (by decide) ?_|(refine zA ?_ ?_;omega)|refine zA (of_eq_true PutAt_put) ?_|refine gT ?_|refine gF ?_|(refine gI (fun h=>?_) (fun h=>?_)<;>(try contradiction)<;>(try refine rd ?_)<;>(try simp -dsimp (disch:=omega) only[go_sem,h,eCls, eMat, eChg, beq_dec, c0, c1, c2]))|refine zX _ (zX _ (zA (zA rfl rfl) ?_)) |refine us (u3) ?_ |fail
theorem efnLst (f : FuncId) (q : LstD → LstD → Bool) (ka kb : SK) (a b : List LstD) (ha : a.length < 4611686018427387904) (hb : b.length < 4611686018427387904) (hq : ∀ x, x ∈ a → ∀ y, y ∈ b → Pure Tryz.prog f [eLst x, eLst y] (.bool (q x y))) : Pure Tryz.prog 53 [.sl ka (encL eLst a), .sl kb (encL eLst b), .fn f []] (.bool (allS q a b)) := by
  intro σ
  by_cases hl : a.length = b.length
  · skip
    refine PCall_q [.tmp 6] 32 Tryz.func53 (by rfl) rfl rfl rfl rfl ?_
    repeat' first |refine s1 ?_|refine gS ?_|refine wT rfl ?_|refine wF rfl ?_|refine wt rfl ?_|refine wf rfl ?_|(refine wC rfl (fun h=>?_) (fun h=>?_)<;>(try contradiction))|((first|refine rd ?_|refine ry [] c0 fun nu _ _=>?_);simp -dsimp (disch:=omega) only[go_sem,hl])|refine e0 (by decide) ?_|(refine zA ?_ ?_;omega)|refine zA (of_eq_true PutAt_put) ?_|refine gT ?_|refine gF ?_|(refine gI (fun h=>?_) (fun h=>?_)<;>(try contradiction)<;>(try refine rd ?_)<;>(try simp -dsimp (disch:=omega) only[go_sem,h,hl]))|refine zX _ (zX _ (zA (zA rfl rfl) ?_)) |fail
    refine W_loop_st (fun i : Nat => [(0, .sl ka (encL eLst a)), (1, .sl kb (encL eLst b)), (2, .fn f []), (15, .sl ka (encL eLst a)), (16, .int .i64 a.length), (17, .int .i64 i)]) (fun _ => σ) (fun i => i ≤ a.length ∧ allS q a b = allS q (a.drop i) (b.drop i)) (fun i => a.length - i) 0 ⟨Nat.zero_le _, rfl⟩ (Env.Sub_of_has (by simp [Env.Has, Env.get, hl])) (Store.Sub.refl _) ?_
    rintro i ⟨hi, hor⟩
    by_cases hlt : i < a.length
    · have hlt2 : i < b.length := by omega
      have ho := allS_drop q a b i hlt hlt2
      have hc := hq _ (mem_getD hlt) _ (mem_getD hlt2)
      have hxe : (encL eLst a).getD i .any = eLst (a.getD i default) := getD_encL eLst hlt
      have hye : (encL eLst b).getD i .any = eLst (b.getD i default) := getD_encL eLst hlt2
      obtain ⟨x, hx⟩ : ∃ x, a.getD i default = x := ⟨_, rfl⟩
      obtain ⟨y, hy⟩ : ∃ y, b.getD i default = y := ⟨_, rfl⟩
      obtain ⟨r, hr⟩ : ∃ r, q x y = r := ⟨_, rfl⟩
      rw [hx, hy] at ho hc
      rw [hx] at hxe
      rw [hy] at hye
      rw [hr] at ho hc
      repeat' first |((fail_if_success (first|show W _ _ (Code.seq (Code.region 6 _ _) _) _ _ _|show W _ _ (Code.seq (Code.seq (Code.region 6 _ _) _) _) _ _ _));refine s1 ?_)|refine gS ?_|refine wT rfl ?_|refine wF rfl ?_|refine wt rfl ?_|refine wf rfl ?_|(refine wC rfl (fun h=>?_) (fun h=>?_)<;>(try contradiction))|((fail_if_success (first|show W _ _ (Code.region 6 _ _) _ _ _));(first|refine rd ?_|refine ry [] c0 fun nu _ _=>?_);simp -dsimp (disch:=omega) only[go_sem,hl, hxe, eLst])|refine e0 (by decide) ?_|(refine zA ?_ ?_;omega)|refine zA (of_eq_true PutAt_put) ?_|refine gT ?_|refine gF ?_|(refine gI (fun h=>?_) (fun h=>?_)<;>(try contradiction)<;>(try refine rd ?_)<;>(try simp -dsimp (disch:=omega) only[go_sem,h,hl, hxe, eLst]))|refine zX _ (zX _ (zA (zA rfl rfl) ?_)) |fail
      intro m hm
      repeat' first |((fail_if_success (first|show W _ _ (Code.seq (Code.region 7 _ _) _) _ _ _|show W _ _ (Code.seq (Code.seq (Code.region 7 _ _) _) _) _ _ _));refine s1 ?_)|refine gS ?_|refine wT rfl ?_|refine wF rfl ?_|refine wt rfl ?_|refine wf rfl ?_|(refine wC rfl (fun h=>?_) (fun h=>?_)<;>(try contradiction))|((fail_if_success (first|show W _ _ (Code.region 7 _ _) _ _ _));(first|refine rd ?_|refine ry [] c0 fun nu _ _=>?_);simp -dsimp (disch:=omega) only[go_sem,hl, hye, eLst])|refine e0 (by decide) ?_|(refine zA ?_ ?_;omega)|refine zA (of_eq_true PutAt_put) ?_|refine gT ?_|refine gF ?_|(refine gI (fun h=>?_) (fun h=>?_)<;>(try contradiction)<;>(try refine rd ?_)<;>(try simp -dsimp (disch:=omega) only[go_sem,h,hl, hye, eLst]))|refine zX _ (zX _ (zA (zA rfl rfl) ?_)) |fail
      intro k hk
      have hkm := alloc_ne hk
      rw [put_oth hkm] at hk
      have sw := put_swap hkm
      have ot := put_oth hkm
      have hmk : m ≠ k := fun e => hkm e.symm
      cases r with
      | true =>
        repeat' first |refine s1 ?_|refine gS ?_|refine wT rfl ?_|refine wF rfl ?_|refine wt rfl ?_|refine wf rfl ?_|(refine wC rfl (fun h=>?_) (fun h=>?_)<;>(try contradiction))|((first|refine rd ?_|refine ry [] c0 fun nu _ _=>?_);simp -dsimp (disch:=omega) only[go_sem,hl, ot, put_oth hmk])|refine e0 (by decide) ?_|(refine zA ?_ ?_;omega)|refine zA (of_eq_true PutAt_put) ?_|refine gT ?_|refine gF ?_|(refine gI (fun h=>?_) (fun h=>?_)<;>(try contradiction)<;>(try refine rd ?_)<;>(try simp -dsimp (disch:=omega) only[go_sem,h,hl, ot, put_oth hmk]))|refine zX _ (zX _ (zA (zA rfl rfl) ?_)) |refine us (hc) ?_ |fail
        exact ⟨i + 1, by omega, ⟨by omega, by rw [hor, ho, Bool.true_and]⟩, Env.Sub_of_has (by simp [Env.Has, Env.get, Env.putO, hl]), keep_new (keep_new (fun _ _ h => h) hm) hk⟩
      | false =>
        rw [hor, ho, Bool.false_and]
        repeat' first |refine s1 ?_|refine gS ?_|refine wT rfl ?_|refine wF rfl ?_|refine wt rfl ?_|refine wf rfl ?_|(refine wC rfl (fun h=>?_) (fun h=>?_)<;>(try contradiction))|((first|refine rd ?_|refine ry [] c0 fun nu _ _=>?_);simp -dsimp (disch:=omega) only[go_sem,hl, ot, put_oth hmk])|refine e0 (by decide) ?_|(refine zA ?_ ?_;omega)|refine zA (of_eq_true PutAt_put) ?_|refine gT ?_|refine gF ?_|(refine gI (fun h=>?_) (fun h=>?_)<;>(try contradiction)<;>(try refine rd ?_)<;>(try simp -dsimp (disch:=omega) only[go_sem,h,hl, ot, put_oth hmk]))|refine zX _ (zX _ (zA (zA rfl rfl) ?_)) |refine us (hc) ?_ |fail
        exact keep_new (keep_new (fun _ _ h => h) hm) hk
    · have hi' : i = a.length := by omega
      subst hi'
      rw [hor, allS_end q a b hl]
      repeat' first |refine s1 ?_|refine gS ?_|refine wT rfl ?_|refine wF rfl ?_|refine wt rfl ?_|refine wf rfl ?_|(refine wC rfl (fun h=>?_) (fun h=>?_)<;>(try contradiction))|((first|refine rd ?_|refine ry [] c0 fun nu _ _=>?_);simp -dsimp (disch:=omega) only[go_sem,hl])|refine e0 (by decide) ?_|(refine zA ?_ ?_;omega)|refine zA (of_eq_true PutAt_put) ?_|refine gT ?_|refine gF ?_|(refine gI (fun h=>?_) (fun h=>?_)<;>(try contradiction)<;>(try refine rd ?_)<;>(try simp -dsimp (disch:=omega) only[go_sem,h,hl]))|refine zX _ (zX _ (zA (zA rfl rfl) ?_)) |fail
  · rw [allS_len q hl]
    have hl' : ¬ (a.length : Int) = b.length := by omega
    refine PCall_q [.tmp 6] 32 Tryz.func53 (by rfl) rfl rfl rfl rfl ?_
    repeat' first |refine s1 ?_|refine gS ?_|refine wT rfl ?_|refine wF rfl ?_|refine wt rfl ?_|refine wf rfl ?_|(refine wC rfl (fun h=>?_) (fun h=>?_)<;>(try contradiction))|((first|refine rd ?_|refine ry [] c0 fun nu _ _=>?_);simp -dsimp (disch:=omega) only[go_sem,hl'])|refine e0 (by decide) ?_|(refine zA ?_ ?_;omega)|refine zA (of_eq_true PutAt_put) ?_|refine gT ?_|refine gF ?_|(refine gI (fun h=>?_) (fun h=>?_)<;>(try contradiction)<;>(try refine rd ?_)<;>(try simp -dsimp (disch:=omega) only[go_sem,h,hl']))|refine zX _ (zX _ (zA (zA rfl rfl) ?_)) |fail
theorem efnMap (f : FuncId) (q : MapD → MapD → Bool) (ka kb : SK) (a b : List MapD) (ha : a.length < 4611686018427387904) (hb : b.length < 4611686018427387904) (hq : ∀ x, x ∈ a → ∀ y, y ∈ b → Pure Tryz.prog f [eMap x, eMap y] (.bool (q x y))) : Pure Tryz.prog 54 [.sl ka (encL eMap a), .sl kb (encL eMap b), .fn f []] (.bool (allS q a b)) := by
  intro σ
  by_cases hl : a.length = b.length
  · skip
    refine PCall_q [.tmp 6] 32 Tryz.func54 (by rfl) rfl rfl rfl rfl ?_
    repeat' first |refine s1 ?_|refine gS ?_|refine wT rfl ?_|refine wF rfl ?_|refine wt rfl ?_|refine wf rfl ?_|(refine wC rfl (fun h=>?_) (fun h=>?_)<;>(try contradiction))|((first|refine rd ?_|refine ry [] c0 fun nu _ _=>?_);simp -dsimp (disch:=omega) only[go_sem,hl])|refine e0 (by decide) ?_|(refine zA ?_ ?_;omega)|refine zA (of_eq_true PutAt_put) ?_|refine gT ?_|refine gF ?_|(refine gI (fun h=>?_) (fun h=>?_)<;>(try contradiction)<;>(try refine rd ?_)<;>(try simp -dsimp (disch:=omega) only[go_sem,h,hl]))|refine zX _ (zX _ (zA (zA rfl rfl) ?_)) |fail
    refine W_loop_st (fun i : Nat => [(0, .sl ka (encL eMap a)), (1, .sl kb (encL eMap b)), (2, .fn f []), (15, .sl ka (encL eMap a)), (16, .int .i64 a.length), (17, .int .i64 i)]) (fun _ => σ) (fun i => i ≤ a.length ∧ allS q a b = allS q (a.drop i) (b.drop i)) (fun i => a.length - i) 0 ⟨Nat.zero_le _, rfl⟩ (Env.Sub_of_has (by simp [Env.Has, Env.get, hl])) (Store.Sub.refl _) ?_
    rintro i ⟨hi, hor⟩
    by_cases hlt : i < a.length
    · have hlt2 : i < b.length := by omega
      have ho := allS_drop q a b i hlt hlt2
      have hc := hq _ (mem_getD hlt) _ (mem_getD hlt2)
      have hxe : (encL eMap a).getD i .any = eMap (a.getD i default) := getD_encL eMap hlt
      have hye : (encL eMap b).getD i .any = eMap (b.getD i default) := getD_encL eMap hlt2
      obtain ⟨x, hx⟩ : ∃ x, a.getD i default = x := ⟨_, rfl⟩
      obtain ⟨y, hy⟩ : ∃ y, b.getD i default = y := ⟨_, rfl⟩
      obtain ⟨r, hr⟩ : ∃ r, q x y = r := ⟨_, rfl⟩
      rw [hx, hy] at ho hc
      rw [hx] at hxe
      rw [hy] at hye
      rw [hr] at ho hc
      repeat' first |((fail_if_success (first|show W _ _ (Code.seq (Code.region 6 _ _) _) _ _ _|show W _ _ (Code.seq (Code.seq (Code.region 6 _ _) _) _) _ _ _));refine s1 ?_)|refine gS ?_|refine wT rfl ?_|refine wF rfl ?_|refine wt rfl ?_|refine wf rfl ?_|(refine wC rfl (fun h=>?_) (fun h=>?_)<;>(try contradiction))|((fail_if_success (first|show W _ _ (Code.region 6 _ _) _ _ _));(first|refine rd ?_|refine ry [] c0 fun nu _ _=>?_);simp -dsimp (disch:=omega) only[go_sem,hl, hxe, eMap])|refine e0 (by decide) ?_|(refine zA ?_ ?_;omega)|refine zA (of_eq_true PutAt_put) ?_|refine gT ?_|refine gF ?_|(refine gI (fun h=>?_) (fun h=>?_)<;>(try contradiction)<;>(try refine rd ?_)<;>(try simp -dsimp (disch:=omega) only[go_sem,h,hl, hxe, eMap]))|refine zX _ (zX _ (zA (zA rfl rfl) ?_)) |fail
      intro m hm
      repeat' first |((fail_if_success (first|show W _ _ (Code.seq (Code.region 7 _ _) _) _ _ _|show W _ _ (Code.seq (Code.seq (Code.region 7 _ _) _) _) _ _ _));refine s1 ?_)|refine gS ?_|refine wT rfl ?_|refine wF rfl ?_|refine wt rfl ?_|refine wf rfl ?_|(refine wC rfl (fun h=>?_) (fun h=>?_)<;>(try contradiction))|((fail_if_success (first|show W _ _ (Code.region 7 _ _) _ _ _));(first|refine rd ?_|refine ry [] c0 fun nu _ _=>?_);simp -dsimp (disch:=omega) only[go_sem,hl, hye, eMap])|refine e0 (by decide) ?_|(refine zA ?_ ?_;omega)|refine zA (of_eq_true PutAt_put) ?_|refine gT ?_|refine gF ?_|(refine gI (fun h=>?_) (fun h=>?_)<;>(try contradiction)<;>(try refine rd ?_)<;>(try simp -dsimp (disch:=omega) only[go_sem,h,hl, hye, eMap]))|refine zX _ (zX _ (zA (zA rfl rfl) ?_)) |fail
      intro k hk
      have hkm := alloc_ne hk
      rw [put_oth hkm] at hk
      have sw := put_swap hkm
      have ot := put_oth hkm
      have hmk : m ≠ k := fun e => hkm e.symm
      cases r with
      | true =>
        repeat' first |refine s1 ?_|refine gS ?_|refine wT rfl ?_|refine wF rfl ?_|refine wt rfl ?_|refine wf rfl ?_|(refine wC rfl (fun h=>?_) (fun h=>?_)<;>(try contradiction))|((first|refine rd ?_|refine ry [] c0 fun nu _ _=>?_);simp -dsimp (disch:=omega) only[go_sem,hl, ot, put_oth hmk])|refine e0 (by decide) ?_|(refine zA ?_ ?_;omega)|refine zA (of_eq_true PutAt_put) ?_|refine gT ?_|refine gF ?_|(refine gI (fun h=>?_) (fun h=>?_)<;>(try contradiction)<;>(try refine rd ?_)<;>(try simp -dsimp (disch:=omega) only[go_sem,h,hl, ot, put_oth hmk]))|refine zX _ (zX _ (zA (zA rfl rfl) ?_)) |refine us (hc) ?_ |fail
        exact ⟨i + 1, by omega, ⟨by omega, by rw [hor, ho, Bool.true_and]⟩, Env.Sub_of_has (by simp [Env.Has, Env.get, Env.putO, hl]), keep_new (keep_new (fun _ _ h => h) hm) hk⟩
      | false =>
        rw [hor, ho, Bool.false_and]
        repeat' first |refine s1 ?_|refine gS ?_|refine wT rfl ?_|refine wF rfl ?_|refine wt rfl ?_|refine wf rfl ?_|(refine wC rfl (fun h=>?_) (fun h=>?_)<;>(try contradiction))|((first|refine rd ?_|refine ry [] c0 fun nu _ _=>?_);simp -dsimp (disch:=omega) only[go_sem,hl, ot, put_oth hmk])|refine e0 (by decide) ?_|(refine zA ?_ ?_;omega)|refine zA (of_eq_true PutAt_put) ?_|refine gT ?_|refine gF ?_|(refine gI (fun h=>?_) (fun h=>?_)<;>(try contradiction)<;>(try refine rd ?_)<;>(try simp -dsimp (disch:=omega) only[go_sem,h,hl, ot, put_oth hmk]))|refine zX _ (zX _ (zA (zA rfl rfl) ?_)) |refine us (hc) ?_ |fail
        exact keep_new (keep_new (fun _ _ h => h) hm) hk
    · have hi' : i = a.length := by omega
      subst hi'
      rw [hor, allS_end q a b hl]
      repeat' first |refine s1 ?_|refine gS ?_|refine wT rfl ?_|refine wF rfl ?_|refine wt rfl ?_|refine wf rfl ?_|(refine wC rfl (fun h=>?_) (fun h=>?_)<;>(try contradiction))|((first|refine rd ?_|refine ry [] c0 fun nu _ _=>?_);simp -dsimp (disch:=omega) only[go_sem,hl])|refine e0 (by decide) ?_|(refine zA ?_ ?_;omega)|refine zA (of_eq_true PutAt_put) ?_|refine gT ?_|refine gF ?_|(refine gI (fun h=>?_) (fun h=>?_)<;>(try contradiction)<;>(try refine rd ?_)<;>(try simp -dsimp (disch:=omega) only[go_sem,h,hl]))|refine zX _ (zX _ (zA (zA rfl rfl) ?_)) |fail
  · rw [allS_len q hl]
    have hl' : ¬ (a.length : Int) = b.length := by omega
    refine PCall_q [.tmp 6] 32 Tryz.func54 (by rfl) rfl rfl rfl rfl ?_
    repeat' first |refine s1 ?_|refine gS ?_|refine wT rfl ?_|refine wF rfl ?_|refine wt rfl ?_|refine wf rfl ?_|(refine wC rfl (fun h=>?_) (fun h=>?_)<;>(try contradiction))|((first|refine rd ?_|refine ry [] c0 fun nu _ _=>?_);simp -dsimp (disch:=omega) only[go_sem,hl'])|refine e0 (by decide) ?_|(refine zA ?_ ?_;omega)|refine zA (of_eq_true PutAt_put) ?_|refine gT ?_|refine gF ?_|(refine gI (fun h=>?_) (fun h=>?_)<;>(try contradiction)<;>(try refine rd ?_)<;>(try simp -dsimp (disch:=omega) only[go_sem,h,hl']))|refine zX _ (zX _ (zA (zA rfl rfl) ?_)) |fail
theorem efnRtr (f : FuncId) (q : Rtr → Rtr → Bool) (ka kb : SK) (a b : List Rtr) (ha : a.length < 4611686018427387904) (hb : b.length < 4611686018427387904) (hq : ∀ x, x ∈ a → ∀ y, y ∈ b → Pure Tryz.prog f [eRtr x, eRtr y] (.bool (q x y))) : Pure Tryz.prog 55 [.sl ka (encL eRtr a), .sl kb (encL eRtr b), .fn f []] (.bool (allS q a b)) := by
  intro σ
  by_cases hl : a.length = b.length
  · skip
    refine PCall_q [.tmp 6] 32 Tryz.func55 (by rfl) rfl rfl rfl rfl ?_
    repeat' first |refine s1 ?_|refine gS ?_|refine wT rfl ?_|refine wF rfl ?_|refine wt rfl ?_|refine wf rfl ?_|(refine wC rfl (fun h=>?_) (fun h=>?_)<;>(try contradiction))|((first|refine rd ?_|refine ry [] c0 fun nu _ _=>?_);simp -dsimp (disch:=omega) only[go_sem,hl])|refine e0 (by decide) ?_|(refine zA ?_ ?_;omega)|refine zA (of_eq_true PutAt_put) ?_|refine gT ?_|refine gF ?_|(refine gI (fun h=>?_) (fun h=>?_)<;>(try contradiction)<;>(try refine rd ?_)<;>(try simp -dsimp (disch:=omega) only[go_sem,h,hl]))|refine zX _ (zX _ (zA (zA rfl rfl) ?_)) |fail
    refine W_loop_st (fun i : Nat => [(0, .sl ka (encL eRtr a)), (1, .sl kb (encL eRtr b)), (2, .fn f []), (15, .sl ka (encL eRtr a)), (16, .int .i64 a.length), (17, .int .i64 i)]) (fun _ => σ) (fun i => i ≤ a.length ∧ allS q a b = allS q (a.drop i) (b.drop i)) (fun i => a.length - i) 0 ⟨Nat.zero_le _, rfl⟩ (Env.Sub_of_has (by simp [Env.Has, Env.get, hl])) (Store.Sub.refl _) ?_
    rintro i ⟨hi, hor⟩
    by_cases hlt : i < a.length
    · have hlt2 : i < b.length := by omega
      have ho := allS_drop q a b i hlt hlt2
      have hc := hq _ (mem_getD hlt) _ (mem_getD hlt2)
      have hxe : (encL eRtr a).getD i .any = eRtr (a.getD i default) := getD_encL eRtr hlt
      have hye : (encL eRtr b).getD i .any = eRtr (b.getD i default) := getD_encL eRtr hlt2
      obtain ⟨x, hx⟩ : ∃ x, a.getD i default = x := ⟨_, rfl⟩
      obtain ⟨y, hy⟩ : ∃ y, b.getD i default = y := ⟨_, rfl⟩
      obtain ⟨r, hr⟩ : ∃ r, q x y = r := ⟨_, rfl⟩
      rw [hx, hy] at ho hc
      rw [hx] at hxe
      rw [hy] at hye
      rw [hr] at ho hc
      repeat' first |((fail_if_success (first|show W _ _ (Code.seq (Code.region 6 _ _) _) _ _ _|show W _ _ (Code.seq (Code.seq (Code.region 6 _ _) _) _) _ _ _));refine s1 ?_)|refine gS ?_|refine wT rfl ?_|refine wF rfl ?_|refine wt rfl ?_|refine wf rfl ?_|(refine wC rfl (fun h=>?_) (fun h=>?_)<;>(try contradiction))|((fail_if_success (first|show W _ _ (Code.region 6 _ _) _ _ _));(first|refine rd ?_|refine ry [] c0 fun nu _ _=>?_);simp -dsimp (disch:=omega) only[go_sem,hl, hxe, eRtr])|refine e0 (by decide) ?_|(refine zA ?_ ?_;omega)|refine zA (of_eq_true PutAt_put) ?_|refine gT ?_|refine gF ?_|(refine gI (fun h=>?_) (fun h=>?_)<;>(try contradiction)<;>(try refine rd ?_)<;>(try simp -dsimp (disch:=omega) only[go_sem,h,hl, hxe, eRtr]))|refine zX _ (zX _ (zA (zA rfl rfl) ?_)) |fail
      intro m hm
      repeat' first |((fail_if_success (first|show W _ _ (Code.seq (Code.region 7 _ _) _) _ _ _|show W _ _ (Code.seq (Code.seq (Code.region 7 _ _) _) _) _ _ _));refine s1 ?_)|refine gS ?_|refine wT rfl ?_|refine wF rfl ?_|refine wt rfl ?_|refine wf rfl ?_|(refine wC rfl (fun h=>?_) (fun h=>?_)<;>(try contradiction))|((fail_if_success (first|show W _ _ (Code.region 7 _ _) _ _ _));(first|refine rd ?_|refine ry [] c0 fun nu _ _=>?_);simp -dsimp (disch:=omega) only[go_sem,hl, hye, eRtr])|refine e0 (by decide) ?_|(refine zA ?_ ?_;omega)|refine zA (of_eq_true PutAt_put) ?_|refine gT ?_|refine gF ?_|(refine gI (fun h=>?_) (fun h=>?_)<;>(try contradiction)<;>(try refine rd ?_)<;>(try simp -dsimp (disch:=omega) only[go_sem,h,hl, hye, eRtr]))|refine zX _ (zX _ (zA (zA rfl rfl) ?_)) |fail
      intro k hk
      have hkm := alloc_ne hk
      rw [put_oth hkm] at hk
      have sw := put_swap hkm
      have ot := put_oth hkm
      have hmk : m ≠ k := fun e => hkm e.symm
      cases r with
      | true =>
        repeat' first |refine s1 ?_|refine gS ?_|refine wT rfl ?_|refine wF rfl ?_|refine wt rfl ?_|refine wf rfl ?_|(refine wC rfl (fun h=>?_) (fun h=>?_)<;>(try contradiction))|((first|refine rd ?_|refine ry [] c0 fun nu _ _=>?_);simp -dsimp (disch:=omega) only[go_sem,hl, ot, put_oth hmk])|refine e0 (by decide) ?_|(refine zA ?_ ?_;omega)|refine zA (of_eq_true PutAt_put) ?_|refine gT ?_|refine gF ?_|(refine gI (fun h=>?_) (fun h=>?_)<;>(try contradiction)<;>(try refine rd ?_)<;>(try simp -dsimp (disch:=omega) only[go_sem,h,hl, ot, put_oth hmk]))|refine zX _ (zX _ (zA (zA rfl rfl) ?_)) |refine us (hc) ?_ |fail
        exact ⟨i + 1, by omega, ⟨by omega, by rw [hor, ho, Bool.true_and]⟩, Env.Sub_of_has (by simp [Env.Has, Env.get, Env.putO, hl]), keep_new (keep_new (fun _ _ h => h) hm) hk⟩
      | false =>
        rw [hor, ho, Bool.false_and]
        repeat' first |refine s1 ?_|refine gS ?_|refine wT rfl ?_|refine wF rfl ?_|refine wt rfl ?_|refine wf rfl ?_|(refine wC rfl (fun h=>?_) (fun h=>?_)<;>(try contradiction))|((first|refine rd ?_|refine ry [] c0 fun nu _ _=>?_);simp -dsimp (disch:=omega) only[go_sem,hl, ot, put_oth hmk])|refine e0 (by decide) ?_|(refine zA ?_ ?_;omega)|refine zA (of_eq_true PutAt_put) ?_|refine gT ?_|refine gF ?_|(refine gI (fun h=>?_) (fun h=>?_)<;>(try contradiction)<;>(try refine rd ?_)<;>(try simp -dsimp (disch:=omega) only[go_sem,h,hl, ot, put_oth hmk]))|refine zX _ (zX _ (zA (zA rfl rfl) ?_)) |refine us (hc) ?_ |fail
        exact keep_new (keep_new (fun _ _ h => h) hm) hk
    · have hi' : i = a.length := by omega
      subst hi'
      rw [hor, allS_end q a b hl]
      repeat' first |refine s1 ?_|refine gS ?_|refine wT rfl ?_|refine wF rfl ?_|refine wt rfl ?_|refine wf rfl ?_|(refine wC rfl (fun h=>?_) (fun h=>?_)<;>(try contradiction))|((first|refine rd ?_|refine ry [] c0 fun nu _ _=>?_);simp -dsimp (disch:=omega) only[go_sem,hl])|refine e0 (by decide) ?_|(refine zA ?_ ?_;omega)|refine zA (of_eq_true PutAt_put) ?_|refine gT ?_|refine gF ?_|(refine gI (fun h=>?_) (fun h=>?_)<;>(try contradiction)<;>(try refine rd ?_)<;>(try simp -dsimp (disch:=omega) only[go_sem,h,hl]))|refine zX _ (zX _ (zA (zA rfl rfl) ?_)) |fail
  · rw [allS_len q hl]
    have hl' : ¬ (a.length : Int) = b.length := by omega
    refine PCall_q [.tmp 6] 32 Tryz.func55 (by rfl) rfl rfl rfl rfl ?_
    repeat' first |refine s1 ?_|refine gS ?_|refine wT rfl ?_|refine wF rfl ?_|refine wt rfl ?_|refine wf rfl ?_|(refine wC rfl (fun h=>?_) (fun h=>?_)<;>(try contradiction))|((first|refine rd ?_|refine ry [] c0 fun nu _ _=>?_);simp -dsimp (disch:=omega) only[go_sem,hl'])|refine e0 (by decide) ?_|(refine zA ?_ ?_;omega)|refine zA (of_eq_true PutAt_put) ?_|refine gT ?_|refine gF ?_|(refine gI (fun h=>?_) (fun h=>?_)<;>(try contradiction)<;>(try refine rd ?_)<;>(try simp -dsimp (disch:=omega) only[go_sem,h,hl']))|refine zX _ (zX _ (zA (zA rfl rfl) ?_)) |fail
theorem efnCls (f : FuncId) (q : Cls → Cls → Bool) (ka kb : SK) (a b : List Cls) (ha : a.length < 4611686018427387904) (hb : b.length < 4611686018427387904) (hq : ∀ x, x ∈ a → ∀ y, y ∈ b → Pure Tryz.prog f [eCls x, eCls y] (.bool (q x y))) : Pure Tryz.prog 107 [.sl ka (encL eCls a), .sl kb (encL eCls b), .fn f []] (.bool (allS q a b)) := by
  intro σ
  by_cases hl : a.length = b.length
  · skip
    refine PCall_q [.tmp 6] 32 Tryz.func107 (by rfl) rfl rfl rfl rfl ?_
    repeat' first |refine s1 ?_|refine gS ?_|refine wT rfl ?_|refine wF rfl ?_|refine wt rfl ?_|refine wf rfl ?_|(refine wC rfl (fun h=>?_) (fun h=>?_)<;>(try contradiction))|((first|refine rd ?_|refine ry [] c0 fun nu _ _=>?_);simp -dsimp (disch:=omega) only[go_sem,hl])|refine e0 (by decide) ?_|(refine zA ?_ ?_;omega)|refine zA (of_eq_true PutAt_put) ?_|refine gT ?_|refine gF ?_|(refine gI (fun h=>?_) (fun h=>?_)<;>(try contradiction)<;>(try refine rd ?_)<;>(try simp -dsimp (disch:=omega) only[go_sem,h,hl]))|refine zX _ (zX _ (zA (zA rfl rfl) ?_)) |fail
    refine W_loop_st (fun i : Nat => [(0, .sl ka (encL eCls a)), (1, .sl kb (encL eCls b)), (2, .fn f []), (15, .sl ka (encL eCls a)), (16, .int .i64 a.length), (17, .int .i64 i)]) (fun _ => σ) (fun i => i ≤ a.length ∧ allS q a b = allS q (a.drop i) (b.drop i)) (fun i => a.length - i) 0 ⟨Nat.zero_le _, rfl⟩ (Env.Sub_of_has (by simp [Env.Has, Env.get, hl])) (Store.Sub.refl _) ?_
    rintro i ⟨hi, hor⟩
    by_cases hlt : i < a.length
    · have hlt2 : i < b.length := by omega
      have ho := allS_drop q a b i hlt hlt2
      have hc := hq _ (mem_getD hlt) _ (mem_getD hlt2)
      have hxe : (encL eCls a).getD i .any = eCls (a.getD i default) := getD_encL eCls hlt
      have hye : (encL eCls b).getD i .any = eCls (b.getD i default) := getD_encL eCls hlt2
      obtain ⟨x, hx⟩ : ∃ x, a.getD i default = x := ⟨_, rfl⟩
      obtain ⟨y, hy⟩ : ∃ y, b.getD i default = y := ⟨_, rfl⟩
      obtain ⟨r, hr⟩ : ∃ r, q x y = r := ⟨_, rfl⟩
      rw [hx, hy] at ho hc
      rw [hx] at hxe
      rw [hy] at hye
      rw [hr] at ho hc
      repeat' first |((fail_if_success (first|show W _ _ (Code.seq (Code.region 6 _ _) _) _ _ _|show W _ _ (Code.seq (Code.seq (Code.region 6 _ _) _) _) _ _ _));refine s1 ?_)|refine gS ?_|refine wT rfl ?_|refine wF rfl ?_|refine wt rfl ?_|refine wf rfl ?_|(refine wC rfl (fun h=>?_) (fun h=>?_)<;>(try contradiction))|((fail_if_success (first|show W _ _ (Code.region 6 _ _) _ _ _));(first|refine rd ?_|refine ry [] c0 fun nu _ _=>?_);simp -dsimp (disch:=omega) only[go_sem,hl, hxe, eCls])|refine e0 (by decide) ?_|(refine zA ?_ ?_;omega)|refine zA (of_eq_true PutAt_put) ?_|refine gT ?_|refine gF ?_|(refine gI (fun h=>?_) (fun h=>?_)<;>(try contradiction)<;>(try refine rd ?_)<;>(try simp -dsimp (disch:=omega) only[go_sem,h,hl, hxe, eCls]))|refine zX _ (zX _ (zA (zA rfl rfl) ?_)) |fail
      intro m hm
      repeat' first |((fail_if_success (first|show W _ _ (Code.seq (Code.region 7 _ _) _) _ _ _|show W _ _ (Code.seq (Code.seq (Code.region 7 _ _) _) _) _ _ _));refine s1 ?_)|refine gS ?_|refine wT rfl ?_|refine wF rfl ?_|refine wt rfl ?_|refine wf rfl ?_|(refine wC rfl (fun h=>?_) (fun h=>?_)<;>(try contradiction))|((fail_if_success (first|show W _ _ (Code.region 7 _ _) _ _ _));(first|refine rd ?_|refine ry [] c0 fun nu _ _=>?_);simp -dsimp (disch:=omega) only[go_sem,hl, hye, eCls])|refine e0 (by decide) ?_|(refine zA ?_ ?_;omega)|refine zA (of_eq_true PutAt_put) ?_|refine gT ?_|refine gF ?_|(refine gI (fun h=>?_) (fun h=>?_)<;>(try contradiction)<;>(try refine rd ?_)<;>(try simp -dsimp (disch:=omega) only[go_sem,h,hl, hye, eCls]))|refine zX _ (zX _ (zA (zA rfl rfl) ?_)) |fail
      intro k hk
      have hkm := alloc_ne hk
      rw [put_oth hkm] at hk
      have sw := put_swap hkm
      have ot := put_oth hkm
      have hmk : m ≠ k := fun e => hkm e.symm
      cases r with
      | true =>
        repeat' first |refine s1 ?_|refine gS ?_|refine wT rfl ?_|refine wF rfl ?_|refine wt rfl ?_|refine wf rfl ?_|(refine wC rfl (fun h=>?_) (fun h=>?_)<;>(try contradiction))|((first|refine rd ?_|refine ry [] c0 fun nu _ _=>?_);simp -dsimp (disch:=omega) only[go_sem,hl, ot, put_oth hmk])|refine e0 (by decide) ?_|(refine zA ?_ ?_;omega)|refine zA (of_eq_true PutAt_put) ?_|refine gT ?_|refine gF ?_|(refine gI (fun h=>?_) (fun h=>?_)<;>(try contradiction)<;>(try refine rd ?_)<;>(try simp -dsimp (disch:=omega) only[go_sem,h,hl, ot, put_oth hmk]))|refine zX _ (zX _ (zA (zA rfl rfl) ?_)) |refine us (hc) ?_ |fail
        exact ⟨i + 1, by omega, ⟨by omega, by rw [hor, ho, Bool.true_and]⟩, Env.Sub_of_has (by simp [Env.Has, Env.get, Env.putO, hl]), keep_new (keep_new (fun _ _ h => h) hm) hk⟩
      | false =>
        rw [hor, ho, Bool.false_and]
        repeat' first |refine s1 ?_|refine gS ?_|refine wT rfl ?_|refine wF rfl ?_|refine wt rfl ?_|refine wf rfl ?_|(refine wC rfl (fun h=>?_) (fun h=>?_)<;>(try contradiction))|((first|refine rd ?_|refine ry [] c0 fun nu _ _=>?_);simp -dsimp (disch:=omega) only[go_sem,hl, ot, put_oth hmk])|refine e0 (by decide) ?_|(refine zA ?_ ?_;omega)|refine zA (of_eq_true PutAt_put) ?_|refine gT ?_|refine gF ?_|(refine gI (fun h=>?_) (fun h=>?_)<;>(try contradiction)<;>(try refine rd ?_)<;>(try simp -dsimp (disch:=omega) only[go_sem,h,hl, ot, put_oth hmk]))|refine zX _ (zX _ (zA (zA rfl rfl) ?_)) |refine us (hc) ?_ |fail
        exact keep_new (keep_new (fun _ _ h => h) hm) hk
    · have hi' : i = a.length := by omega
      subst hi'
      rw [hor, allS_end q a b hl]
      repeat' first |refine s1 ?_|refine gS ?_|refine wT rfl ?_|refine wF rfl ?_|refine wt rfl ?_|refine wf rfl ?_|(refine wC rfl (fun h=>?_) (fun h=>?_)<;>(try contradiction))|((first|refine rd ?_|refine ry [] c0 fun nu _ _=>?_);simp -dsimp (disch:=omega) only[go_sem,hl])|refine e0 (by decide) ?_|(refine zA ?_ ?_;omega)|refine zA (of_eq_true PutAt_put) ?_|refine gT ?_|refine gF ?_|(refine gI (fun h=>?_) (fun h=>?_)<;>(try contradiction)<;>(try refine rd ?_)<;>(try simp -dsimp (disch:=omega) only[go_sem,h,hl]))|refine zX _ (zX _ (zA (zA rfl rfl) ?_)) |fail
  · rw [allS_len q hl]
    have hl' : ¬ (a.length : Int) = b.length := by omega
    refine PCall_q [.tmp 6] 32 Tryz.func107 (by rfl) rfl rfl rfl rfl ?_
    repeat' first |refine s1 ?_|refine gS ?_|refine wT rfl ?_|refine wF rfl ?_|refine wt rfl ?_|refine wf rfl ?_|(refine wC rfl (fun h=>?_) (fun h=>?_)<;>(try contradiction))|((first|refine rd ?_|refine ry [] c0 fun nu _ _=>?_);simp -dsimp (disch:=omega) only[go_sem,hl'])|refine e0 (by decide) ?_|(refine zA ?_ ?_;omega)|refine zA (of_eq_true PutAt_put) ?_|refine gT ?_|refine gF ?_|(refine gI (fun h=>?_) (fun h=>?_)<;>(try contradiction)<;>(try refine rd ?_)<;>(try simp -dsimp (disch:=omega) only[go_sem,h,hl']))|refine zX _ (zX _ (zA (zA rfl rfl) ?_)) |fail
structure LstD.L (x : LstD) : Prop where
  l : x.l.length < 4611686018427387904
theorem sameLst_spec (x y : LstD) (hx : x.l.length < 4611686018427387904) (hy : y.l.length < 4611686018427387904) : Pure Tryz.prog 48 [eLst x, eLst y] (.bool (qLst x y)) := by
  intro σ
  have u1 := eqRng x.k y.k x.l y.l hx hy
  obtain ⟨b0, c0⟩ : ∃ b, decide (x.name = y.name) = b := ⟨_, rfl⟩
  obtain ⟨b1, c1⟩ : ∃ b, allS qRng x.l y.l = b := ⟨_, rfl⟩
  rw [qLst, c0, c1]
  rw [c1] at u1
  cases b0 with
  | false =>
    refine PCall_q [.tmp 4] 17 Tryz.func48 (by rfl) rfl rfl rfl rfl ?_
    repeat' first |refine s1 ?_|refine gS ?_|refine wT rfl ?_|refine wF rfl ?_|refine wt rfl ?_|refine wf rfl ?_|(refine wC rfl (fun h=>?_) (fun h=>?_)<;>(try contradiction))|((first|refine rd ?_|refine ry [] c0 fun nu _ _=>?_);simp -dsimp (disch:=omega) only[go_sem,eLst, c0])|refine e0 (by decide) ?_|(refine zA ?_ ?_;omega)|refine zA (of_eq_true PutAt_put) ?_|refine gT ?_|refine gF ?_|(refine gI (fun h=>?_) (fun h=>?_)<;>(try contradiction)<;>(try refine rd ?_)<;>(try simp -dsimp (disch:=omega) only[go_sem,h,eLst, c0]))|refine zX _ (zX _ (zA (zA rfl rfl) ?_)) |fail
  | true =>
  refine PCall_q [.tmp 4] 17 Tryz.func48 (by rfl) rfl rfl rfl rfl ?_
  repeat' first |refine s1 ?_|refine gS ?_|refine wT rfl ?_|refine wF rfl ?_|refine wt rfl ?_|refine wf rfl ?_|(refine wC rfl (fun h=>?_) (fun h=>?_)<;>(try contradiction))|((first|refine rd ?_|refine ry [] c0 fun nu _ _=>?_);simp -dsimp (disch:=omega) only[go_sem,eLst, c0])|refine e0 (by decide) ?_|(refine zA ?_ ?_;omega)|refine zA (of_eq_true PutAt_put) ?_|refine gT ?_|refine gF ?_|(refine gI (fun h=>?_) (fun h=>?_)<;>(try contradiction)<;>(try refine rd ?_)<;>(try simp -dsimp (disch:=omega) only[go_sem,h,eLst, c0]))|refine zX _ (zX _ (zA (zA rfl rfl) ?_)) |refine us (u1) ?_ |fail
theorem sameMap_spec (x y : MapD) (hx : x.Fits) (hy : y.Fits) : Pure Tryz.prog 50 [eMap x, eMap y] (.bool (qMap x y)) := by
  intro σ
  have u1 := efnCls 108 qCls x.k y.k x.l y.l hx.len hy.len (fun a ha b hb => sameCls_spec a b (hx.cls a ha).1 (hy.cls b hb).1)
  obtain ⟨b0, c0⟩ : ∃ b, decide (x.name = y.name) = b := ⟨_, rfl⟩
  obtain ⟨b1, c1⟩ : ∃ b, allS qCls x.l y.l = b := ⟨_, rfl⟩
  rw [qMap, c0, c1]
  rw [c1] at u1
  cases b0 with
  | false =>
    refine PCall_q [.tmp 4] 17 Tryz.func50 (by rfl) rfl rfl rfl rfl ?_
    repeat' first |refine s1 ?_|refine gS ?_|refine wT rfl ?_|refine wF rfl ?_|refine wt rfl ?_|refine wf rfl ?_|(refine wC rfl (fun h=>?_) (fun h=>?_)<;>(try contradiction))|((first|refine rd ?_|refine ry [] c0 fun nu _ _=>?_);simp -dsimp (disch:=omega) only[go_sem,eMap, c0])|refine e0 (by decide) ?_|(refine zA ?_ ?_;omega)|refine zA (of_eq_true PutAt_put) ?_|refine gT ?_|refine gF ?_|(refine gI (fun h=>?_) (fun h=>?_)<;>(try contradiction)<;>(try refine rd ?_)<;>(try simp -dsimp (disch:=omega) only[go_sem,h,eMap, c0]))|refine zX _ (zX _ (zA (zA rfl rfl) ?_)) |fail
  | true =>
  refine PCall_q [.tmp 4] 17 Tryz.func50 (by rfl) rfl rfl rfl rfl ?_
  repeat' first |refine s1 ?_|refine gS ?_|refine wT rfl ?_|refine wF rfl ?_|refine wt rfl ?_|refine wf rfl ?_|(refine wC rfl (fun h=>?_) (fun h=>?_)<;>(try contradiction))|((first|refine rd ?_|refine ry [] c0 fun nu _ _=>?_);simp -dsimp (disch:=omega) only[go_sem,eMap, c0])|refine e0 (by decide) ?_|(refine zA ?_ ?_;omega)|refine zA (of_eq_true PutAt_put) ?_|refine gT ?_|refine gF ?_|(refine gI (fun h=>?_) (fun h=>?_)<;>(try contradiction)<;>(try refine rd ?_)<;>(try simp -dsimp (disch:=omega) only[go_sem,h,eMap, c0]))|refine zX _ (zX _ (zA (zA rfl rfl) ?_)) |refine us (u1) ?_ |fail
theorem sameRtr_spec (x y : Rtr) (hx : x.Fits) (hy : y.Fits) : Pure Tryz.prog 52 [eRtr x, eRtr y] (.bool (qRtr x y)) := by
  intro σ
  have u3 := eqPfx x.kN y.kN x.nets y.nets hx.nets hy.nets
  have u4 := eqNbr x.kB y.kB x.nbrs y.nbrs hx.nbrs hy.nbrs
  have u5 := eqLnk x.kL y.kL x.links y.links hx.links hy.links
  obtain ⟨b0, c0⟩ : ∃ b, decide (x.name = y.name) = b := ⟨_, rfl⟩
  obtain ⟨b1, c1⟩ : ∃ b, decide (x.asn = y.asn) = b := ⟨_, rfl⟩
  obtain ⟨b2, c2⟩ : ∃ b, decide (x.id = y.id) = b := ⟨_, rfl⟩
  obtain ⟨b3, c3⟩ : ∃ b, allS qPfx x.nets y.nets = b := ⟨_, rfl⟩
  obtain ⟨b4, c4⟩ : ∃ b, allS qNbr x.nbrs y.nbrs = b := ⟨_, rfl⟩
  obtain ⟨b5, c5⟩ : ∃ b, allS qLnk x.links y.links = b := ⟨_, rfl⟩
  rw [qRtr, c0, c1, c2, c3, c4, c5]
  rw [c3] at u3
  rw [c4] at u4
  rw [c5] at u5
  cases b0 with
  | false =>
    refine PCall_q [.tmp 4] 45 Tryz.func52 (by rfl) rfl rfl rfl rfl ?_
    repeat' first |refine s1 ?_|refine gS ?_|refine wT rfl ?_|refine wF rfl ?_|refine wt rfl ?_|refine wf rfl ?_|(refine wC rfl (fun h=>?_) (fun h=>?_)<;>(try contradiction))|((first|refine rd ?_|refine ry [] c0 fun nu _ _=>?_);simp -dsimp (disch:=omega) only[go_sem,eRtr, c0])|refine e0 (by decide) ?_|(refine zA ?_ ?_;omega)|refine zA (of_eq_true PutAt_put) ?_|refine gT ?_|refine gF ?_|(refine gI (fun h=>?_) (fun h=>?_)<;>(try contradiction)<;>(try refine rd ?_)<;>(try simp -dsimp (disch:=omega) only[go_sem,h,eRtr, c0]))|refine zX _ (zX _ (zA (zA rfl rfl) ?_)) |fail
  | true =>
  cases b1 with
  | false =>
    refine PCall_q [.tmp 4] 45 Tryz.func52 (by rfl) rfl rfl rfl rfl ?_
    repeat' first |refine s1 ?_|refine gS ?_|refine wT rfl ?_|refine wF rfl ?_|refine wt rfl ?_|refine wf rfl ?_|(refine wC rfl (fun h=>?_) (fun h=>?_)<;>(try contradiction))|((first|refine rd ?_|refine ry [] c0 fun nu _ _=>?_);simp -dsimp (disch:=omega) only[go_sem,eRtr, c0, c1])|refine e0 (by decide) ?_|(refine zA ?_ ?_;omega)|refine zA (of_eq_true PutAt_put) ?_|refine gT ?_|refine gF ?_|(refine gI (fun h=>?_) (fun h=>?_)<;>(try contradiction)<;>(try refine rd ?_)<;>(try simp -dsimp (disch:=omega) only[go_sem,h,eRtr, c0, c1]))|refine zX _ (zX _ (zA (zA rfl rfl) ?_)) |fail
  | true =>
  cases b2 with
  | false =>
    refine PCall_q [.tmp 4] 45 Tryz.func52 (by rfl) rfl rfl rfl rfl ?_
    repeat' first |refine s1 ?_|refine gS ?_|refine wT rfl ?_|refine wF rfl ?_|refine wt rfl ?_|refine wf rfl ?_|(refine wC rfl (fun h=>?_) (fun h=>?_)<;>(try contradiction))|((first|refine rd ?_|refine ry [] c0 fun nu _ _=>?_);simp -dsimp (disch:=omega) only[go_sem,eRtr, c0, c1, c2])|refine e0 (by decide) ?_|(refine zA ?_ ?_;omega)|refine zA (of_eq_true PutAt_put) ?_|refine gT ?_|refine gF ?_|(refine gI (fun h=>?_) (fun h=>?_)<;>(try contradiction)<;>(try refine rd ?_)<;>(try simp -dsimp (disch:=omega) only[go_sem,h,eRtr, c0, c1, c2]))|refine zX _ (zX _ (zA (zA rfl rfl) ?_)) |fail
  | true =>
  cases b3 with
  | false =>
    refine PCall_q [.tmp 4] 45 Tryz.func52 (by rfl) rfl rfl rfl rfl ?_
    repeat' first |refine s1 ?_|refine gS ?_|refine wT rfl ?_|refine wF rfl ?_|refine wt rfl ?_|refine wf rfl ?_|(refine wC rfl (fun h=>?_) (fun h=>?_)<;>(try contradiction))|((first|refine rd ?_|refine ry [] c0 fun nu _ _=>?_);simp -dsimp (disch:=omega) only[go_sem,eRtr, c0, c1, c2])|refine e0 (by decide) ?_|(refine zA ?_ ?_;omega)|refine zA (of_eq_true PutAt_put) ?_|refine gT ?_|refine gF ?_|(refine gI (fun h=>?_) (fun h=>?_)<;>(try contradiction)<;>(try refine rd ?_)<;>(try simp -dsimp (disch:=omega) only[go_sem,h,eRtr, c0, c1, c2]))|refine zX _ (zX _ (zA (zA rfl rfl) ?_)) |refine us (u3) ?_ |fail
  | true =>
  cases b4 with
  | false =>
    refine PCall_q [.tmp 4] 45 Tryz.func52 (by rfl) rfl rfl rfl rfl ?_
    repeat' first |refine s1 ?_|refine gS ?_|refine wT rfl ?_|refine wF rfl ?_|refine wt rfl ?_|refine wf rfl ?_|(refine wC rfl (fun h=>?_) (fun h=>?_)<;>(try contradiction))|((first|refine rd ?_|refine ry [] c0 fun nu _ _=>?_);simp -dsimp (disch:=omega) only[go_sem,eRtr, c0, c1, c2])|refine e0 (by decide) ?_|(refine zA ?_ ?_;omega)|refine zA (of_eq_true PutAt_put) ?_|refine gT ?_|refine gF ?_|(refine gI (fun h=>?_) (fun h=>?_)<;>(try contradiction)<;>(try refine rd ?_)<;>(try simp -dsimp (disch:=omega) only[go_sem,h,eRtr, c0, c1, c2]))|refine zX _ (zX _ (zA (zA rfl rfl) ?_)) |refine us (u3) ?_ |refine us (u4) ?_ |fail
  | true =>
  refine PCall_q [.tmp 4] 45 Tryz.func52 (by rfl) rfl rfl rfl rfl ?_
  repeat' first |refine s1 ?_|refine gS ?_|refine wT rfl ?_|refine wF rfl ?_|refine wt rfl ?_|refine wf rfl ?_|(refine wC rfl (fun h=>?_) (fun h=>?_)<;>(try contradiction))|((first|refine rd ?_|refine ry [] c0 fun nu _ _=>?_);simp -dsimp (disch:=omega) only[go_sem,eRtr, c0, c1, c2])|refine e0 (by decide) ?_|(refine zA ?_ ?_;omega)|refine zA (of_eq_true PutAt_put) ?_|refine gT ?_|refine gF ?_|(refine gI (fun h=>?_) (fun h=>?_)<;>(try contradiction)<;>(try refine rd ?_)<;>(try simp -dsimp (disch:=omega) only[go_sem,h,eRtr, c0, c1, c2]))|refine zX _ (zX _ (zA (zA rfl rfl) ?_)) |refine us (u3) ?_ |refine us (u4) ?_ |refine us (u5) ?_ |fail
theorem same_spec (x y : Cfg) (hx : x.Fits) (hy : y.Fits) : Pure Tryz.prog 17 [eCfg x, eCfg y] (.bool (qCfg x y)) := by
  intro σ
  have u0 := efnLst 48 qLst x.kL y.kL x.lists y.lists hx.lists hy.lists (fun a ha b hb => sameLst_spec a b (hx.lst a ha).1 (hy.lst b hb).1)
  have u1 := efnMap 50 qMap x.kM y.kM x.maps y.maps hx.maps hy.maps (fun a ha b hb => sameMap_spec a b (hx.map a ha) (hy.map b hb))
  have u2 := efnRtr 52 qRtr x.kR y.kR x.routers y.routers hx.routers hy.routers (fun a ha b hb => sameRtr_spec a b (hx.rtr a ha) (hy.rtr b hb))
  obtain ⟨b0, c0⟩ : ∃ b, allS qLst x.lists y.lists = b := ⟨_, rfl⟩
  obtain ⟨b1, c1⟩ : ∃ b, allS qMap x.maps y.maps = b := ⟨_, rfl⟩
  obtain ⟨b2, c2⟩ : ∃ b, allS qRtr x.routers y.routers = b := ⟨_, rfl⟩
  rw [qCfg, c0, c1, c2]
  rw [c0] at u0
  rw [c1] at u1
  rw [c2] at u2
  cases b0 with
  | false =>
    refine PCall_q [.tmp 4] 24 Tryz.func17 (by rfl) rfl rfl rfl rfl ?_
    repeat' first |refine s1 ?_|refine gS ?_|refine wT rfl ?_|refine wF rfl ?_|refine wt rfl ?_|refine wf rfl ?_|(refine wC rfl (fun h=>?_) (fun h=>?_)<;>(try contradiction))|((first|refine rd ?_|refine ry [] c0 fun nu _ _=>?_);simp -dsimp (disch:=omega) only[go_sem,eCfg])|refine e0 (by decide) ?_|(refine zA ?_ ?_;omega)|refine zA (of_eq_true PutAt_put) ?_|refine gT ?_|refine gF ?_|(refine gI (fun h=>?_) (fun h=>?_)<;>(try contradiction)<;>(try refine rd ?_)<;>(try simp -dsimp (disch:=omega) only[go_sem,h,eCfg]))|refine zX _ (zX _ (zA (zA rfl rfl) ?_)) |refine us (u0) ?_ |fail
  | true =>
  cases b1 with
  | false =>
    refine PCall_q [.tmp 4] 24 Tryz.func17 (by rfl) rfl rfl rfl rfl ?_
    repeat' first |refine s1 ?_|refine gS ?_|refine wT rfl ?_|refine wF rfl ?_|refine wt rfl ?_|refine wf rfl ?_|(refine wC rfl (fun h=>?_) (fun h=>?_)<;>(try contradiction))|((first|refine rd ?_|refine ry [] c0 fun nu _ _=>?_);simp -dsimp (disch:=omega) only[go_sem,eCfg])|refine e0 (by decide) ?_|(refine zA ?_ ?_;omega)|refine zA (of_eq_true PutAt_put) ?_|refine gT ?_|refine gF ?_|(refine gI (fun h=>?_) (fun h=>?_)<;>(try contradiction)<;>(try refine rd ?_)<;>(try simp -dsimp (disch:=omega) only[go_sem,h,eCfg]))|refine zX _ (zX _ (zA (zA rfl rfl) ?_)) |refine us (u0) ?_ |refine us (u1) ?_ |fail
  | true =>
  refine PCall_q [.tmp 4] 24 Tryz.func17 (by rfl) rfl rfl rfl rfl ?_
  repeat' first |refine s1 ?_|refine gS ?_|refine wT rfl ?_|refine wF rfl ?_|refine wt rfl ?_|refine wf rfl ?_|(refine wC rfl (fun h=>?_) (fun h=>?_)<;>(try contradiction))|((first|refine rd ?_|refine ry [] c0 fun nu _ _=>?_);simp -dsimp (disch:=omega) only[go_sem,eCfg])|refine e0 (by decide) ?_|(refine zA ?_ ?_;omega)|refine zA (of_eq_true PutAt_put) ?_|refine gT ?_|refine gF ?_|(refine gI (fun h=>?_) (fun h=>?_)<;>(try contradiction)<;>(try refine rd ?_)<;>(try simp -dsimp (disch:=omega) only[go_sem,h,eCfg]))|refine zX _ (zX _ (zA (zA rfl rfl) ?_)) |refine us (u0) ?_ |refine us (u1) ?_ |refine us (u2) ?_ |fail
end Go.Proofs.YtaealcimocpnnaaGreat

namespace Go.Proofs.YtaealcimocpnnaaGreat
open Go.Kern Go.RowKit Go.MapKept
abbrev nLst (x : LstD) : ByteArray := x.name
abbrev nMap (x : MapD) : ByteArray := x.name
abbrev nRtr (x : Rtr) : ByteArray := x.name
set_option maxRecDepth 100000
set_option maxHeartbeats 4000000
attribute [local irreducible] PCall W
theorem fstLst (k : SK) (l : List LstD) (hl : l.length < 1000000) (σ : Store) : PCall Tryz.prog 102 [.sl k (encL eLst l), .ip (.fn 35 []) 0] σ (fun r t => ∃ o, r = .map o ∧ σ o = none ∧ t = σ.put o (.map (entN nLst eLst (firsts nLst l)))) := by
  refine PCall_w [.tmp 3] 33 Tryz.func102 (by rfl) rfl rfl rfl rfl ?_
  repeat' first |refine s1 ?_|refine gS ?_|refine wT rfl ?_|refine wF rfl ?_|refine wt rfl ?_|refine wf rfl ?_|(refine wC rfl (fun h=>?_) (fun h=>?_)<;>(try contradiction))|((first|refine rd ?_|refine ry [] c0 fun nu _ _=>?_);simp -dsimp (disch:=omega) only[go_sem])|refine e0 (by decide) ?_|(refine zA ?_ ?_;omega)|refine zA (of_eq_true PutAt_put) ?_|refine gT ?_|refine gF ?_|(refine gI (fun h=>?_) (fun h=>?_)<;>(try contradiction)<;>(try refine rd ?_)<;>(try simp -dsimp (disch:=omega) only[go_sem,h]))|refine zX _ (zX _ (zA (zA rfl rfl) ?_)) |fail
  intro o ho
  repeat' first |refine s1 ?_|refine gS ?_|refine wT rfl ?_|refine wF rfl ?_|refine wt rfl ?_|refine wf rfl ?_|(refine wC rfl (fun h=>?_) (fun h=>?_)<;>(try contradiction))|((first|refine rd ?_|refine ry [] c0 fun nu _ _=>?_);simp -dsimp (disch:=omega) only[go_sem])|refine e0 (by decide) ?_|(refine zA ?_ ?_;omega)|refine zA (of_eq_true PutAt_put) ?_|refine gT ?_|refine gF ?_|(refine gI (fun h=>?_) (fun h=>?_)<;>(try contradiction)<;>(try refine rd ?_)<;>(try simp -dsimp (disch:=omega) only[go_sem,h]))|refine zX _ (zX _ (zA (zA rfl rfl) ?_)) |fail
  refine W_loop_st (fun i : Nat => [(1, .ip (.fn 35 []) 0), (4, .map o), (10, .sl k (encL eLst l)), (11, .int .i64 l.length), (12, .int .i64 i)]) (fun i => σ.put o (.map (entN nLst eLst (firsts nLst (l.take i))))) (fun i => i ≤ l.length) (fun i => l.length - i) 0 (Nat.zero_le _) (Env.Sub_of_has (by simp [Env.Has, Env.get, Env.putO])) (Store.Sub.refl _) ?_
  intro i hi
  by_cases hlt : i < l.length
  · have hf := firsts_succ nLst hlt
    have hget : (encL eLst l).getD i .any = eLst (l.getD i default) := getD_encL eLst hlt
    obtain ⟨x, hx⟩ : ∃ x, l.getD i default = x := ⟨_, rfl⟩
    obtain ⟨F, hF⟩ : ∃ F, firsts nLst (l.take i) = F := ⟨_, rfl⟩
    rw [hx] at hget hf
    rw [hF] at hf ⊢
    have hgn := getLst x
    have hke := entN_keys nLst eLst F
    have hfd := entN_find nLst eLst F x.name
    have hfh := find_has nLst F x.name
    repeat' first |((fail_if_success (first|show W _ _ (Code.seq (Code.region 5 _ _) _) _ _ _|show W _ _ (Code.seq (Code.seq (Code.region 5 _ _) _) _) _ _ _));refine s1 ?_)|refine gS ?_|refine wT rfl ?_|refine wF rfl ?_|refine wt rfl ?_|refine wf rfl ?_|(refine wC rfl (fun h=>?_) (fun h=>?_)<;>(try contradiction))|((fail_if_success (first|show W _ _ (Code.region 5 _ _) _ _ _));(first|refine rd ?_|refine ry [] c0 fun nu _ _=>?_);simp -dsimp (disch:=omega) only[go_sem,hget])|refine e0 (by decide) ?_|(refine zA ?_ ?_;omega)|refine zA (of_eq_true PutAt_put) ?_|refine gT ?_|refine gF ?_|(refine gI (fun h=>?_) (fun h=>?_)<;>(try contradiction)<;>(try refine rd ?_)<;>(try simp -dsimp (disch:=omega) only[go_sem,h,hget]))|refine zX _ (zX _ (zA (zA rfl rfl) ?_)) |fail
    intro m hm
    have hmo := alloc_ne hm
    rw [put_oth hmo] at hm
    have hom : o ≠ m := fun e => hmo e.symm
    have sw := put_swap hmo
    have t1 := put_oth hmo
    have t2 := put_oth hom
    simp only [sw]
    cases hh : hasN nLst x.name F with
    | true =>
      rw [hh] at hfh
      obtain ⟨y, hy⟩ : ∃ y, F.find? (fun z => decide (nLst z = x.name)) = some y := Option.isSome_iff_exists.1 hfh.symm
      rw [hy] at hfd
      simp only [Option.map_some] at hfd
      have hf2 : firsts nLst (l.take (i + 1)) = F := by rw [hf, addN, show nLst x = x.name from rfl, hh, if_pos rfl]
      repeat' first |((fail_if_success (first|show W _ _ (Code.seq (Code.region 6 _ _) _) _ _ _|show W _ _ (Code.seq (Code.seq (Code.region 6 _ _) _) _) _ _ _));refine s1 ?_)|refine gS ?_|refine wT rfl ?_|refine wF rfl ?_|refine wt rfl ?_|refine wf rfl ?_|(refine wC rfl (fun h=>?_) (fun h=>?_)<;>(try contradiction))|((fail_if_success (first|show W _ _ (Code.region 6 _ _) _ _ _));(first|refine rd ?_|refine ry [] c0 fun nu _ _=>?_);simp -dsimp (disch:=omega) only[go_sem,t1, t2, hke, hfd, eLst])|refine e0 (by decide) ?_|(refine zA ?_ ?_;omega)|refine zA (of_eq_true PutAt_put) ?_|refine gT ?_|refine gF ?_|(refine gI (fun h=>?_) (fun h=>?_)<;>(try contradiction)<;>(try refine rd ?_)<;>(try simp -dsimp (disch:=omega) only[go_sem,h,t1, t2, hke, hfd, eLst]))|refine zX _ (zX _ (zA (zA rfl rfl) ?_)) |refine us (hgn) ?_ |fail
      intro w hw
      have hwo := alloc_ne hw
      rw [put_oth hwo] at hw
      have hwm := alloc_ne hw
      rw [put_oth hwm] at hw
      repeat' first |refine s1 ?_|refine gS ?_|refine wT rfl ?_|refine wF rfl ?_|refine wt rfl ?_|refine wf rfl ?_|(refine wC rfl (fun h=>?_) (fun h=>?_)<;>(try contradiction))|((first|refine rd ?_|refine ry [] c0 fun nu _ _=>?_);simp -dsimp (disch:=omega) only[go_sem])|refine e0 (by decide) ?_|(refine zA ?_ ?_;omega)|refine zA (of_eq_true PutAt_put) ?_|refine gT ?_|refine gF ?_|(refine gI (fun h=>?_) (fun h=>?_)<;>(try contradiction)<;>(try refine rd ?_)<;>(try simp -dsimp (disch:=omega) only[go_sem,h]))|refine zX _ (zX _ (zA (zA rfl rfl) ?_)) |fail
      exact ⟨i + 1, by omega, (by omega), Env.Sub_of_has (by simp [Env.Has, Env.get, Env.putO]), by rw [hf2, put_swap hwo]; exact put_mono (keep_new (keep_new (fun _ _ h => h) hm) hw) _ _⟩
    | false =>
      rw [hh] at hfh
      have hy : F.find? (fun z => decide (nLst z = x.name)) = none := Option.isSome_eq_false_iff.1 hfh.symm |> Option.isNone_iff_eq_none.1
      rw [hy] at hfd
      simp only [Option.map_none] at hfd
      have hst := entN_set nLst eLst F x.name (eLst x) hh
      simp only [eLst] at hst
      have hf2 : firsts nLst (l.take (i + 1)) = F ++ [x] := by rw [hf, addN, show nLst x = x.name from rfl, hh, if_neg (by simp)]
      have hen : entN nLst eLst (F ++ [x]) = entN nLst eLst F ++ [(.str x.name, eLst x)] := by simp [entN]
      repeat' first |((fail_if_success (first|show W _ _ (Code.seq (Code.region 6 _ _) _) _ _ _|show W _ _ (Code.seq (Code.seq (Code.region 6 _ _) _) _) _ _ _));refine s1 ?_)|refine gS ?_|refine wT rfl ?_|refine wF rfl ?_|refine wt rfl ?_|refine wf rfl ?_|(refine wC rfl (fun h=>?_) (fun h=>?_)<;>(try contradiction))|((fail_if_success (first|show W _ _ (Code.region 6 _ _) _ _ _));(first|refine rd ?_|refine ry [] c0 fun nu _ _=>?_);simp -dsimp (disch:=omega) only[go_sem,t1, t2, hke, hfd, eLst])|refine e0 (by decide) ?_|(refine zA ?_ ?_;omega)|refine zA (of_eq_true PutAt_put) ?_|refine gT ?_|refine gF ?_|(refine gI (fun h=>?_) (fun h=>?_)<;>(try contradiction)<;>(try refine rd ?_)<;>(try simp -dsimp (disch:=omega) only[go_sem,h,t1, t2, hke, hfd, eLst]))|refine zX _ (zX _ (zA (zA rfl rfl) ?_)) |refine us (hgn) ?_ |fail
      intro w hw
      have hwo := alloc_ne hw
      rw [put_oth hwo] at hw
      have hwm := alloc_ne hw
      rw [put_oth hwm] at hw
      have how : o ≠ w := fun e => hwo e.symm
      have hmw : m ≠ w := fun e => hwm e.symm
      repeat' first |refine s1 ?_|refine gS ?_|refine wT rfl ?_|refine wF rfl ?_|refine wt rfl ?_|refine wf rfl ?_|(refine wC rfl (fun h=>?_) (fun h=>?_)<;>(try contradiction))|((first|refine rd ?_|refine ry (id:=7) [] (cw [2,4] [5] [] [] []) fun nu _ _=>?_|refine ry [] c0 fun nu _ _=>?_);simp -dsimp (disch:=omega) only[go_sem,t1, t2, put_oth how, put_oth hmw, put_swap how, hke, hst, eLst])|refine e0 (by decide) ?_|(refine zA ?_ ?_;omega)|refine zA (of_eq_true PutAt_put) ?_|refine gT ?_|refine gF ?_|(refine gI (fun h=>?_) (fun h=>?_)<;>(try contradiction)<;>(try refine rd ?_)<;>(try simp -dsimp (disch:=omega) only[go_sem,h,t1, t2, put_oth how, put_oth hmw, put_swap how, hke, hst, eLst]))|refine zX _ (zX _ (zA (zA rfl rfl) ?_)) |refine us (hgn) ?_ |fail
      exact ⟨i + 1, by omega, (by omega), Env.Sub_of_has (by simp [Env.Has, Env.get, Env.putO]), by rw [hf2, hen]; exact keep_new (put_mono (keep_new (fun _ _ h => h) hm) o _) (by rw [put_oth hwo]; exact hw)⟩
  · have hi' : i = l.length := by omega
    subst hi'
    repeat' first |refine s1 ?_|refine gS ?_|refine wT rfl ?_|refine wF rfl ?_|refine wt rfl ?_|refine wf rfl ?_|(refine wC rfl (fun h=>?_) (fun h=>?_)<;>(try contradiction))|((first|refine rd ?_|refine ry [] c0 fun nu _ _=>?_);simp -dsimp (disch:=omega) only[go_sem])|refine e0 (by decide) ?_|(refine zA ?_ ?_;omega)|refine zA (of_eq_true PutAt_put) ?_|refine gT ?_|refine gF ?_|(refine gI (fun h=>?_) (fun h=>?_)<;>(try contradiction)<;>(try refine rd ?_)<;>(try simp -dsimp (disch:=omega) only[go_sem,h]))|refine zX _ (zX _ (zA (zA rfl rfl) ?_)) |fail
    exact ⟨_, Store.Sub.refl _, o, rfl, ho, by rw [List.take_length]⟩
theorem fstMap (k : SK) (l : List MapD) (hl : l.length < 1000000) (σ : Store) : PCall Tryz.prog 106 [.sl k (encL eMap l), .ip (.fn 37 []) 0] σ (fun r t => ∃ o, r = .map o ∧ σ o = none ∧ t = σ.put o (.map (entN nMap eMap (firsts nMap l)))) := by
  refine PCall_w [.tmp 3] 33 Tryz.func106 (by rfl) rfl rfl rfl rfl ?_
  repeat' first |refine s1 ?_|refine gS ?_|refine wT rfl ?_|refine wF rfl ?_|refine wt rfl ?_|refine wf rfl ?_|(refine wC rfl (fun h=>?_) (fun h=>?_)<;>(try contradiction))|((first|refine rd ?_|refine ry [] c0 fun nu _ _=>?_);simp -dsimp (disch:=omega) only[go_sem])|refine e0 (by decide) ?_|(refine zA ?_ ?_;omega)|refine zA (of_eq_true PutAt_put) ?_|refine gT ?_|refine gF ?_|(refine gI (fun h=>?_) (fun h=>?_)<;>(try contradiction)<;>(try refine rd ?_)<;>(try simp -dsimp (disch:=omega) only[go_sem,h]))|refine zX _ (zX _ (zA (zA rfl rfl) ?_)) |fail
  intro o ho
  repeat' first |refine s1 ?_|refine gS ?_|refine wT rfl ?_|refine wF rfl ?_|refine wt rfl ?_|refine wf rfl ?_|(refine wC rfl (fun h=>?_) (fun h=>?_)<;>(try contradiction))|((first|refine rd ?_|refine ry [] c0 fun nu _ _=>?_);simp -dsimp (disch:=omega) only[go_sem])|refine e0 (by decide) ?_|(refine zA ?_ ?_;omega)|refine zA (of_eq_true PutAt_put) ?_|refine gT ?_|refine gF ?_|(refine gI (fun h=>?_) (fun h=>?_)<;>(try contradiction)<;>(try refine rd ?_)<;>(try simp -dsimp (disch:=omega) only[go_sem,h]))|refine zX _ (zX _ (zA (zA rfl rfl) ?_)) |fail
  refine W_loop_st (fun i : Nat => [(1, .ip (.fn 37 []) 0), (4, .map o), (10, .sl k (encL eMap l)), (11, .int .i64 l.length), (12, .int .i64 i)]) (fun i => σ.put o (.map (entN nMap eMap (firsts nMap (l.take i))))) (fun i => i ≤ l.length) (fun i => l.length - i) 0 (Nat.zero_le _) (Env.Sub_of_has (by simp [Env.Has, Env.get, Env.putO])) (Store.Sub.refl _) ?_
  intro i hi
  by_cases hlt : i < l.length
  · have hf := firsts_succ nMap hlt
    have hget : (encL eMap l).getD i .any = eMap (l.getD i default) := getD_encL eMap hlt
    obtain ⟨x, hx⟩ : ∃ x, l.getD i default = x := ⟨_, rfl⟩
    obtain ⟨F, hF⟩ : ∃ F, firsts nMap (l.take i) = F := ⟨_, rfl⟩
    rw [hx] at hget hf
    rw [hF] at hf ⊢
    have hgn := getMap x
    have hke := entN_keys nMap eMap F
    have hfd := entN_find nMap eMap F x.name
    have hfh := find_has nMap F x.name
    repeat' first |((fail_if_success (first|show W _ _ (Code.seq (Code.region 5 _ _) _) _ _ _|show W _ _ (Code.seq (Code.seq (Code.region 5 _ _) _) _) _ _ _));refine s1 ?_)|refine gS ?_|refine wT rfl ?_|refine wF rfl ?_|refine wt rfl ?_|refine wf rfl ?_|(refine wC rfl (fun h=>?_) (fun h=>?_)<;>(try contradiction))|((fail_if_success (first|show W _ _ (Code.region 5 _ _) _ _ _));(first|refine rd ?_|refine ry [] c0 fun nu _ _=>?_);simp -dsimp (disch:=omega) only[go_sem,hget])|refine e0 (by decide) ?_|(refine zA ?_ ?_;omega)|refine zA (of_eq_true PutAt_put) ?_|refine gT ?_|refine gF ?_|(refine gI (fun h=>?_) (fun h=>?_)<;>(try contradiction)<;>(try refine rd ?_)<;>(try simp -dsimp (disch:=omega) only[go_sem,h,hget]))|refine zX _ (zX _ (zA (zA rfl rfl) ?_)) |fail
    intro m hm
    have hmo := alloc_ne hm
    rw [put_oth hmo] at hm
    have hom : o ≠ m := fun e => hmo e.symm
    have sw := put_swap hmo
    have t1 := put_oth hmo
    have t2 := put_oth hom
    simp only [sw]
    cases hh : hasN nMap x.name F with
    | true =>
      rw [hh] at hfh
      obtain ⟨y, hy⟩ : ∃ y, F.find? (fun z => decide (nMap z = x.name)) = some y := Option.isSome_iff_exists.1 hfh.symm
      rw [hy] at hfd
      simp only [Option.map_some] at hfd
      have hf2 : firsts nMap (l.take (i + 1)) = F := by rw [hf, addN, show nMap x = x.name from rfl, hh, if_pos rfl]
      repeat' first |((fail_if_success (first|show W _ _ (Code.seq (Code.region 6 _ _) _) _ _ _|show W _ _ (Code.seq (Code.seq (Code.region 6 _ _) _) _) _ _ _));refine s1 ?_)|refine gS ?_|refine wT rfl ?_|refine wF rfl ?_|refine wt rfl ?_|refine wf rfl ?_|(refine wC rfl (fun h=>?_) (fun h=>?_)<;>(try contradiction))|((fail_if_success (first|show W _ _ (Code.region 6 _ _) _ _ _));(first|refine rd ?_|refine ry [] c0 fun nu _ _=>?_);simp -dsimp (disch:=omega) only[go_sem,t1, t2, hke, hfd, eMap])|refine e0 (by decide) ?_|(refine zA ?_ ?_;omega)|refine zA (of_eq_true PutAt_put) ?_|refine gT ?_|refine gF ?_|(refine gI (fun h=>?_) (fun h=>?_)<;>(try contradiction)<;>(try refine rd ?_)<;>(try simp -dsimp (disch:=omega) only[go_sem,h,t1, t2, hke, hfd, eMap]))|refine zX _ (zX _ (zA (zA rfl rfl) ?_)) |refine us (hgn) ?_ |fail
      intro w hw
      have hwo := alloc_ne hw
      rw [put_oth hwo] at hw
      have hwm := alloc_ne hw
      rw [put_oth hwm] at hw
      repeat' first |refine s1 ?_|refine gS ?_|refine wT rfl ?_|refine wF rfl ?_|refine wt rfl ?_|refine wf rfl ?_|(refine wC rfl (fun h=>?_) (fun h=>?_)<;>(try contradiction))|((first|refine rd ?_|refine ry [] c0 fun nu _ _=>?_);simp -dsimp (disch:=omega) only[go_sem])|refine e0 (by decide) ?_|(refine zA ?_ ?_;omega)|refine zA (of_eq_true PutAt_put) ?_|refine gT ?_|refine gF ?_|(refine gI (fun h=>?_) (fun h=>?_)<;>(try contradiction)<;>(try refine rd ?_)<;>(try simp -dsimp (disch:=omega) only[go_sem,h]))|refine zX _ (zX _ (zA (zA rfl rfl) ?_)) |fail
      exact ⟨i + 1, by omega, (by omega), Env.Sub_of_has (by simp [Env.Has, Env.get, Env.putO]), by rw [hf2, put_swap hwo]; exact put_mono (keep_new (keep_new (fun _ _ h => h) hm) hw) _ _⟩
    | false =>
      rw [hh] at hfh
      have hy : F.find? (fun z => decide (nMap z = x.name)) = none := Option.isSome_eq_false_iff.1 hfh.symm |> Option.isNone_iff_eq_none.1
      rw [hy] at hfd
      simp only [Option.map_none] at hfd
      have hst := entN_set nMap eMap F x.name (eMap x) hh
      simp only [eMap] at hst
      have hf2 : firsts nMap (l.take (i + 1)) = F ++ [x] := by rw [hf, addN, show nMap x = x.name from rfl, hh, if_neg (by simp)]
      have hen : entN nMap eMap (F ++ [x]) = entN nMap eMap F ++ [(.str x.name, eMap x)] := by simp [entN]
      repeat' first |((fail_if_success (first|show W _ _ (Code.seq (Code.region 6 _ _) _) _ _ _|show W _ _ (Code.seq (Code.seq (Code.region 6 _ _) _) _) _ _ _));refine s1 ?_)|refine gS ?_|refine wT rfl ?_|refine wF rfl ?_|refine wt rfl ?_|refine wf rfl ?_|(refine wC rfl (fun h=>?_) (fun h=>?_)<;>(try contradiction))|((fail_if_success (first|show W _ _ (Code.region 6 _ _) _ _ _));(first|refine rd ?_|refine ry [] c0 fun nu _ _=>?_);simp -dsimp (disch:=omega) only[go_sem,t1, t2, hke, hfd, eMap])|refine e0 (by decide) ?_|(refine zA ?_ ?_;omega)|refine zA (of_eq_true PutAt_put) ?_|refine gT ?_|refine gF ?_|(refine gI (fun h=>?_) (fun h=>?_)<;>(try contradiction)<;>(try refine rd ?_)<;>(try simp -dsimp (disch:=omega) only[go_sem,h,t1, t2, hke, hfd, eMap]))|refine zX _ (zX _ (zA (zA rfl rfl) ?_)) |refine us (hgn) ?_ |fail
      intro w hw
      have hwo := alloc_ne hw
      rw [put_oth hwo] at hw
      have hwm := alloc_ne hw
      rw [put_oth hwm] at hw
      have how : o ≠ w := fun e => hwo e.symm
      have hmw : m ≠ w := fun e => hwm e.symm
      repeat' first |refine s1 ?_|refine gS ?_|refine wT rfl ?_|refine wF rfl ?_|refine wt rfl ?_|refine wf rfl ?_|(refine wC rfl (fun h=>?_) (fun h=>?_)<;>(try contradiction))|((first|refine rd ?_|refine ry (id:=7) [] (cw [2,4] [5] [] [] []) fun nu _ _=>?_|refine ry [] c0 fun nu _ _=>?_);simp -dsimp (disch:=omega) only[go_sem,t1, t2, put_oth how, put_oth hmw, put_swap how, hke, hst, eMap])|refine e0 (by decide) ?_|(refine zA ?_ ?_;omega)|refine zA (of_eq_true PutAt_put) ?_|refine gT ?_|refine gF ?_|(refine gI (fun h=>?_) (fun h=>?_)<;>(try contradiction)<;>(try refine rd ?_)<;>(try simp -dsimp (disch:=omega) only[go_sem,h,t1, t2, put_oth how, put_oth hmw, put_swap how, hke, hst, eMap]))|refine zX _ (zX _ (zA (zA rfl rfl) ?_)) |refine us (hgn) ?_ |fail
      exact ⟨i + 1, by omega, (by omega), Env.Sub_of_has (by simp [Env.Has, Env.get, Env.putO]), by rw [hf2, hen]; exact keep_new (put_mono (keep_new (fun _ _ h => h) hm) o _) (by rw [put_oth hwo]; exact hw)⟩
  · have hi' : i = l.length := by omega
    subst hi'
    repeat' first |refine s1 ?_|refine gS ?_|refine wT rfl ?_|refine wF rfl ?_|refine wt rfl ?_|refine wf rfl ?_|(refine wC rfl (fun h=>?_) (fun h=>?_)<;>(try contradiction))|((first|refine rd ?_|refine ry [] c0 fun nu _ _=>?_);simp -dsimp (disch:=omega) only[go_sem])|refine e0 (by decide) ?_|(refine zA ?_ ?_;omega)|refine zA (of_eq_true PutAt_put) ?_|refine gT ?_|refine gF ?_|(refine gI (fun h=>?_) (fun h=>?_)<;>(try contradiction)<;>(try refine rd ?_)<;>(try simp -dsimp (disch:=omega) only[go_sem,h]))|refine zX _ (zX _ (zA (zA rfl rfl) ?_)) |fail
    exact ⟨_, Store.Sub.refl _, o, rfl, ho, by rw [List.take_length]⟩
theorem fstRtr (k : SK) (l : List Rtr) (hl : l.length < 1000000) (σ : Store) : PCall Tryz.prog 110 [.sl k (encL eRtr l), .ip (.fn 39 []) 0] σ (fun r t => ∃ o, r = .map o ∧ σ o = none ∧ t = σ.put o (.map (entN nRtr eRtr (firsts nRtr l)))) := by
  refine PCall_w [.tmp 3] 33 Tryz.func110 (by rfl) rfl rfl rfl rfl ?_
  repeat' first |refine s1 ?_|refine gS ?_|refine wT rfl ?_|refine wF rfl ?_|refine wt rfl ?_|refine wf rfl ?_|(refine wC rfl (fun h=>?_) (fun h=>?_)<;>(try contradiction))|((first|refine rd ?_|refine ry [] c0 fun nu _ _=>?_);simp -dsimp (disch:=omega) only[go_sem])|refine e0 (by decide) ?_|(refine zA ?_ ?_;omega)|refine zA (of_eq_true PutAt_put) ?_|refine gT ?_|refine gF ?_|(refine gI (fun h=>?_) (fun h=>?_)<;>(try contradiction)<;>(try refine rd ?_)<;>(try simp -dsimp (disch:=omega) only[go_sem,h]))|refine zX _ (zX _ (zA (zA rfl rfl) ?_)) |fail
  intro o ho
  repeat' first |refine s1 ?_|refine gS ?_|refine wT rfl ?_|refine wF rfl ?_|refine wt rfl ?_|refine wf rfl ?_|(refine wC rfl (fun h=>?_) (fun h=>?_)<;>(try contradiction))|((first|refine rd ?_|refine ry [] c0 fun nu _ _=>?_);simp -dsimp (disch:=omega) only[go_sem])|refine e0 (by decide) ?_|(refine zA ?_ ?_;omega)|refine zA (of_eq_true PutAt_put) ?_|refine gT ?_|refine gF ?_|(refine gI (fun h=>?_) (fun h=>?_)<;>(try contradiction)<;>(try refine rd ?_)<;>(try simp -dsimp (disch:=omega) only[go_sem,h]))|refine zX _ (zX _ (zA (zA rfl rfl) ?_)) |fail
  refine W_loop_st (fun i : Nat => [(1, .ip (.fn 39 []) 0), (4, .map o), (10, .sl k (encL eRtr l)), (11, .int .i64 l.length), (12, .int .i64 i)]) (fun i => σ.put o (.map (entN nRtr eRtr (firsts nRtr (l.take i))))) (fun i => i ≤ l.length) (fun i => l.length - i) 0 (Nat.zero_le _) (Env.Sub_of_has (by simp [Env.Has, Env.get, Env.putO])) (Store.Sub.refl _) ?_
  intro i hi
  by_cases hlt : i < l.length
  · have hf := firsts_succ nRtr hlt
    have hget : (encL eRtr l).getD i .any = eRtr (l.getD i default) := getD_encL eRtr hlt
    obtain ⟨x, hx⟩ : ∃ x, l.getD i default = x := ⟨_, rfl⟩
    obtain ⟨F, hF⟩ : ∃ F, firsts nRtr (l.take i) = F := ⟨_, rfl⟩
    rw [hx] at hget hf
    rw [hF] at hf ⊢
    have hgn := getRtr x
    have hke := entN_keys nRtr eRtr F
    have hfd := entN_find nRtr eRtr F x.name
    have hfh := find_has nRtr F x.name
    repeat' first |((fail_if_success (first|show W _ _ (Code.seq (Code.region 5 _ _) _) _ _ _|show W _ _ (Code.seq (Code.seq (Code.region 5 _ _) _) _) _ _ _));refine s1 ?_)|refine gS ?_|refine wT rfl ?_|refine wF rfl ?_|refine wt rfl ?_|refine wf rfl ?_|(refine wC rfl (fun h=>?_) (fun h=>?_)<;>(try contradiction))|((fail_if_success (first|show W _ _ (Code.region 5 _ _) _ _ _));(first|refine rd ?_|refine ry [] c0 fun nu _ _=>?_);simp -dsimp (disch:=omega) only[go_sem,hget])|refine e0 (by decide) ?_|(refine zA ?_ ?_;omega)|refine zA (of_eq_true PutAt_put) ?_|refine gT ?_|refine gF ?_|(refine gI (fun h=>?_) (fun h=>?_)<;>(try contradiction)<;>(try refine rd ?_)<;>(try simp -dsimp (disch:=omega) only[go_sem,h,hget]))|refine zX _ (zX _ (zA (zA rfl rfl) ?_)) |fail
    intro m hm
    have hmo := alloc_ne hm
    rw [put_oth hmo] at hm
    have hom : o ≠ m := fun e => hmo e.symm
    have sw := put_swap hmo
    have t1 := put_oth hmo
    have t2 := put_oth hom
    simp only [sw]
    cases hh : hasN nRtr x.name F with
    | true =>
      rw [hh] at hfh
      obtain ⟨y, hy⟩ : ∃ y, F.find? (fun z => decide (nRtr z = x.name)) = some y := Option.isSome_iff_exists.1 hfh.symm
      rw [hy] at hfd
      simp only [Option.map_some] at hfd
      have hf2 : firsts nRtr (l.take (i + 1)) = F := by rw [hf, addN, show nRtr x = x.name from rfl, hh, if_pos rfl]
      repeat' first |((fail_if_success (first|show W _ _ (Code.seq (Code.region 6 _ _) _) _ _ _|show W _ _ (Code.seq (Code.seq (Code.region 6 _ _) _) _) _ _ _));refine s1 ?_)|refine gS ?_|refine wT rfl ?_|refine wF rfl ?_|refine wt rfl ?_|refine wf rfl ?_|(refine wC rfl (fun h=>?_) (fun h=>?_)<;>(try contradiction))|((fail_if_success (first|show W _ _ (Code.region 6 _ _) _ _ _));(first|refine rd ?_|refine ry [] c0 fun nu _ _=>?_);simp -dsimp (disch:=omega) only[go_sem,t1, t2, hke, hfd, eRtr])|refine e0 (by decide) ?_|(refine zA ?_ ?_;omega)|refine zA (of_eq_true PutAt_put) ?_|refine gT ?_|refine gF ?_|(refine gI (fun h=>?_) (fun h=>?_)<;>(try contradiction)<;>(try refine rd ?_)<;>(try simp -dsimp (disch:=omega) only[go_sem,h,t1, t2, hke, hfd, eRtr]))|refine zX _ (zX _ (zA (zA rfl rfl) ?_)) |refine us (hgn) ?_ |fail
      intro w hw
      have hwo := alloc_ne hw
      rw [put_oth hwo] at hw
      have hwm := alloc_ne hw
      rw [put_oth hwm] at hw
      repeat' first |refine s1 ?_|refine gS ?_|refine wT rfl ?_|refine wF rfl ?_|refine wt rfl ?_|refine wf rfl ?_|(refine wC rfl (fun h=>?_) (fun h=>?_)<;>(try contradiction))|((first|refine rd ?_|refine ry [] c0 fun nu _ _=>?_);simp -dsimp (disch:=omega) only[go_sem])|refine e0 (by decide) ?_|(refine zA ?_ ?_;omega)|refine zA (of_eq_true PutAt_put) ?_|refine gT ?_|refine gF ?_|(refine gI (fun h=>?_) (fun h=>?_)<;>(try contradiction)<;>(try refine rd ?_)<;>(try simp -dsimp (disch:=omega) only[go_sem,h]))|refine zX _ (zX _ (zA (zA rfl rfl) ?_)) |fail
      exact ⟨i + 1, by omega, (by omega), Env.Sub_of_has (by simp [Env.Has, Env.get, Env.putO]), by rw [hf2, put_swap hwo]; exact put_mono (keep_new (keep_new (fun _ _ h => h) hm) hw) _ _⟩
    | false =>
      rw [hh] at hfh
      have hy : F.find? (fun z => decide (nRtr z = x.name)) = none := Option.isSome_eq_false_iff.1 hfh.symm |> Option.isNone_iff_eq_none.1
      rw [hy] at hfd
      simp only [Option.map_none] at hfd
      have hst := entN_set nRtr eRtr F x.name (eRtr x) hh
      simp only [eRtr] at hst
      have hf2 : firsts nRtr (l.take (i + 1)) = F ++ [x] := by rw [hf, addN, show nRtr x = x.name from rfl, hh, if_neg (by simp)]
      have hen : entN nRtr eRtr (F ++ [x]) = entN nRtr eRtr F ++ [(.str x.name, eRtr x)] := by simp [entN]
      repeat' first |((fail_if_success (first|show W _ _ (Code.seq (Code.region 6 _ _) _) _ _ _|show W _ _ (Code.seq (Code.seq (Code.region 6 _ _) _) _) _ _ _));refine s1 ?_)|refine gS ?_|refine wT rfl ?_|refine wF rfl ?_|refine wt rfl ?_|refine wf rfl ?_|(refine wC rfl (fun h=>?_) (fun h=>?_)<;>(try contradiction))|((fail_if_success (first|show W _ _ (Code.region 6 _ _) _ _ _));(first|refine rd ?_|refine ry [] c0 fun nu _ _=>?_);simp -dsimp (disch:=omega) only[go_sem,t1, t2, hke, hfd, eRtr])|refine e0 (by decide) ?_|(refine zA ?_ ?_;omega)|refine zA (of_eq_true PutAt_put) ?_|refine gT ?_|refine gF ?_|(refine gI (fun h=>?_) (fun h=>?_)<;>(try contradiction)<;>(try refine rd ?_)<;>(try simp -dsimp (disch:=omega) only[go_sem,h,t1, t2, hke, hfd, eRtr]))|refine zX _ (zX _ (zA (zA rfl rfl) ?_)) |refine us (hgn) ?_ |fail
      intro w hw
      have hwo := alloc_ne hw
      rw [put_oth hwo] at hw
      have hwm := alloc_ne hw
      rw [put_oth hwm] at hw
      have how : o ≠ w := fun e => hwo e.symm
      have hmw : m ≠ w := fun e => hwm e.symm
      repeat' first |refine s1 ?_|refine gS ?_|refine wT rfl ?_|refine wF rfl ?_|refine wt rfl ?_|refine wf rfl ?_|(refine wC rfl (fun h=>?_) (fun h=>?_)<;>(try contradiction))|((first|refine rd ?_|refine ry (id:=7) [] (cw [2,4] [5] [] [] []) fun nu _ _=>?_|refine ry [] c0 fun nu _ _=>?_);simp -dsimp (disch:=omega) only[go_sem,t1, t2, put_oth how, put_oth hmw, put_swap how, hke, hst, eRtr])|refine e0 (by decide) ?_|(refine zA ?_ ?_;omega)|refine zA (of_eq_true PutAt_put) ?_|refine gT ?_|refine gF ?_|(refine gI (fun h=>?_) (fun h=>?_)<;>(try contradiction)<;>(try refine rd ?_)<;>(try simp -dsimp (disch:=omega) only[go_sem,h,t1, t2, put_oth how, put_oth hmw, put_swap how, hke, hst, eRtr]))|refine zX _ (zX _ (zA (zA rfl rfl) ?_)) |refine us (hgn) ?_ |fail
      exact ⟨i + 1, by omega, (by omega), Env.Sub_of_has (by simp [Env.Has, Env.get, Env.putO]), by rw [hf2, hen]; exact keep_new (put_mono (keep_new (fun _ _ h => h) hm) o _) (by rw [put_oth hwo]; exact hw)⟩
  · have hi' : i = l.length := by omega
    subst hi'
    repeat' first |refine s1 ?_|refine gS ?_|refine wT rfl ?_|refine wF rfl ?_|refine wt rfl ?_|refine wf rfl ?_|(refine wC rfl (fun h=>?_) (fun h=>?_)<;>(try contradiction))|((first|refine rd ?_|refine ry [] c0 fun nu _ _=>?_);simp -dsimp (disch:=omega) only[go_sem])|refine e0 (by decide) ?_|(refine zA ?_ ?_;omega)|refine zA (of_eq_true PutAt_put) ?_|refine gT ?_|refine gF ?_|(refine gI (fun h=>?_) (fun h=>?_)<;>(try contradiction)<;>(try refine rd ?_)<;>(try simp -dsimp (disch:=omega) only[go_sem,h]))|refine zX _ (zX _ (zA (zA rfl rfl) ?_)) |fail
    exact ⟨_, Store.Sub.refl _, o, rfl, ho, by rw [List.take_length]⟩
end Go.Proofs.YtaealcimocpnnaaGreat

namespace Go.Proofs.YtaealcimocpnnaaGreat
open Go.Kern Go.RowKit Go.MapKept
set_option maxRecDepth 100000
set_option maxHeartbeats 4000000
attribute [local irreducible] PCall W
theorem keys_fn (o : Nat) (σ : Store) : PCall Tryz.prog 104 [.map o] σ (fun r t => ∃ b, σ b = none ∧ r = .fn 148 [.ptr b 0 0] ∧ t = σ.put b (.arr 141 [.map o])) := by
  refine PCall_w [.tmp 2] 4 Tryz.func104 (by rfl) rfl rfl rfl rfl ?_
  repeat' first |refine s1 ?_|refine gS ?_|refine wT rfl ?_|refine wF rfl ?_|refine wt rfl ?_|refine wf rfl ?_|(refine wC rfl (fun h=>?_) (fun h=>?_)<;>(try contradiction))|((first|refine s3 (mu:=[1]) ?_|refine rd ?_|refine ry [1] c0 fun nu _ _=>?_);simp -dsimp (disch:=omega) only[go_sem])|refine e0 (by decide) ?_|(refine zA ?_ ?_;omega)|refine zA (of_eq_true PutAt_put) ?_|refine gT ?_|refine gF ?_|(refine gI (fun h=>?_) (fun h=>?_)<;>(try contradiction)<;>(try refine rd ?_)<;>(try simp -dsimp (disch:=omega) only[go_sem,h]))|refine zX _ (zX _ (zA (zA rfl rfl) ?_)) |fail
  intro b hb
  repeat' first |refine s1 ?_|refine gS ?_|refine wT rfl ?_|refine wF rfl ?_|refine wt rfl ?_|refine wf rfl ?_|(refine wC rfl (fun h=>?_) (fun h=>?_)<;>(try contradiction))|((first|refine rd ?_|refine ry [] c0 fun nu _ _=>?_);simp -dsimp (disch:=omega) only[go_sem])|refine e0 (by decide) ?_|(refine zA ?_ ?_;omega)|refine zA (of_eq_true PutAt_put) ?_|refine gT ?_|refine gF ?_|(refine gI (fun h=>?_) (fun h=>?_)<;>(try contradiction)<;>(try refine rd ?_)<;>(try simp -dsimp (disch:=omega) only[go_sem,h]))|refine zX _ (zX _ (zA (zA rfl rfl) ?_)) |fail
  exact ⟨_, Store.Sub.refl _, b, hb, rfl, rfl⟩
structure OutL where
  i : Nat
  k : SK
  τ : Store
def TipD (σ τ : Store) (k : SK) (rows : List AV) : Prop := (k = .nil ∧ rows = []) ∨ ∃ t, k = .tip t ∧ τ t = some (.tip rows.length 9 1) ∧ σ t = none ∧ rows ≠ []
def outD (w : ByteArray) (D : List (ByteArray × Bool)) (K : List ByteArray) (i : Nat) : List AV := encL AV.str (((K.take i).filter fun s => lookD D s).map fun s => (w ++ ⟨#[32]⟩) ++ s)
theorem outD_zero (w : ByteArray) (D : List (ByteArray × Bool)) (K : List ByteArray) : outD w D K 0 = [] := rfl
theorem outD_ok (w : ByteArray) (D : List (ByteArray × Bool)) (K : List ByteArray) (i : Nat) : rowsOk 1 (outD w D K i) = true := ok_encL 1 AV.str (fun _ => rfl) _
theorem outD_length (w : ByteArray) (D : List (ByteArray × Bool)) (K : List ByteArray) (i : Nat) : (outD w D K i).length ≤ i := by
  rw [outD, length_encL, List.length_map]
  have h1 := List.length_filter_le (fun s => lookD D s) (K.take i)
  rw [List.length_take] at h1
  omega
theorem outD_T {w : ByteArray} {D : List (ByteArray × Bool)} {K : List ByteArray} {i : Nat} {s : ByteArray} (h : K[i]? = some s) (hs : lookD D s = true) : outD w D K i ++ [.str ((w ++ ⟨#[32]⟩) ++ s)] = outD w D K (i + 1) := by
  obtain ⟨hl, he⟩ := List.getElem?_eq_some_iff.1 h
  rw [outD, outD, List.take_succ_eq_append_getElem hl, he, List.filter_append, List.map_append, List.filter_cons, hs, if_pos rfl, List.filter_nil, ← app_encL]; rfl
theorem outD_F {w : ByteArray} {D : List (ByteArray × Bool)} {K : List ByteArray} {i : Nat} {s : ByteArray} (h : K[i]? = some s) (hs : lookD D s = false) : outD w D K (i + 1) = outD w D K i := by
  obtain ⟨hl, he⟩ := List.getElem?_eq_some_iff.1 h
  rw [outD, outD, List.take_succ_eq_append_getElem hl, he, List.filter_append, List.filter_cons, hs, if_neg (by simp), List.filter_nil, List.append_nil]
theorem look_of {D : List (ByteArray × Bool)} {s : ByteArray} (h : s ∈ D.map (·.1)) : ∃ b, (D.find? fun p => decide (p.1 = s)) = some (s, b) ∧ lookD D s = b := by
  obtain ⟨p, hp, he⟩ := List.mem_map.1 h
  cases hf : D.find? fun p => decide (p.1 = s) with
  | none =>
    rw [List.find?_eq_none] at hf
    exact absurd he (by have := hf p hp; simpa using this)
  | some x =>
    have hx := find_key hf
    refine ⟨x.2, by rw [← hx], ?_⟩
    rw [lookD, hf]; rfl
theorem entD_l (D : List (ByteArray × Bool)) : entD D = (D.map fun p => (p.1, AV.bool p.2)).map fun p => (.str p.1, p.2) := by
  rw [List.map_map]; rfl
theorem difLst0 (sm : FuncId) (q : LstD → LstD → Bool) (word : ByteArray) (hw : word.size ≤ 1000) (ka kb : SK) (a b : List LstD) (ha : a.length ≤ 1000) (hb : b.length ≤ 1000) (hq : ∀ x, x ∈ a → ∀ y, y ∈ b → Pure Tryz.prog sm [eLst x, eLst y] (.bool (q x y))) (hsa : ∀ x, x ∈ a → x.name.size ≤ 1000) (hsb : ∀ x, x ∈ b → x.name.size ≤ 1000) (σ : Store) :
    PCall Tryz.prog 47 [.str word, .sl ka (encL eLst a), .sl kb (encL eLst b), .fn 35 [], .fn sm []] σ (fun r t => (∃ k, r = .sl k (encL AV.str (difS nLst q word a b)) ∧ ((k = .nil ∧ encL AV.str (difS nLst q word a b) = []) ∨ (k.isNil = false ∧ encL AV.str (difS nLst q word a b) ≠ []))) ∧ t = σ) := by
  obtain ⟨X, hX⟩ : ∃ X, firsts nLst a = X := ⟨_, rfl⟩
  obtain ⟨Y, hY⟩ : ∃ Y, firsts nLst b = Y := ⟨_, rfl⟩
  have hXn : (X.map nLst).Nodup := by rw [← hX]; exact firsts_nodup nLst a
  have hYn : (Y.map nLst).Nodup := by rw [← hY]; exact firsts_nodup nLst b
  have hXa : ∀ x, x ∈ X → x ∈ a := fun x hx => by rw [← hX] at hx; exact firsts_mem nLst x hx
  have hYb : ∀ x, x ∈ Y → x ∈ b := fun x hx => by rw [← hY] at hx; exact firsts_mem nLst x hx
  have hXl : X.length ≤ 1000 := by have := firsts_length nLst a; rw [hX] at this; omega
  have hYl : Y.length ≤ 1000 := by have := firsts_length nLst b; rw [hY] at this; omega
  rw [difS, hX, hY]
  refine PCall_w [.tmp 10] 98 Tryz.func47 (by rfl) rfl rfl rfl rfl ?_
  repeat' first |refine s1 ?_|refine gS ?_|refine wT rfl ?_|refine wF rfl ?_|refine wt rfl ?_|refine wf rfl ?_|(refine wC rfl (fun h=>?_) (fun h=>?_)<;>(try contradiction))|((first|refine rd ?_|refine ry [] c0 fun nu _ _=>?_);simp -dsimp (disch:=omega) only[go_sem])|refine e0 (by decide) ?_|(refine zA ?_ ?_;omega)|refine zA (of_eq_true PutAt_put) ?_|refine gT ?_|refine gF ?_|(refine gI (fun h=>?_) (fun h=>?_)<;>(try contradiction)<;>(try refine rd ?_)<;>(try simp -dsimp (disch:=omega) only[go_sem,h]))|refine zX _ (zX _ (zA (zA rfl rfl) ?_)) |fail
  refine PCall_use (fstLst ka a (by omega) σ) ?_
  rintro _ _ ⟨ox, rfl, hox, rfl⟩
  repeat' first |refine s1 ?_|refine gS ?_|refine wT rfl ?_|refine wF rfl ?_|refine wt rfl ?_|refine wf rfl ?_|(refine wC rfl (fun h=>?_) (fun h=>?_)<;>(try contradiction))|((first|refine rd ?_|refine ry [] c0 fun nu _ _=>?_);simp -dsimp (disch:=omega) only[go_sem])|refine e0 (by decide) ?_|(refine zA ?_ ?_;omega)|refine zA (of_eq_true PutAt_put) ?_|refine gT ?_|refine gF ?_|(refine gI (fun h=>?_) (fun h=>?_)<;>(try contradiction)<;>(try refine rd ?_)<;>(try simp -dsimp (disch:=omega) only[go_sem,h]))|refine zX _ (zX _ (zA (zA rfl rfl) ?_)) |fail
  refine PCall_use (fstLst kb b (by omega) _) ?_
  rintro _ _ ⟨oy, rfl, hoy, rfl⟩
  have hyx := alloc_ne hoy
  rw [put_oth hyx] at hoy
  rw [hX, hY]
  repeat' first |refine s1 ?_|refine gS ?_|refine wT rfl ?_|refine wF rfl ?_|refine wt rfl ?_|refine wf rfl ?_|(refine wC rfl (fun h=>?_) (fun h=>?_)<;>(try contradiction))|((first|refine rd ?_|refine ry [] c0 fun nu _ _=>?_);simp -dsimp (disch:=omega) only[go_sem])|refine e0 (by decide) ?_|(refine zA ?_ ?_;omega)|refine zA (of_eq_true PutAt_put) ?_|refine gT ?_|refine gF ?_|(refine gI (fun h=>?_) (fun h=>?_)<;>(try contradiction)<;>(try refine rd ?_)<;>(try simp -dsimp (disch:=omega) only[go_sem,h]))|refine zX _ (zX _ (zA (zA rfl rfl) ?_)) |fail
  intro oa hoa
  have hay := alloc_ne hoa
  rw [put_oth hay] at hoa
  have hax := alloc_ne hoa
  rw [put_oth hax] at hoa
  have hxy : ox ≠ oy := fun e => hyx e.symm
  have hxa : ox ≠ oa := fun e => hax e.symm
  have hya : oy ≠ oa := fun e => hay e.symm
  have sw1 := put_swap hxy
  have sw2 := put_swap hxa
  have sw3 := put_swap hya
  repeat' first |((fail_if_success (first|show W _ _ (Code.seq (Code.region 4 _ _) _) _ _ _|show W _ _ (Code.seq (Code.seq (Code.region 4 _ _) _) _) _ _ _));refine s1 ?_)|refine gS ?_|refine wT rfl ?_|refine wF rfl ?_|refine wt rfl ?_|refine wf rfl ?_|(refine wC rfl (fun h=>?_) (fun h=>?_)<;>(try contradiction))|((fail_if_success (first|show W _ _ (Code.region 4 _ _) _ _ _));(first|refine rd ?_|refine ry [] c0 fun nu _ _=>?_);simp -dsimp (disch:=omega) only[go_sem])|refine e0 (by decide) ?_|(refine zA ?_ ?_;omega)|refine zA (of_eq_true PutAt_put) ?_|refine gT ?_|refine gF ?_|(refine gI (fun h=>?_) (fun h=>?_)<;>(try contradiction)<;>(try refine rd ?_)<;>(try simp -dsimp (disch:=omega) only[go_sem,h]))|refine zX _ (zX _ (zA (zA rfl rfl) ?_)) |fail
  refine W_midE (fun x : List (ByteArray × Bool) × Array MapEntry × Nat => [(0, .str word), (12, .map ox), (13, .map oy), (14, .map oa)]) (fun x => ((σ.put ox (.mapR (entN nLst eLst X) x.2.1 x.2.2)).put oy (.map (entN nLst eLst Y))).put oa (.map (entD x.1))) (fun x => x.1.Perm (X.map fun v => (nLst v, dX nLst q Y v))) ?_ ?_
  · skip
    repeat' first |refine s1 ?_|refine gS ?_|refine wT rfl ?_|refine wF rfl ?_|refine wt rfl ?_|refine wf rfl ?_|(refine wC rfl (fun h=>?_) (fun h=>?_)<;>(try contradiction))|((first|refine rd ?_|refine ry [] c0 fun nu _ _=>?_);simp -dsimp (disch:=omega) only[go_sem,put_oth hxa, put_oth hxy])|refine e0 (by decide) ?_|(refine zA ?_ ?_;omega)|refine zA (of_eq_true PutAt_put) ?_|refine gT ?_|refine gF ?_|(refine gI (fun h=>?_) (fun h=>?_)<;>(try contradiction)<;>(try refine rd ?_)<;>(try simp -dsimp (disch:=omega) only[go_sem,h,put_oth hxa, put_oth hxy]))|refine zX _ (zX _ (zA (zA rfl rfl) ?_)) |fail
    intro en ck r hlen hst hr
    have hra := alloc_ne hr
    rw [put_oth hra] at hr
    have hry := alloc_ne hr
    rw [put_oth hry] at hr
    have hrx := alloc_ne hr
    rw [put_oth hrx] at hr
    rw [entN_length] at hlen
    have har : oa ≠ r := fun e => hra e.symm
    have hyr : oy ≠ r := fun e => hry e.symm
    have hxr : ox ≠ r := fun e => hrx e.symm
    simp only [sw1, sw2, put_put]
    repeat' first |refine s1 ?_|refine gS ?_|refine wT rfl ?_|refine wF rfl ?_|refine wt rfl ?_|refine wf rfl ?_|(refine wC rfl (fun h=>?_) (fun h=>?_)<;>(try contradiction))|((first|refine rd ?_|refine ry [] c0 fun nu _ _=>?_);simp -dsimp (disch:=omega) only[go_sem])|refine e0 (by decide) ?_|(refine zA ?_ ?_;omega)|refine zA (of_eq_true PutAt_put) ?_|refine gT ?_|refine gF ?_|(refine gI (fun h=>?_) (fun h=>?_)<;>(try contradiction)<;>(try refine rd ?_)<;>(try simp -dsimp (disch:=omega) only[go_sem,h]))|refine zX _ (zX _ (zA (zA rfl rfl) ?_)) |fail
    refine W_loop_st (fun vs : List Nat => [(0, .str word), (4, .fn sm []), (12, .map ox), (13, .map oy), (14, .map oa), (34, .ptr r 0 0)]) (fun vs => (((σ.put ox (.mapR (entN nLst eLst X) en ck)).put oy (.map (entN nLst eLst Y))).put oa (.map (entD (dl1 nLst q X Y vs)))).put r (.iter ox en ck (bornsOf en vs))) (fun vs => vs.Nodup ∧ ∀ i, i ∈ vs → i < X.length) (fun vs => lessV X.length vs) [] ⟨List.nodup_nil, fun i h => by simp at h⟩ (Env.Sub_of_has (by simp [Env.Has, Env.get, Env.putO])) (Store.Sub.refl _) ?_
    rintro vs ⟨hnd, hbd⟩
    obtain ⟨C, hC⟩ : ∃ C, entD (dl1 nLst q X Y vs) = C := ⟨_, rfl⟩
    rw [hC]
    repeat' first |refine s1 ?_|refine gS ?_|refine wT rfl ?_|refine wF rfl ?_|refine wt rfl ?_|refine wf rfl ?_|(refine wC rfl (fun h=>?_) (fun h=>?_)<;>(try contradiction))|((first|refine rd ?_|refine ry [] c0 fun nu _ _=>?_);simp -dsimp (disch:=omega) only[go_sem,put_oth hxr, put_oth hxa, put_oth hxy])|refine e0 (by decide) ?_|(refine zA ?_ ?_;omega)|refine zA (of_eq_true PutAt_put) ?_|refine gT ?_|refine gF ?_|(refine gI (fun h=>?_) (fun h=>?_)<;>(try contradiction)<;>(try refine rd ?_)<;>(try simp -dsimp (disch:=omega) only[go_sem,h,put_oth hxr, put_oth hxa, put_oth hxy]))|refine zX _ (zX _ (zA (zA rfl rfl) ?_)) |fail
    refine And.intro (fun hall => ?_) (fun i kv e h1 h2 h3 => ?_)
    · skip
      repeat' first |refine s1 ?_|refine gS ?_|refine wT rfl ?_|refine wF rfl ?_|refine wt rfl ?_|refine wf rfl ?_|(refine wC rfl (fun h=>?_) (fun h=>?_)<;>(try contradiction))|((first|refine rd ?_|refine ry [] c0 fun nu _ _=>?_);simp -dsimp (disch:=omega) only[go_sem])|refine e0 (by decide) ?_|(refine zA ?_ ?_;omega)|refine zA (of_eq_true PutAt_put) ?_|refine gT ?_|refine gF ?_|(refine gI (fun h=>?_) (fun h=>?_)<;>(try contradiction)<;>(try refine rd ?_)<;>(try simp -dsimp (disch:=omega) only[go_sem,h]))|refine zX _ (zX _ (zA (zA rfl rfl) ?_)) |fail
      refine ⟨(dl1 nLst q X Y vs, en, ck), dl1_perm nLst q (all_perm hnd hbd fun i hi => ?_), Env.Sub_of_has (by simp [Env.Has, Env.get, Env.putO]), ?_⟩
      · have hie : en[i]? = some en[i] := Array.getElem?_eq_getElem (by omega)
        exact (borns_has hst (fun j hj => by have := hbd j hj; omega) hie).1 (hall i _ hie)
      · rw [hC]; exact Sub_new (by rw [put_oth hra, put_oth hry, put_oth hrx]; exact hr)
    · obtain ⟨v, hv, rfl⟩ := entN_get nLst eLst X i kv h1
      have hil : i < X.length := (List.getElem?_eq_some_iff.1 hv).1
      have hvd : X.getD i default = v := by rw [List.getD_eq_getElem?_getD, hv]; rfl
      have hiv : i ∉ vs := fun h => by
        rw [(borns_has hst (fun j hj => by have := hbd j hj; omega) h2).2 h] at h3; cases h3
      have hvX : v ∈ X := List.mem_of_getElem? hv
      have hnew := dl1_new nLst q (Y := Y) hXn hbd hil hiv
      have hsu := dl1_succ nLst q X Y vs i
      rw [hvd] at hnew hsu
      have hset := entN_set (fun p : ByteArray × Bool => p.1) eD (dl1 nLst q X Y vs) v.name (.bool (dX nLst q Y v)) hnew
      have hke := entN_keys (fun p : ByteArray × Bool => p.1) eD (dl1 nLst q X Y vs)
      rw [show entN (fun p : ByteArray × Bool => p.1) eD (dl1 nLst q X Y vs) = C from hC] at hset hke
      have hkY := entN_keys nLst eLst Y
      have hfY := entN_find nLst eLst Y v.name
      have hwY : ∀ {z : LstD}, Y.find? (fun x => decide (nLst x = v.name)) = some z → z ∈ Y := fun h => List.mem_of_find?_eq_some h
      repeat' first |refine s1 ?_|refine gS ?_|refine wT rfl ?_|refine wF rfl ?_|refine wt rfl ?_|refine wf rfl ?_|(refine wC rfl (fun h=>?_) (fun h=>?_)<;>(try contradiction))|((first|refine rd ?_|refine ry [] c0 fun nu _ _=>?_);simp -dsimp (disch:=omega) only[go_sem,put_oth hxr, put_oth hxa, put_oth hxy])|refine e0 (by decide) ?_|(refine zA ?_ ?_;omega)|refine zA (of_eq_true PutAt_put) ?_|refine gT ?_|refine gF ?_|(refine gI (fun h=>?_) (fun h=>?_)<;>(try contradiction)<;>(try refine rd ?_)<;>(try simp -dsimp (disch:=omega) only[go_sem,h,put_oth hxr, put_oth hxa, put_oth hxy]))|refine zX _ (zX _ (zA (zA rfl rfl) ?_)) |fail
      refine ⟨i, _, e, bornsOf en vs, h1, h2, rfl, ?_⟩
      rw [borns_push en vs h2]
      intro m hm
      have hmr := alloc_ne hm
      rw [put_oth hmr] at hm
      have hma := alloc_ne hm
      rw [put_oth hma] at hm
      have hmy := alloc_ne hm
      rw [put_oth hmy] at hm
      have hmx := alloc_ne hm
      rw [put_oth hmx] at hm
      have ham : oa ≠ m := fun e => hma e.symm
      have hym : oy ≠ m := fun e => hmy e.symm
      have hmm : ∀ C I, ((((σ.put ox (.mapR (entN nLst eLst X) en ck)).put oy (.map (entN nLst eLst Y))).put oa C).put r I) m = none := fun C I => by rw [put_oth hmr, put_oth hma, put_oth hmy, put_oth hmx]; exact hm
      have fin : ∀ (w : Nat) (M V : Ob), ((((σ.put ox (.mapR (entN nLst eLst X) en ck)).put oy (.map (entN nLst eLst Y))).put oa (.map C)).put r (.iter ox en ck (bornsOf en (vs ++ [i])))) w = none → w ≠ m →
          ∀ C', ((((σ.put ox (.mapR (entN nLst eLst X) en ck)).put oy (.map (entN nLst eLst Y))).put oa C').put r (.iter ox en ck (bornsOf en (vs ++ [i])))).Sub ((((((σ.put ox (.mapR (entN nLst eLst X) en ck)).put oy (.map (entN nLst eLst Y))).put oa C').put r (.iter ox en ck (bornsOf en (vs ++ [i])))).put m M).put w V) := fun w M V hw hwm C' => by
        have hwr := alloc_ne hw
        rw [put_oth hwr] at hw
        have hwa := alloc_ne hw
        rw [put_oth hwa] at hw
        exact keep_new (keep_new (fun _ _ h => h) (hmm _ _)) (by rw [put_oth hwr, put_oth hwa]; exact hw)
      have nxt : (vs ++ [i]).Nodup ∧ ∀ j, j ∈ vs ++ [i] → j < X.length := ⟨by rw [List.nodup_append]; exact ⟨hnd, by simp, fun a ha b hb e => by simp at hb; subst hb; subst e; exact hiv ha⟩, fun j hj => by
        rcases List.mem_append.1 hj with hj | hj
        · exact hbd j hj
        · rw [List.mem_singleton.1 hj]; exact hil⟩
      cases hh : hasN nLst v.name Y with
      | true =>
        obtain ⟨z, hz⟩ := has_find nLst hh
        have hzY := hwY hz
        have hc := hq v (hXa v hvX) z (hYb z hzY)
        have hdx : dX nLst q Y v = !q v z := by rw [dX, show nLst v = v.name from rfl, hz]
        rw [hz] at hfY
        rw [hdx] at hset hsu
        simp only [Option.map_some] at hfY
        simp -dsimp (disch:=omega) only[go_sem,eLst]
        repeat' first |((fail_if_success (first|show W _ _ (Code.seq (Code.region 8 _ _) _) _ _ _|show W _ _ (Code.seq (Code.seq (Code.region 8 _ _) _) _) _ _ _));refine s1 ?_)|refine gS ?_|refine wT rfl ?_|refine wF rfl ?_|refine wt rfl ?_|refine wf rfl ?_|(refine wC rfl (fun h=>?_) (fun h=>?_)<;>(try contradiction))|((fail_if_success (first|show W _ _ (Code.region 8 _ _) _ _ _));(first|refine rd ?_|refine ry [] c0 fun nu _ _=>?_);simp -dsimp (disch:=omega) only[go_sem,put_oth hym, put_oth hyr, put_oth hya, hkY, hfY, eLst])|refine e0 (by decide) ?_|(refine zA ?_ ?_;omega)|refine zA (of_eq_true PutAt_put) ?_|refine gT ?_|refine gF ?_|(refine gI (fun h=>?_) (fun h=>?_)<;>(try contradiction)<;>(try refine rd ?_)<;>(try simp -dsimp (disch:=omega) only[go_sem,h,put_oth hym, put_oth hyr, put_oth hya, hkY, hfY, eLst]))|refine zX _ (zX _ (zA (zA rfl rfl) ?_)) |fail
        intro w hw
        have hwm := alloc_ne hw
        rw [put_oth hwm] at hw
        have hwr := alloc_ne hw
        have hwa := alloc_ne (by rw [put_oth hwr] at hw; exact hw)
        have haw : oa ≠ w := fun e => hwa e.symm
        have hmw : m ≠ w := fun e => hwm e.symm
        repeat' first |refine s1 ?_|refine gS ?_|refine wT rfl ?_|refine wF rfl ?_|refine wt rfl ?_|refine wf rfl ?_|(refine wC rfl (fun h=>?_) (fun h=>?_)<;>(try contradiction))|((first|refine rd ?_|refine ry [] c0 fun nu _ _=>?_);simp -dsimp (disch:=omega) only[go_sem,put_oth hmw, put_oth haw, put_oth ham, put_oth har, put_swap haw, put_swap ham, put_swap har, hke, hset, eLst])|refine e0 (by decide) ?_|(refine zA ?_ ?_;omega)|refine zA (of_eq_true PutAt_put) ?_|refine gT ?_|refine gF ?_|(refine gI (fun h=>?_) (fun h=>?_)<;>(try contradiction)<;>(try refine rd ?_)<;>(try simp -dsimp (disch:=omega) only[go_sem,h,put_oth hmw, put_oth haw, put_oth ham, put_oth har, put_swap haw, put_swap ham, put_swap har, hke, hset, eLst]))|refine zX _ (zX _ (zA (zA rfl rfl) ?_)) |refine us (hc) ?_ |fail
        all_goals exact ⟨vs ++ [i], lessV_lt hil hiv, nxt, Env.Sub_of_has (by simp [Env.Has, Env.get, Env.putO]), by rw [hsu, hC]; exact fin w _ _ hw hwm _⟩
      | false =>
        have hz := no_find nLst hh
        have hdx : dX nLst q Y v = true := by rw [dX, show nLst v = v.name from rfl, hz]
        rw [hz] at hfY
        rw [hdx] at hset hsu
        simp only [Option.map_none] at hfY
        simp -dsimp (disch:=omega) only[go_sem,eLst]
        repeat' first |((fail_if_success (first|show W _ _ (Code.seq (Code.region 8 _ _) _) _ _ _|show W _ _ (Code.seq (Code.seq (Code.region 8 _ _) _) _) _ _ _));refine s1 ?_)|refine gS ?_|refine wT rfl ?_|refine wF rfl ?_|refine wt rfl ?_|refine wf rfl ?_|(refine wC rfl (fun h=>?_) (fun h=>?_)<;>(try contradiction))|((fail_if_success (first|show W _ _ (Code.region 8 _ _) _ _ _));(first|refine rd ?_|refine ry [] c0 fun nu _ _=>?_);simp -dsimp (disch:=omega) only[go_sem,put_oth hym, put_oth hyr, put_oth hya, hkY, hfY, eLst])|refine e0 (by decide) ?_|(refine zA ?_ ?_;omega)|refine zA (of_eq_true PutAt_put) ?_|refine gT ?_|refine gF ?_|(refine gI (fun h=>?_) (fun h=>?_)<;>(try contradiction)<;>(try refine rd ?_)<;>(try simp -dsimp (disch:=omega) only[go_sem,h,put_oth hym, put_oth hyr, put_oth hya, hkY, hfY, eLst]))|refine zX _ (zX _ (zA (zA rfl rfl) ?_)) |fail
        intro w hw
        have hwm := alloc_ne hw
        rw [put_oth hwm] at hw
        have hwr := alloc_ne hw
        have hwa := alloc_ne (by rw [put_oth hwr] at hw; exact hw)
        have haw : oa ≠ w := fun e => hwa e.symm
        repeat' first |refine s1 ?_|refine gS ?_|refine wT rfl ?_|refine wF rfl ?_|refine wt rfl ?_|refine wf rfl ?_|(refine wC rfl (fun h=>?_) (fun h=>?_)<;>(try contradiction))|((first|refine rd ?_|refine ry [] c0 fun nu _ _=>?_);simp -dsimp (disch:=omega) only[go_sem,put_oth haw, put_oth ham, put_oth har, put_swap haw, put_swap ham, put_swap har, hke, hset, eLst])|refine e0 (by decide) ?_|(refine zA ?_ ?_;omega)|refine zA (of_eq_true PutAt_put) ?_|refine gT ?_|refine gF ?_|(refine gI (fun h=>?_) (fun h=>?_)<;>(try contradiction)<;>(try refine rd ?_)<;>(try simp -dsimp (disch:=omega) only[go_sem,h,put_oth haw, put_oth ham, put_oth har, put_swap haw, put_swap ham, put_swap har, hke, hset, eLst]))|refine zX _ (zX _ (zA (zA rfl rfl) ?_)) |fail
        exact ⟨vs ++ [i], lessV_lt hil hiv, nxt, Env.Sub_of_has (by simp [Env.Has, Env.get, Env.putO]), by rw [hsu, hC]; exact fin w _ _ hw hwm _⟩
  rintro ⟨L, en, ck⟩ hp
  simp only at hp ⊢
  refine W_unrange (o := ox) (es := entN nLst eLst X) (en := en) (ck := ck) (by rw [put_oth hxa, put_oth hxy, put_same]) ?_
  simp only [sw1, sw2, put_put]
  clear en ck
  have hDl : (difD nLst q X Y).length ≤ 2000 := by
    have := List.length_filter_le (fun v => !hasN nLst (nLst v) X) Y
    simp only [difD, List.length_append, List.length_map]; omega
  have hDs : ∀ p, p ∈ difD nLst q X Y → p.1.size ≤ 1000 := fun p hp => by
    rcases List.mem_append.1 hp with hp | hp
    · obtain ⟨x, hx, rfl⟩ := List.mem_map.1 hp; exact hsa x (hXa x hx)
    · obtain ⟨x, hx, rfl⟩ := List.mem_map.1 hp; exact hsb x (hYb x (List.mem_filter.1 hx).1)
  repeat' first |((fail_if_success (first|show W _ _ (Code.seq (Code.region 9 _ _) _) _ _ _|show W _ _ (Code.seq (Code.seq (Code.region 9 _ _) _) _) _ _ _));refine s1 ?_)|refine gS ?_|refine wT rfl ?_|refine wF rfl ?_|refine wt rfl ?_|refine wf rfl ?_|(refine wC rfl (fun h=>?_) (fun h=>?_)<;>(try contradiction))|((fail_if_success (first|show W _ _ (Code.region 9 _ _) _ _ _));(first|refine rd ?_|refine ry [] c0 fun nu _ _=>?_);simp -dsimp (disch:=omega) only[go_sem])|refine e0 (by decide) ?_|(refine zA ?_ ?_;omega)|refine zA (of_eq_true PutAt_put) ?_|refine gT ?_|refine gF ?_|(refine gI (fun h=>?_) (fun h=>?_)<;>(try contradiction)<;>(try refine rd ?_)<;>(try simp -dsimp (disch:=omega) only[go_sem,h]))|refine zX _ (zX _ (zA (zA rfl rfl) ?_)) |fail
  refine W_midE (fun x : List (ByteArray × Bool) × Array MapEntry × Nat => [(0, .str word), (14, .map oa)]) (fun x => ((σ.put ox (.map (entN nLst eLst X))).put oy (.mapR (entN nLst eLst Y) x.2.1 x.2.2)).put oa (.map (entD x.1))) (fun x => x.1.Perm (difD nLst q X Y)) ?_ ?_
  · skip
    repeat' first |refine s1 ?_|refine gS ?_|refine wT rfl ?_|refine wF rfl ?_|refine wt rfl ?_|refine wf rfl ?_|(refine wC rfl (fun h=>?_) (fun h=>?_)<;>(try contradiction))|((first|refine rd ?_|refine ry [] c0 fun nu _ _=>?_);simp -dsimp (disch:=omega) only[go_sem,put_oth hya])|refine e0 (by decide) ?_|(refine zA ?_ ?_;omega)|refine zA (of_eq_true PutAt_put) ?_|refine gT ?_|refine gF ?_|(refine gI (fun h=>?_) (fun h=>?_)<;>(try contradiction)<;>(try refine rd ?_)<;>(try simp -dsimp (disch:=omega) only[go_sem,h,put_oth hya]))|refine zX _ (zX _ (zA (zA rfl rfl) ?_)) |fail
    intro en ck r hlen hst hr
    have hra := alloc_ne hr
    rw [put_oth hra] at hr
    have hry := alloc_ne hr
    rw [put_oth hry] at hr
    have hrx := alloc_ne hr
    rw [put_oth hrx] at hr
    rw [entN_length] at hlen
    have har : oa ≠ r := fun e => hra e.symm
    have hyr : oy ≠ r := fun e => hry e.symm
    have hxr : ox ≠ r := fun e => hrx e.symm
    simp only [sw3, put_put]
    repeat' first |refine s1 ?_|refine gS ?_|refine wT rfl ?_|refine wF rfl ?_|refine wt rfl ?_|refine wf rfl ?_|(refine wC rfl (fun h=>?_) (fun h=>?_)<;>(try contradiction))|((first|refine rd ?_|refine ry [] c0 fun nu _ _=>?_);simp -dsimp (disch:=omega) only[go_sem])|refine e0 (by decide) ?_|(refine zA ?_ ?_;omega)|refine zA (of_eq_true PutAt_put) ?_|refine gT ?_|refine gF ?_|(refine gI (fun h=>?_) (fun h=>?_)<;>(try contradiction)<;>(try refine rd ?_)<;>(try simp -dsimp (disch:=omega) only[go_sem,h]))|refine zX _ (zX _ (zA (zA rfl rfl) ?_)) |fail
    refine W_loop_st (fun vs : List Nat => [(0, .str word), (12, .map ox), (14, .map oa), (58, .ptr r 0 0)]) (fun vs => (((σ.put ox (.map (entN nLst eLst X))).put oy (.mapR (entN nLst eLst Y) en ck)).put oa (.map (entD (dl2 nLst X Y L vs)))).put r (.iter oy en ck (bornsOf en vs))) (fun vs => vs.Nodup ∧ ∀ i, i ∈ vs → i < Y.length) (fun vs => lessV Y.length vs) [] ⟨List.nodup_nil, fun i h => by simp at h⟩ (Env.Sub_of_has (by simp [Env.Has, Env.get, Env.putO])) (by simp only [dl2, List.filter_nil, List.map_nil, List.append_nil]; exact Store.Sub.refl _) ?_
    rintro vs ⟨hnd, hbd⟩
    obtain ⟨C, hC⟩ : ∃ C, entD (dl2 nLst X Y L vs) = C := ⟨_, rfl⟩
    rw [hC]
    repeat' first |refine s1 ?_|refine gS ?_|refine wT rfl ?_|refine wF rfl ?_|refine wt rfl ?_|refine wf rfl ?_|(refine wC rfl (fun h=>?_) (fun h=>?_)<;>(try contradiction))|((first|refine rd ?_|refine ry [] c0 fun nu _ _=>?_);simp -dsimp (disch:=omega) only[go_sem,put_oth hyr, put_oth hya])|refine e0 (by decide) ?_|(refine zA ?_ ?_;omega)|refine zA (of_eq_true PutAt_put) ?_|refine gT ?_|refine gF ?_|(refine gI (fun h=>?_) (fun h=>?_)<;>(try contradiction)<;>(try refine rd ?_)<;>(try simp -dsimp (disch:=omega) only[go_sem,h,put_oth hyr, put_oth hya]))|refine zX _ (zX _ (zA (zA rfl rfl) ?_)) |fail
    refine And.intro (fun hall => ?_) (fun i kv e h1 h2 h3 => ?_)
    · skip
      repeat' first |refine s1 ?_|refine gS ?_|refine wT rfl ?_|refine wF rfl ?_|refine wt rfl ?_|refine wf rfl ?_|(refine wC rfl (fun h=>?_) (fun h=>?_)<;>(try contradiction))|((first|refine rd ?_|refine ry [] c0 fun nu _ _=>?_);simp -dsimp (disch:=omega) only[go_sem])|refine e0 (by decide) ?_|(refine zA ?_ ?_;omega)|refine zA (of_eq_true PutAt_put) ?_|refine gT ?_|refine gF ?_|(refine gI (fun h=>?_) (fun h=>?_)<;>(try contradiction)<;>(try refine rd ?_)<;>(try simp -dsimp (disch:=omega) only[go_sem,h]))|refine zX _ (zX _ (zA (zA rfl rfl) ?_)) |fail
      refine ⟨(dl2 nLst X Y L vs, en, ck), dl2_perm nLst q hp (all_perm hnd hbd fun i hi => ?_), Env.Sub_of_has (by simp [Env.Has, Env.get, Env.putO]), ?_⟩
      · have hie : en[i]? = some en[i] := Array.getElem?_eq_getElem (by omega)
        exact (borns_has hst (fun j hj => by have := hbd j hj; omega) hie).1 (hall i _ hie)
      · rw [hC]; exact Sub_new (by rw [put_oth hra, put_oth hry, put_oth hrx]; exact hr)
    · obtain ⟨v, hv, rfl⟩ := entN_get nLst eLst Y i kv h1
      have hil : i < Y.length := (List.getElem?_eq_some_iff.1 hv).1
      have hvd : Y.getD i default = v := by rw [List.getD_eq_getElem?_getD, hv]; rfl
      have hiv : i ∉ vs := fun h => by
        rw [(borns_has hst (fun j hj => by have := hbd j hj; omega) h2).2 h] at h3; cases h3
      have hstay := dl2_stay nLst q (Y := Y) hXn hp (ws := vs) (j := i)
      have hnew := dl2_new nLst q hYn hp hbd hil hiv
      rw [hvd] at hnew hstay
      have hke := entN_keys (fun p : ByteArray × Bool => p.1) eD (dl2 nLst X Y L vs)
      have hfC := entD_find (dl2 nLst X Y L vs) v.name
      rw [show entN (fun p : ByteArray × Bool => p.1) eD (dl2 nLst X Y L vs) = C from hC] at hke
      rw [hC] at hfC
      have hkX := entN_keys nLst eLst X
      have hfX := entN_find nLst eLst X v.name
      repeat' first |refine s1 ?_|refine gS ?_|refine wT rfl ?_|refine wF rfl ?_|refine wt rfl ?_|refine wf rfl ?_|(refine wC rfl (fun h=>?_) (fun h=>?_)<;>(try contradiction))|((first|refine rd ?_|refine ry [] c0 fun nu _ _=>?_);simp -dsimp (disch:=omega) only[go_sem,put_oth hyr, put_oth hya])|refine e0 (by decide) ?_|(refine zA ?_ ?_;omega)|refine zA (of_eq_true PutAt_put) ?_|refine gT ?_|refine gF ?_|(refine gI (fun h=>?_) (fun h=>?_)<;>(try contradiction)<;>(try refine rd ?_)<;>(try simp -dsimp (disch:=omega) only[go_sem,h,put_oth hyr, put_oth hya]))|refine zX _ (zX _ (zA (zA rfl rfl) ?_)) |fail
      refine ⟨i, _, e, bornsOf en vs, h1, h2, rfl, ?_⟩
      rw [borns_push en vs h2]
      have nxt : (vs ++ [i]).Nodup ∧ ∀ j, j ∈ vs ++ [i] → j < Y.length := ⟨by rw [List.nodup_append]; exact ⟨hnd, by simp, fun a ha b hb e => by simp at hb; subst hb; subst e; exact hiv ha⟩, fun j hj => by
        rcases List.mem_append.1 hj with hj | hj
        · exact hbd j hj
        · rw [List.mem_singleton.1 hj]; exact hil⟩
      have fin : ∀ (w : Nat) (V : Ob), ((((σ.put ox (.map (entN nLst eLst X))).put oy (.mapR (entN nLst eLst Y) en ck)).put oa (.map C)).put r (.iter oy en ck (bornsOf en (vs ++ [i])))) w = none →
          ∀ C', ((((σ.put ox (.map (entN nLst eLst X))).put oy (.mapR (entN nLst eLst Y) en ck)).put oa C').put r (.iter oy en ck (bornsOf en (vs ++ [i])))).Sub (((((σ.put ox (.map (entN nLst eLst X))).put oy (.mapR (entN nLst eLst Y) en ck)).put oa C').put r (.iter oy en ck (bornsOf en (vs ++ [i])))).put w V) := fun w V hw C' => by
        have hwr := alloc_ne hw
        rw [put_oth hwr] at hw
        have hwa := alloc_ne hw
        rw [put_oth hwa] at hw
        exact keep_new (fun _ _ h => h) (by rw [put_oth hwr, put_oth hwa]; exact hw)
      cases hh : hasN nLst v.name X with
      | true =>
        obtain ⟨z, hz⟩ := has_find nLst hh
        obtain ⟨hsame, bb, hbb⟩ := hstay hh
        have hset := entD_stay _ _ _ hbb
        rw [hC] at hset
        rw [show nLst v = v.name from rfl] at hbb hset
        rw [hbb] at hfC
        rw [hz] at hfX
        simp only [Option.map_some] at hfC hfX
        simp -dsimp (disch:=omega) only[go_sem]
        repeat' first |((fail_if_success (first|show W _ _ (Code.seq (Code.region 13 _ _) _) _ _ _|show W _ _ (Code.seq (Code.seq (Code.region 13 _ _) _) _) _ _ _));refine s1 ?_)|refine gS ?_|refine wT rfl ?_|refine wF rfl ?_|refine wt rfl ?_|refine wf rfl ?_|(refine wC rfl (fun h=>?_) (fun h=>?_)<;>(try contradiction))|((fail_if_success (first|show W _ _ (Code.region 13 _ _) _ _ _));(first|refine rd ?_|refine ry [] c0 fun nu _ _=>?_);simp -dsimp (disch:=omega) only[go_sem,put_oth hxr, put_oth hxa, put_oth hxy, hkX, hfX, eLst])|refine e0 (by decide) ?_|(refine zA ?_ ?_;omega)|refine zA (of_eq_true PutAt_put) ?_|refine gT ?_|refine gF ?_|(refine gI (fun h=>?_) (fun h=>?_)<;>(try contradiction)<;>(try refine rd ?_)<;>(try simp -dsimp (disch:=omega) only[go_sem,h,put_oth hxr, put_oth hxa, put_oth hxy, hkX, hfX, eLst]))|refine zX _ (zX _ (zA (zA rfl rfl) ?_)) |fail
        intro w hw
        have hwr := alloc_ne hw
        have hwa := alloc_ne (by rw [put_oth hwr] at hw; exact hw)
        have haw : oa ≠ w := fun e => hwa e.symm
        cases bb with
        | true =>
          repeat' first |refine s1 ?_|refine gS ?_|refine wT rfl ?_|refine wF rfl ?_|refine wt rfl ?_|refine wf rfl ?_|(refine wC rfl (fun h=>?_) (fun h=>?_)<;>(try contradiction))|((first|refine rd ?_|refine ry [] c0 fun nu _ _=>?_);simp -dsimp (disch:=omega) only[go_sem,put_oth haw, put_oth har, put_swap haw, put_swap har, hke, hset, hfC])|refine e0 (by decide) ?_|(refine zA ?_ ?_;omega)|refine zA (of_eq_true PutAt_put) ?_|refine gT ?_|refine gF ?_|(refine gI (fun h=>?_) (fun h=>?_)<;>(try contradiction)<;>(try refine rd ?_)<;>(try simp -dsimp (disch:=omega) only[go_sem,h,put_oth haw, put_oth har, put_swap haw, put_swap har, hke, hset, hfC]))|refine zX _ (zX _ (zA (zA rfl rfl) ?_)) |fail
          exact ⟨vs ++ [i], lessV_lt hil hiv, nxt, Env.Sub_of_has (by simp [Env.Has, Env.get, Env.putO]), by rw [hsame, hC]; exact fin w _ hw _⟩
        | false =>
          repeat' first |refine s1 ?_|refine gS ?_|refine wT rfl ?_|refine wF rfl ?_|refine wt rfl ?_|refine wf rfl ?_|(refine wC rfl (fun h=>?_) (fun h=>?_)<;>(try contradiction))|((first|refine rd ?_|refine ry [] c0 fun nu _ _=>?_);simp -dsimp (disch:=omega) only[go_sem,put_oth haw, put_oth har, put_swap haw, put_swap har, hke, hset, hfC])|refine e0 (by decide) ?_|(refine zA ?_ ?_;omega)|refine zA (of_eq_true PutAt_put) ?_|refine gT ?_|refine gF ?_|(refine gI (fun h=>?_) (fun h=>?_)<;>(try contradiction)<;>(try refine rd ?_)<;>(try simp -dsimp (disch:=omega) only[go_sem,h,put_oth haw, put_oth har, put_swap haw, put_swap har, hke, hset, hfC]))|refine zX _ (zX _ (zA (zA rfl rfl) ?_)) |fail
          exact ⟨vs ++ [i], lessV_lt hil hiv, nxt, Env.Sub_of_has (by simp [Env.Has, Env.get, Env.putO]), by rw [hsame, hC]; exact fin w _ hw _⟩
      | false =>
        obtain ⟨hno, hsu⟩ := hnew hh
        have hset := entN_set (fun p : ByteArray × Bool => p.1) eD (dl2 nLst X Y L vs) v.name (.bool true) hno
        rw [show entN (fun p : ByteArray × Bool => p.1) eD (dl2 nLst X Y L vs) = C from hC] at hset
        rw [no_find (fun p : ByteArray × Bool => p.1) hno] at hfC
        rw [no_find nLst hh] at hfX
        simp only [Option.map_none] at hfC hfX
        simp -dsimp (disch:=omega) only[go_sem]
        repeat' first |((fail_if_success (first|show W _ _ (Code.seq (Code.region 13 _ _) _) _ _ _|show W _ _ (Code.seq (Code.seq (Code.region 13 _ _) _) _) _ _ _));refine s1 ?_)|refine gS ?_|refine wT rfl ?_|refine wF rfl ?_|refine wt rfl ?_|refine wf rfl ?_|(refine wC rfl (fun h=>?_) (fun h=>?_)<;>(try contradiction))|((fail_if_success (first|show W _ _ (Code.region 13 _ _) _ _ _));(first|refine rd ?_|refine ry [] c0 fun nu _ _=>?_);simp -dsimp (disch:=omega) only[go_sem,put_oth hxr, put_oth hxa, put_oth hxy, hkX, hfX, eLst])|refine e0 (by decide) ?_|(refine zA ?_ ?_;omega)|refine zA (of_eq_true PutAt_put) ?_|refine gT ?_|refine gF ?_|(refine gI (fun h=>?_) (fun h=>?_)<;>(try contradiction)<;>(try refine rd ?_)<;>(try simp -dsimp (disch:=omega) only[go_sem,h,put_oth hxr, put_oth hxa, put_oth hxy, hkX, hfX, eLst]))|refine zX _ (zX _ (zA (zA rfl rfl) ?_)) |fail
        intro w hw
        have hwr := alloc_ne hw
        have hwa := alloc_ne (by rw [put_oth hwr] at hw; exact hw)
        have haw : oa ≠ w := fun e => hwa e.symm
        repeat' first |refine s1 ?_|refine gS ?_|refine wT rfl ?_|refine wF rfl ?_|refine wt rfl ?_|refine wf rfl ?_|(refine wC rfl (fun h=>?_) (fun h=>?_)<;>(try contradiction))|((first|refine rd ?_|refine ry [] c0 fun nu _ _=>?_);simp -dsimp (disch:=omega) only[go_sem,put_oth haw, put_oth har, put_swap haw, put_swap har, hke, hset, hfC])|refine e0 (by decide) ?_|(refine zA ?_ ?_;omega)|refine zA (of_eq_true PutAt_put) ?_|refine gT ?_|refine gF ?_|(refine gI (fun h=>?_) (fun h=>?_)<;>(try contradiction)<;>(try refine rd ?_)<;>(try simp -dsimp (disch:=omega) only[go_sem,h,put_oth haw, put_oth har, put_swap haw, put_swap har, hke, hset, hfC]))|refine zX _ (zX _ (zA (zA rfl rfl) ?_)) |fail
        exact ⟨vs ++ [i], lessV_lt hil hiv, nxt, Env.Sub_of_has (by simp [Env.Has, Env.get, Env.putO]), by rw [hsu, hC]; exact fin w _ hw _⟩
  rintro ⟨L', en, ck⟩ hp'
  simp only at hp' ⊢
  obtain ⟨S3, hS3⟩ : ∃ S, ((σ.put ox (.map (entN nLst eLst X))).put oy (.mapR (entN nLst eLst Y) en ck)).put oa (.map (entD L')) = S := ⟨_, rfl⟩
  have hoa3 : S3 oa = some (.map (entD L')) := by rw [← hS3]; exact put_same _ _ _
  have hsub3 : σ.Sub S3 := by rw [← hS3]; exact keep_new (keep_new (keep_new (fun _ _ h => h) hox) hoy) hoa
  rw [hS3]
  repeat' first |refine s1 ?_|refine gS ?_|refine wT rfl ?_|refine wF rfl ?_|refine wt rfl ?_|refine wf rfl ?_|(refine wC rfl (fun h=>?_) (fun h=>?_)<;>(try contradiction))|((first|refine rd ?_|refine ry [] c0 fun nu _ _=>?_);simp -dsimp (disch:=omega) only[go_sem])|refine e0 (by decide) ?_|(refine zA ?_ ?_;omega)|refine zA (of_eq_true PutAt_put) ?_|refine gT ?_|refine gF ?_|(refine gI (fun h=>?_) (fun h=>?_)<;>(try contradiction)<;>(try refine rd ?_)<;>(try simp -dsimp (disch:=omega) only[go_sem,h]))|refine zX _ (zX _ (zA (zA rfl rfl) ?_)) |fail
  refine PCall_use (keys_fn oa S3) ?_
  rintro _ _ ⟨bx, hbx, rfl, rfl⟩
  repeat' first |refine s1 ?_|refine gS ?_|refine wT rfl ?_|refine wF rfl ?_|refine wt rfl ?_|refine wf rfl ?_|(refine wC rfl (fun h=>?_) (fun h=>?_)<;>(try contradiction))|((first|refine rd ?_|refine ry [] c0 fun nu _ _=>?_);simp -dsimp (disch:=omega) only[go_sem])|refine e0 (by decide) ?_|(refine zA ?_ ?_;omega)|refine zA (of_eq_true PutAt_put) ?_|refine gT ?_|refine gF ?_|(refine gI (fun h=>?_) (fun h=>?_)<;>(try contradiction)<;>(try refine rd ?_)<;>(try simp -dsimp (disch:=omega) only[go_sem,h]))|refine zX _ (zX _ (zA (zA rfl rfl) ?_)) |fail
  have hbo : bx ≠ oa := fun e => by rw [e, hoa3] at hbx; cases hbx
  refine PCall_use (sorted_keys sortedOk (l := L'.map fun p => (p.1, AV.bool p.2)) (σ := S3.put bx (.arr 141 [.map oa])) (put_same _ _ _) (by rw [put_oth hbo.symm, hoa3, entD_l]) (by rw [List.length_map, hp'.length_eq]; omega) (fun p hp => by
    obtain ⟨x, hx, rfl⟩ := List.mem_map.1 hp
    have := hDs x (hp'.mem_iff.1 hx)
    simp only; omega)) ?_
  rintro _ _ ⟨⟨k0, rfl⟩, rfl⟩
  obtain ⟨D, hD⟩ : ∃ D, difD nLst q X Y = D := ⟨_, rfl⟩
  rw [hD] at hp' hDl hDs ⊢
  have hDn : (D.map (·.1)).Nodup := by rw [← hD]; exact difD_nodup nLst q hXn hYn
  have hLn : (L'.map (·.1)).Nodup := (hp'.map _).nodup_iff.2 hDn
  have hK0 : sortS ((L'.map fun p => (p.1, AV.bool p.2)).map (·.1)) = sortS (D.map (·.1)) := by
    rw [List.map_map]
    exact sortS_of_perm (hp'.map (fun p : ByteArray × Bool => p.1))
  rw [hK0]
  obtain ⟨K, hK⟩ : ∃ K, sortS (D.map (·.1)) = K := ⟨_, rfl⟩
  have hKp : K.Perm (D.map (·.1)) := by rw [← hK]; exact sortS_perm' _
  have hKl : K.length ≤ 2000 := by rw [hKp.length_eq, List.length_map]; exact hDl
  rw [hK]
  obtain ⟨S4, hS4⟩ : ∃ S, S3.put bx (.arr 141 [.map oa]) = S := ⟨_, rfl⟩
  have hoa4 : S4 oa = some (.map (entD L')) := by rw [← hS4, put_oth hbo.symm]; exact hoa3
  have hsub4 : σ.Sub S4 := by rw [← hS4]; exact keep_new hsub3 (none_of hsub3 hbx)
  have hke := entN_keys (fun p : ByteArray × Bool => p.1) eD L'
  rw [show entN (fun p : ByteArray × Bool => p.1) eD L' = entD L' from rfl] at hke
  rw [hS4]
  have hout : ∀ i, K.length ≤ i → encL AV.str ((K.filter fun s => lookD D s).map fun s => (word ++ ⟨#[32]⟩) ++ s) = outD word D K i := fun i hi => by rw [outD, List.take_of_length_le hi]
  rw [hout K.length (Nat.le_refl _)]
  clear hS3 hS4 hD hout
  repeat' first |((fail_if_success (first|show W _ _ (Code.seq (Code.region 5 _ _) _) _ _ _|show W _ _ (Code.seq (Code.seq (Code.region 5 _ _) _) _) _ _ _));refine s1 ?_)|refine gS ?_|refine wT rfl ?_|refine wF rfl ?_|refine wt rfl ?_|refine wf rfl ?_|(refine wC rfl (fun h=>?_) (fun h=>?_)<;>(try contradiction))|((fail_if_success (first|show W _ _ (Code.region 5 _ _) _ _ _));(first|refine rd ?_|refine ry [] c0 fun nu _ _=>?_);simp -dsimp (disch:=omega) only[go_sem])|refine e0 (by decide) ?_|(refine zA ?_ ?_;omega)|refine zA (of_eq_true PutAt_put) ?_|refine gT ?_|refine gF ?_|(refine gI (fun h=>?_) (fun h=>?_)<;>(try contradiction)<;>(try refine rd ?_)<;>(try simp -dsimp (disch:=omega) only[go_sem,h]))|refine zX _ (zX _ (zA (zA rfl rfl) ?_)) |fail
  refine W_loop_st (fun x : OutL => [(0, .str word), (14, .map oa), (22, .sl x.k (outD word D K x.i)), (80, .sl k0 (encL AV.str K)), (81, .int .i64 K.length), (82, .int .i64 x.i)]) (fun x => x.τ) (fun x => x.i ≤ K.length ∧ S4.Sub x.τ ∧ TipD S4 x.τ x.k (outD word D K x.i)) (fun x => K.length - x.i) ⟨0, .nil, S4⟩ ⟨Nat.zero_le _, Store.Sub.refl _, .inl ⟨rfl, rfl⟩⟩ (Env.Sub_of_has (by simp [Env.Has, Env.get, Env.putO, outD_zero, encL])) (Store.Sub.refl _) ?_
  rintro ⟨i, k, τ⟩ ⟨hi, hsub, htip⟩
  simp only at hi hsub htip ⊢
  have hoa5 := hsub _ _ hoa4
  by_cases hlt : i < K.length
  · obtain ⟨s, hs⟩ : ∃ s, K[i]? = some s := ⟨_, List.getElem?_eq_getElem hlt⟩
    have hget : (encL AV.str K).getD i .any = .str s := by rw [encL, List.getD_eq_getElem?_getD, List.getElem?_map, hs]; rfl
    have hmem := hKp.mem_iff.1 (List.mem_of_getElem? hs)
    obtain ⟨bb, hf, hlk⟩ := look_of hmem
    have hsz : s.size ≤ 1000 := by
      obtain ⟨p, hp, he⟩ := List.mem_map.1 hmem
      rw [← he]; exact hDs p hp
    have hfC := entD_find L' s
    rw [find_perm hp' hLn s, hf] at hfC
    simp only [Option.map_some] at hfC
    have hlen := outD_length word D K i
    have hok := outD_ok word D K i
    cases bb with
    | false =>
      have hF := outD_F (w := word) hs hlk
      repeat' first |refine s1 ?_|refine gS ?_|refine wT rfl ?_|refine wF rfl ?_|refine wt rfl ?_|refine wf rfl ?_|(refine wC rfl (fun h=>?_) (fun h=>?_)<;>(try contradiction))|((first|refine rd ?_|refine ry [] c0 fun nu _ _=>?_);simp -dsimp (disch:=omega) only[go_sem,hget, hoa5, hke, hfC])|refine e0 (by decide) ?_|(refine zA ?_ ?_;omega)|refine zA (of_eq_true PutAt_put) ?_|refine gT ?_|refine gF ?_|(refine gI (fun h=>?_) (fun h=>?_)<;>(try contradiction)<;>(try refine rd ?_)<;>(try simp -dsimp (disch:=omega) only[go_sem,h,hget, hoa5, hke, hfC]))|refine zX _ (zX _ (zA (zA rfl rfl) ?_)) |fail
      exact ⟨⟨i + 1, k, τ⟩, by simp only; omega, ⟨hlt, hsub, by simp only; rw [hF]; exact htip⟩, Env.Sub_of_has (by simp [Env.Has, Env.get, Env.putO, hF]), Store.Sub.refl _⟩
    | true =>
      have hT := outD_T (w := word) hs hlk
      have hTl := congrArg List.length hT
      rcases htip with ⟨rfl, hnil⟩ | ⟨t, rfl, jt, hts, hne⟩
      · rw [hnil] at hT hTl ⊢
        repeat' first |refine s1 ?_|refine gS ?_|refine wT rfl ?_|refine wF rfl ?_|refine wt rfl ?_|refine wf rfl ?_|(refine wC rfl (fun h=>?_) (fun h=>?_)<;>(try contradiction))|((first|refine rd ?_|refine ry [] c0 fun nu _ _=>?_);simp -dsimp (disch:=omega) only[go_sem,hget, hoa5, hke, hfC])|refine e0 (by decide) ?_|(refine zA ?_ ?_;omega)|refine zA (of_eq_true PutAt_put) ?_|refine gT ?_|refine gF ?_|(refine gI (fun h=>?_) (fun h=>?_)<;>(try contradiction)<;>(try refine rd ?_)<;>(try simp -dsimp (disch:=omega) only[go_sem,h,hget, hoa5, hke, hfC]))|refine zX _ (zX _ (zA (zA rfl rfl) ?_)) |fail
        refine ⟨by have h1 : (#[32] : Array UInt8).size = 1 := rfl; omega, by have h1 : (#[32] : Array UInt8).size = 1 := rfl; omega, ?_⟩
        intro t ht
        repeat' first |refine s1 ?_|refine gS ?_|refine wT rfl ?_|refine wF rfl ?_|refine wt rfl ?_|refine wf rfl ?_|(refine wC rfl (fun h=>?_) (fun h=>?_)<;>(try contradiction))|((first|refine rd ?_|refine ry [] c0 fun nu _ _=>?_);simp -dsimp (disch:=omega) only[go_sem])|refine e0 (by decide) ?_|(refine zA ?_ ?_;omega)|refine zA (of_eq_true PutAt_put) ?_|refine gT ?_|refine gF ?_|(refine gI (fun h=>?_) (fun h=>?_)<;>(try contradiction)<;>(try refine rd ?_)<;>(try simp -dsimp (disch:=omega) only[go_sem,h]))|refine zX _ (zX _ (zA (zA rfl rfl) ?_)) |fail
        exact ⟨⟨i + 1, .tip t, τ.put t (.tip 1 9 1)⟩, by simp only; omega, ⟨hlt, keep_new hsub (none_of hsub ht), .inr ⟨t, rfl, by rw [← hTl]; exact put_same _ _ _, none_of hsub ht, fun e => by simp only at e; rw [← hT] at e; simp at e⟩⟩, Env.Sub_of_has (by simp [Env.Has, Env.get, Env.putO, ← hT]), Store.Sub.refl _⟩
      · skip
        repeat' first |refine s1 ?_|refine gS ?_|refine wT rfl ?_|refine wF rfl ?_|refine wt rfl ?_|refine wf rfl ?_|(refine wC rfl (fun h=>?_) (fun h=>?_)<;>(try contradiction))|((first|refine rd ?_|refine ry [] c0 fun nu _ _=>?_);simp -dsimp (disch:=omega) only[go_sem,hget, hoa5, hke, hfC, jt, hok])|refine e0 (by decide) ?_|(refine zA ?_ ?_;omega)|refine zA (of_eq_true PutAt_put) ?_|refine gT ?_|refine gF ?_|(refine gI (fun h=>?_) (fun h=>?_)<;>(try contradiction)<;>(try refine rd ?_)<;>(try simp -dsimp (disch:=omega) only[go_sem,h,hget, hoa5, hke, hfC, jt, hok]))|refine zX _ (zX _ (zA (zA rfl rfl) ?_)) |fail
        refine ⟨by have h1 : (#[32] : Array UInt8).size = 1 := rfl; omega, by have h1 : (#[32] : Array UInt8).size = 1 := rfl; omega, ?_⟩
        repeat' first |refine s1 ?_|refine gS ?_|refine wT rfl ?_|refine wF rfl ?_|refine wt rfl ?_|refine wf rfl ?_|(refine wC rfl (fun h=>?_) (fun h=>?_)<;>(try contradiction))|((first|refine rd ?_|refine ry [] c0 fun nu _ _=>?_);simp -dsimp (disch:=omega) only[go_sem])|refine e0 (by decide) ?_|(refine zA ?_ ?_;omega)|refine zA (of_eq_true PutAt_put) ?_|refine gT ?_|refine gF ?_|(refine gI (fun h=>?_) (fun h=>?_)<;>(try contradiction)<;>(try refine rd ?_)<;>(try simp -dsimp (disch:=omega) only[go_sem,h]))|refine zX _ (zX _ (zA (zA rfl rfl) ?_)) |fail
        exact ⟨⟨i + 1, .tip t, τ.put t (.tip (outD word D K (i + 1)).length 9 1)⟩, by simp only; omega, ⟨hlt, keep_new hsub hts, .inr ⟨t, rfl, put_same _ _ _, hts, fun e => by simp only at e; rw [← hT] at e; simp at e⟩⟩, Env.Sub_of_has (by simp [Env.Has, Env.get, Env.putO, ← hT]), by rw [← hTl]; simp only [List.length_append, List.length_cons, List.length_nil]; exact Store.Sub.refl _⟩
  · have hi' : i = K.length := by omega
    subst hi'
    repeat' first |refine s1 ?_|refine gS ?_|refine wT rfl ?_|refine wF rfl ?_|refine wt rfl ?_|refine wf rfl ?_|(refine wC rfl (fun h=>?_) (fun h=>?_)<;>(try contradiction))|((first|refine rd ?_|refine ry [] c0 fun nu _ _=>?_);simp -dsimp (disch:=omega) only[go_sem])|refine e0 (by decide) ?_|(refine zA ?_ ?_;omega)|refine zA (of_eq_true PutAt_put) ?_|refine gT ?_|refine gF ?_|(refine gI (fun h=>?_) (fun h=>?_)<;>(try contradiction)<;>(try refine rd ?_)<;>(try simp -dsimp (disch:=omega) only[go_sem,h]))|refine zX _ (zX _ (zA (zA rfl rfl) ?_)) |fail
    refine ⟨σ, fun o x h => hsub _ _ (hsub4 _ _ h), ⟨k, rfl, ?_⟩, rfl⟩
    rcases htip with ⟨h1, h2⟩ | ⟨t, rfl, _, _, h2⟩
    · exact .inl ⟨h1, h2⟩
    · exact .inr ⟨rfl, h2⟩
theorem difLst (sm : FuncId) (q : LstD → LstD → Bool) (word : ByteArray) (hw : word.size ≤ 1000) (ka kb : SK) (a b : List LstD) (ha : a.length ≤ 1000) (hb : b.length ≤ 1000) (hq : ∀ x, x ∈ a → ∀ y, y ∈ b → Pure Tryz.prog sm [eLst x, eLst y] (.bool (q x y))) (hsa : ∀ x, x ∈ a → x.name.size ≤ 1000) (hsb : ∀ x, x ∈ b → x.name.size ≤ 1000) :
    Pure Tryz.prog 47 [.str word, .sl ka (encL eLst a), .sl kb (encL eLst b), .fn 35 [], .fn sm []] (.sl (kd (difS nLst q word a b)) (encL AV.str (difS nLst q word a b))) := by
  intro σ
  refine PCall_fin (difLst0 sm q word hw ka kb a b ha hb hq hsa hsb σ) ?_
  rintro _ t ⟨⟨k, rfl, ⟨rfl, h2⟩ | ⟨h1, h2⟩⟩, rfl⟩
  · have h3 : difS nLst q word a b = [] := by simpa [encL] using h2
    refine .as ⟨_, Store.Sub.refl _, ?_, rfl⟩
    rw [kd, if_pos h3]
  · have h3 : ¬ difS nLst q word a b = [] := fun e => h2 (by rw [e]; rfl)
    refine .imm k _ rfl h1 ⟨_, Store.Sub.refl _, ?_, rfl⟩
    rw [kd, if_neg h3]
theorem difMap0 (sm : FuncId) (q : MapD → MapD → Bool) (word : ByteArray) (hw : word.size ≤ 1000) (ka kb : SK) (a b : List MapD) (ha : a.length ≤ 1000) (hb : b.length ≤ 1000) (hq : ∀ x, x ∈ a → ∀ y, y ∈ b → Pure Tryz.prog sm [eMap x, eMap y] (.bool (q x y))) (hsa : ∀ x, x ∈ a → x.name.size ≤ 1000) (hsb : ∀ x, x ∈ b → x.name.size ≤ 1000) (σ : Store) :
    PCall Tryz.prog 49 [.str word, .sl ka (encL eMap a), .sl kb (encL eMap b), .fn 37 [], .fn sm []] σ (fun r t => (∃ k, r = .sl k (encL AV.str (difS nMap q word a b)) ∧ ((k = .nil ∧ encL AV.str (difS nMap q word a b) = []) ∨ (k.isNil = false ∧ encL AV.str (difS nMap q word a b) ≠ []))) ∧ t = σ) := by
  obtain ⟨X, hX⟩ : ∃ X, firsts nMap a = X := ⟨_, rfl⟩
  obtain ⟨Y, hY⟩ : ∃ Y, firsts nMap b = Y := ⟨_, rfl⟩
  have hXn : (X.map nMap).Nodup := by rw [← hX]; exact firsts_nodup nMap a
  have hYn : (Y.map nMap).Nodup := by rw [← hY]; exact firsts_nodup nMap b
  have hXa : ∀ x, x ∈ X → x ∈ a := fun x hx => by rw [← hX] at hx; exact firsts_mem nMap x hx
  have hYb : ∀ x, x ∈ Y → x ∈ b := fun x hx => by rw [← hY] at hx; exact firsts_mem nMap x hx
  have hXl : X.length ≤ 1000 := by have := firsts_length nMap a; rw [hX] at this; omega
  have hYl : Y.length ≤ 1000 := by have := firsts_length nMap b; rw [hY] at this; omega
  rw [difS, hX, hY]
  refine PCall_w [.tmp 10] 98 Tryz.func49 (by rfl) rfl rfl rfl rfl ?_
  repeat' first |refine s1 ?_|refine gS ?_|refine wT rfl ?_|refine wF rfl ?_|refine wt rfl ?_|refine wf rfl ?_|(refine wC rfl (fun h=>?_) (fun h=>?_)<;>(try contradiction))|((first|refine rd ?_|refine ry [] c0 fun nu _ _=>?_);simp -dsimp (disch:=omega) only[go_sem])|refine e0 (by decide) ?_|(refine zA ?_ ?_;omega)|refine zA (of_eq_true PutAt_put) ?_|refine gT ?_|refine gF ?_|(refine gI (fun h=>?_) (fun h=>?_)<;>(try contradiction)<;>(try refine rd ?_)<;>(try simp -dsimp (disch:=omega) only[go_sem,h]))|refine zX _ (zX _ (zA (zA rfl rfl) ?_)) |fail
  refine PCall_use (fstMap ka a (by omega) σ) ?_
  rintro _ _ ⟨ox, rfl, hox, rfl⟩
  repeat' first |refine s1 ?_|refine gS ?_|refine wT rfl ?_|refine wF rfl ?_|refine wt rfl ?_|refine wf rfl ?_|(refine wC rfl (fun h=>?_) (fun h=>?_)<;>(try contradiction))|((first|refine rd ?_|refine ry [] c0 fun nu _ _=>?_);simp -dsimp (disch:=omega) only[go_sem])|refine e0 (by decide) ?_|(refine zA ?_ ?_;omega)|refine zA (of_eq_true PutAt_put) ?_|refine gT ?_|refine gF ?_|(refine gI (fun h=>?_) (fun h=>?_)<;>(try contradiction)<;>(try refine rd ?_)<;>(try simp -dsimp (disch:=omega) only[go_sem,h]))|refine zX _ (zX _ (zA (zA rfl rfl) ?_)) |fail
  refine PCall_use (fstMap kb b (by omega) _) ?_
  rintro _ _ ⟨oy, rfl, hoy, rfl⟩
  have hyx := alloc_ne hoy
  rw [put_oth hyx] at hoy
  rw [hX, hY]
  repeat' first |refine s1 ?_|refine gS ?_|refine wT rfl ?_|refine wF rfl ?_|refine wt rfl ?_|refine wf rfl ?_|(refine wC rfl (fun h=>?_) (fun h=>?_)<;>(try contradiction))|((first|refine rd ?_|refine ry [] c0 fun nu _ _=>?_);simp -dsimp (disch:=omega) only[go_sem])|refine e0 (by decide) ?_|(refine zA ?_ ?_;omega)|refine zA (of_eq_true PutAt_put) ?_|refine gT ?_|refine gF ?_|(refine gI (fun h=>?_) (fun h=>?_)<;>(try contradiction)<;>(try refine rd ?_)<;>(try simp -dsimp (disch:=omega) only[go_sem,h]))|refine zX _ (zX _ (zA (zA rfl rfl) ?_)) |fail
  intro oa hoa
  have hay := alloc_ne hoa
  rw [put_oth hay] at hoa
  have hax := alloc_ne hoa
  rw [put_oth hax] at hoa
  have hxy : ox ≠ oy := fun e => hyx e.symm
  have hxa : ox ≠ oa := fun e => hax e.symm
  have hya : oy ≠ oa := fun e => hay e.symm
  have sw1 := put_swap hxy
  have sw2 := put_swap hxa
  have sw3 := put_swap hya
  repeat' first |((fail_if_success (first|show W _ _ (Code.seq (Code.region 4 _ _) _) _ _ _|show W _ _ (Code.seq (Code.seq (Code.region 4 _ _) _) _) _ _ _));refine s1 ?_)|refine gS ?_|refine wT rfl ?_|refine wF rfl ?_|refine wt rfl ?_|refine wf rfl ?_|(refine wC rfl (fun h=>?_) (fun h=>?_)<;>(try contradiction))|((fail_if_success (first|show W _ _ (Code.region 4 _ _) _ _ _));(first|refine rd ?_|refine ry [] c0 fun nu _ _=>?_);simp -dsimp (disch:=omega) only[go_sem])|refine e0 (by decide) ?_|(refine zA ?_ ?_;omega)|refine zA (of_eq_true PutAt_put) ?_|refine gT ?_|refine gF ?_|(refine gI (fun h=>?_) (fun h=>?_)<;>(try contradiction)<;>(try refine rd ?_)<;>(try simp -dsimp (disch:=omega) only[go_sem,h]))|refine zX _ (zX _ (zA (zA rfl rfl) ?_)) |fail
  refine W_midE (fun x : List (ByteArray × Bool) × Array MapEntry × Nat => [(0, .str word), (12, .map ox), (13, .map oy), (14, .map oa)]) (fun x => ((σ.put ox (.mapR (entN nMap eMap X) x.2.1 x.2.2)).put oy (.map (entN nMap eMap Y))).put oa (.map (entD x.1))) (fun x => x.1.Perm (X.map fun v => (nMap v, dX nMap q Y v))) ?_ ?_
  · skip
    repeat' first |refine s1 ?_|refine gS ?_|refine wT rfl ?_|refine wF rfl ?_|refine wt rfl ?_|refine wf rfl ?_|(refine wC rfl (fun h=>?_) (fun h=>?_)<;>(try contradiction))|((first|refine rd ?_|refine ry [] c0 fun nu _ _=>?_);simp -dsimp (disch:=omega) only[go_sem,put_oth hxa, put_oth hxy])|refine e0 (by decide) ?_|(refine zA ?_ ?_;omega)|refine zA (of_eq_true PutAt_put) ?_|refine gT ?_|refine gF ?_|(refine gI (fun h=>?_) (fun h=>?_)<;>(try contradiction)<;>(try refine rd ?_)<;>(try simp -dsimp (disch:=omega) only[go_sem,h,put_oth hxa, put_oth hxy]))|refine zX _ (zX _ (zA (zA rfl rfl) ?_)) |fail
    intro en ck r hlen hst hr
    have hra := alloc_ne hr
    rw [put_oth hra] at hr
    have hry := alloc_ne hr
    rw [put_oth hry] at hr
    have hrx := alloc_ne hr
    rw [put_oth hrx] at hr
    rw [entN_length] at hlen
    have har : oa ≠ r := fun e => hra e.symm
    have hyr : oy ≠ r := fun e => hry e.symm
    have hxr : ox ≠ r := fun e => hrx e.symm
    simp only [sw1, sw2, put_put]
    repeat' first |refine s1 ?_|refine gS ?_|refine wT rfl ?_|refine wF rfl ?_|refine wt rfl ?_|refine wf rfl ?_|(refine wC rfl (fun h=>?_) (fun h=>?_)<;>(try contradiction))|((first|refine rd ?_|refine ry [] c0 fun nu _ _=>?_);simp -dsimp (disch:=omega) only[go_sem])|refine e0 (by decide) ?_|(refine zA ?_ ?_;omega)|refine zA (of_eq_true PutAt_put) ?_|refine gT ?_|refine gF ?_|(refine gI (fun h=>?_) (fun h=>?_)<;>(try contradiction)<;>(try refine rd ?_)<;>(try simp -dsimp (disch:=omega) only[go_sem,h]))|refine zX _ (zX _ (zA (zA rfl rfl) ?_)) |fail
    refine W_loop_st (fun vs : List Nat => [(0, .str word), (4, .fn sm []), (12, .map ox), (13, .map oy), (14, .map oa), (34, .ptr r 0 0)]) (fun vs => (((σ.put ox (.mapR (entN nMap eMap X) en ck)).put oy (.map (entN nMap eMap Y))).put oa (.map (entD (dl1 nMap q X Y vs)))).put r (.iter ox en ck (bornsOf en vs))) (fun vs => vs.Nodup ∧ ∀ i, i ∈ vs → i < X.length) (fun vs => lessV X.length vs) [] ⟨List.nodup_nil, fun i h => by simp at h⟩ (Env.Sub_of_has (by simp [Env.Has, Env.get, Env.putO])) (Store.Sub.refl _) ?_
    rintro vs ⟨hnd, hbd⟩
    obtain ⟨C, hC⟩ : ∃ C, entD (dl1 nMap q X Y vs) = C := ⟨_, rfl⟩
    rw [hC]
    repeat' first |refine s1 ?_|refine gS ?_|refine wT rfl ?_|refine wF rfl ?_|refine wt rfl ?_|refine wf rfl ?_|(refine wC rfl (fun h=>?_) (fun h=>?_)<;>(try contradiction))|((first|refine rd ?_|refine ry [] c0 fun nu _ _=>?_);simp -dsimp (disch:=omega) only[go_sem,put_oth hxr, put_oth hxa, put_oth hxy])|refine e0 (by decide) ?_|(refine zA ?_ ?_;omega)|refine zA (of_eq_true PutAt_put) ?_|refine gT ?_|refine gF ?_|(refine gI (fun h=>?_) (fun h=>?_)<;>(try contradiction)<;>(try refine rd ?_)<;>(try simp -dsimp (disch:=omega) only[go_sem,h,put_oth hxr, put_oth hxa, put_oth hxy]))|refine zX _ (zX _ (zA (zA rfl rfl) ?_)) |fail
    refine And.intro (fun hall => ?_) (fun i kv e h1 h2 h3 => ?_)
    · skip
      repeat' first |refine s1 ?_|refine gS ?_|refine wT rfl ?_|refine wF rfl ?_|refine wt rfl ?_|refine wf rfl ?_|(refine wC rfl (fun h=>?_) (fun h=>?_)<;>(try contradiction))|((first|refine rd ?_|refine ry [] c0 fun nu _ _=>?_);simp -dsimp (disch:=omega) only[go_sem])|refine e0 (by decide) ?_|(refine zA ?_ ?_;omega)|refine zA (of_eq_true PutAt_put) ?_|refine gT ?_|refine gF ?_|(refine gI (fun h=>?_) (fun h=>?_)<;>(try contradiction)<;>(try refine rd ?_)<;>(try simp -dsimp (disch:=omega) only[go_sem,h]))|refine zX _ (zX _ (zA (zA rfl rfl) ?_)) |fail
      refine ⟨(dl1 nMap q X Y vs, en, ck), dl1_perm nMap q (all_perm hnd hbd fun i hi => ?_), Env.Sub_of_has (by simp [Env.Has, Env.get, Env.putO]), ?_⟩
      · have hie : en[i]? = some en[i] := Array.getElem?_eq_getElem (by omega)
        exact (borns_has hst (fun j hj => by have := hbd j hj; omega) hie).1 (hall i _ hie)
      · rw [hC]; exact Sub_new (by rw [put_oth hra, put_oth hry, put_oth hrx]; exact hr)
    · obtain ⟨v, hv, rfl⟩ := entN_get nMap eMap X i kv h1
      have hil : i < X.length := (List.getElem?_eq_some_iff.1 hv).1
      have hvd : X.getD i default = v := by rw [List.getD_eq_getElem?_getD, hv]; rfl
      have hiv : i ∉ vs := fun h => by
        rw [(borns_has hst (fun j hj => by have := hbd j hj; omega) h2).2 h] at h3; cases h3
      have hvX : v ∈ X := List.mem_of_getElem? hv
      have hnew := dl1_new nMap q (Y := Y) hXn hbd hil hiv
      have hsu := dl1_succ nMap q X Y vs i
      rw [hvd] at hnew hsu
      have hset := entN_set (fun p : ByteArray × Bool => p.1) eD (dl1 nMap q X Y vs) v.name (.bool (dX nMap q Y v)) hnew
      have hke := entN_keys (fun p : ByteArray × Bool => p.1) eD (dl1 nMap q X Y vs)
      rw [show entN (fun p : ByteArray × Bool => p.1) eD (dl1 nMap q X Y vs) = C from hC] at hset hke
      have hkY := entN_keys nMap eMap Y
      have hfY := entN_find nMap eMap Y v.name
      have hwY : ∀ {z : MapD}, Y.find? (fun x => decide (nMap x = v.name)) = some z → z ∈ Y := fun h => List.mem_of_find?_eq_some h
      repeat' first |refine s1 ?_|refine gS ?_|refine wT rfl ?_|refine wF rfl ?_|refine wt rfl ?_|refine wf rfl ?_|(refine wC rfl (fun h=>?_) (fun h=>?_)<;>(try contradiction))|((first|refine rd ?_|refine ry [] c0 fun nu _ _=>?_);simp -dsimp (disch:=omega) only[go_sem,put_oth hxr, put_oth hxa, put_oth hxy])|refine e0 (by decide) ?_|(refine zA ?_ ?_;omega)|refine zA (of_eq_true PutAt_put) ?_|refine gT ?_|refine gF ?_|(refine gI (fun h=>?_) (fun h=>?_)<;>(try contradiction)<;>(try refine rd ?_)<;>(try simp -dsimp (disch:=omega) only[go_sem,h,put_oth hxr, put_oth hxa, put_oth hxy]))|refine zX _ (zX _ (zA (zA rfl rfl) ?_)) |fail
      refine ⟨i, _, e, bornsOf en vs, h1, h2, rfl, ?_⟩
      rw [borns_push en vs h2]
      intro m hm
      have hmr := alloc_ne hm
      rw [put_oth hmr] at hm
      have hma := alloc_ne hm
      rw [put_oth hma] at hm
      have hmy := alloc_ne hm
      rw [put_oth hmy] at hm
      have hmx := alloc_ne hm
      rw [put_oth hmx] at hm
      have ham : oa ≠ m := fun e => hma e.symm
      have hym : oy ≠ m := fun e => hmy e.symm
      have hmm : ∀ C I, ((((σ.put ox (.mapR (entN nMap eMap X) en ck)).put oy (.map (entN nMap eMap Y))).put oa C).put r I) m = none := fun C I => by rw [put_oth hmr, put_oth hma, put_oth hmy, put_oth hmx]; exact hm
      have fin : ∀ (w : Nat) (M V : Ob), ((((σ.put ox (.mapR (entN nMap eMap X) en ck)).put oy (.map (entN nMap eMap Y))).put oa (.map C)).put r (.iter ox en ck (bornsOf en (vs ++ [i])))) w = none → w ≠ m →
          ∀ C', ((((σ.put ox (.mapR (entN nMap eMap X) en ck)).put oy (.map (entN nMap eMap Y))).put oa C').put r (.iter ox en ck (bornsOf en (vs ++ [i])))).Sub ((((((σ.put ox (.mapR (entN nMap eMap X) en ck)).put oy (.map (entN nMap eMap Y))).put oa C').put r (.iter ox en ck (bornsOf en (vs ++ [i])))).put m M).put w V) := fun w M V hw hwm C' => by
        have hwr := alloc_ne hw
        rw [put_oth hwr] at hw
        have hwa := alloc_ne hw
        rw [put_oth hwa] at hw
        exact keep_new (keep_new (fun _ _ h => h) (hmm _ _)) (by rw [put_oth hwr, put_oth hwa]; exact hw)
      have nxt : (vs ++ [i]).Nodup ∧ ∀ j, j ∈ vs ++ [i] → j < X.length := ⟨by rw [List.nodup_append]; exact ⟨hnd, by simp, fun a ha b hb e => by simp at hb; subst hb; subst e; exact hiv ha⟩, fun j hj => by
        rcases List.mem_append.1 hj with hj | hj
        · exact hbd j hj
        · rw [List.mem_singleton.1 hj]; exact hil⟩
      cases hh : hasN nMap v.name Y with
      | true =>
        obtain ⟨z, hz⟩ := has_find nMap hh
        have hzY := hwY hz
        have hc := hq v (hXa v hvX) z (hYb z hzY)
        have hdx : dX nMap q Y v = !q v z := by rw [dX, show nMap v = v.name from rfl, hz]
        rw [hz] at hfY
        rw [hdx] at hset hsu
        simp only [Option.map_some] at hfY
        simp -dsimp (disch:=omega) only[go_sem,eMap]
        repeat' first |((fail_if_success (first|show W _ _ (Code.seq (Code.region 8 _ _) _) _ _ _|show W _ _ (Code.seq (Code.seq (Code.region 8 _ _) _) _) _ _ _));refine s1 ?_)|refine gS ?_|refine wT rfl ?_|refine wF rfl ?_|refine wt rfl ?_|refine wf rfl ?_|(refine wC rfl (fun h=>?_) (fun h=>?_)<;>(try contradiction))|((fail_if_success (first|show W _ _ (Code.region 8 _ _) _ _ _));(first|refine rd ?_|refine ry [] c0 fun nu _ _=>?_);simp -dsimp (disch:=omega) only[go_sem,put_oth hym, put_oth hyr, put_oth hya, hkY, hfY, eMap])|refine e0 (by decide) ?_|(refine zA ?_ ?_;omega)|refine zA (of_eq_true PutAt_put) ?_|refine gT ?_|refine gF ?_|(refine gI (fun h=>?_) (fun h=>?_)<;>(try contradiction)<;>(try refine rd ?_)<;>(try simp -dsimp (disch:=omega) only[go_sem,h,put_oth hym, put_oth hyr, put_oth hya, hkY, hfY, eMap]))|refine zX _ (zX _ (zA (zA rfl rfl) ?_)) |fail
        intro w hw
        have hwm := alloc_ne hw
        rw [put_oth hwm] at hw
        have hwr := alloc_ne hw
        have hwa := alloc_ne (by rw [put_oth hwr] at hw; exact hw)
        have haw : oa ≠ w := fun e => hwa e.symm
        have hmw : m ≠ w := fun e => hwm e.symm
        repeat' first |refine s1 ?_|refine gS ?_|refine wT rfl ?_|refine wF rfl ?_|refine wt rfl ?_|refine wf rfl ?_|(refine wC rfl (fun h=>?_) (fun h=>?_)<;>(try contradiction))|((first|refine rd ?_|refine ry [] c0 fun nu _ _=>?_);simp -dsimp (disch:=omega) only[go_sem,put_oth hmw, put_oth haw, put_oth ham, put_oth har, put_swap haw, put_swap ham, put_swap har, hke, hset, eMap])|refine e0 (by decide) ?_|(refine zA ?_ ?_;omega)|refine zA (of_eq_true PutAt_put) ?_|refine gT ?_|refine gF ?_|(refine gI (fun h=>?_) (fun h=>?_)<;>(try contradiction)<;>(try refine rd ?_)<;>(try simp -dsimp (disch:=omega) only[go_sem,h,put_oth hmw, put_oth haw, put_oth ham, put_oth har, put_swap haw, put_swap ham, put_swap har, hke, hset, eMap]))|refine zX _ (zX _ (zA (zA rfl rfl) ?_)) |refine us (hc) ?_ |fail
        all_goals exact ⟨vs ++ [i], lessV_lt hil hiv, nxt, Env.Sub_of_has (by simp [Env.Has, Env.get, Env.putO]), by rw [hsu, hC]; exact fin w _ _ hw hwm _⟩
      | false =>
        have hz := no_find nMap hh
        have hdx : dX nMap q Y v = true := by rw [dX, show nMap v = v.name from rfl, hz]
        rw [hz] at hfY
        rw [hdx] at hset hsu
        simp only [Option.map_none] at hfY
        simp -dsimp (disch:=omega) only[go_sem,eMap]
        repeat' first |((fail_if_success (first|show W _ _ (Code.seq (Code.region 8 _ _) _) _ _ _|show W _ _ (Code.seq (Code.seq (Code.region 8 _ _) _) _) _ _ _));refine s1 ?_)|refine gS ?_|refine wT rfl ?_|refine wF rfl ?_|refine wt rfl ?_|refine wf rfl ?_|(refine wC rfl (fun h=>?_) (fun h=>?_)<;>(try contradiction))|((fail_if_success (first|show W _ _ (Code.region 8 _ _) _ _ _));(first|refine rd ?_|refine ry [] c0 fun nu _ _=>?_);simp -dsimp (disch:=omega) only[go_sem,put_oth hym, put_oth hyr, put_oth hya, hkY, hfY, eMap])|refine e0 (by decide) ?_|(refine zA ?_ ?_;omega)|refine zA (of_eq_true PutAt_put) ?_|refine gT ?_|refine gF ?_|(refine gI (fun h=>?_) (fun h=>?_)<;>(try contradiction)<;>(try refine rd ?_)<;>(try simp -dsimp (disch:=omega) only[go_sem,h,put_oth hym, put_oth hyr, put_oth hya, hkY, hfY, eMap]))|refine zX _ (zX _ (zA (zA rfl rfl) ?_)) |fail
        intro w hw
        have hwm := alloc_ne hw
        rw [put_oth hwm] at hw
        have hwr := alloc_ne hw
        have hwa := alloc_ne (by rw [put_oth hwr] at hw; exact hw)
        have haw : oa ≠ w := fun e => hwa e.symm
        repeat' first |refine s1 ?_|refine gS ?_|refine wT rfl ?_|refine wF rfl ?_|refine wt rfl ?_|refine wf rfl ?_|(refine wC rfl (fun h=>?_) (fun h=>?_)<;>(try contradiction))|((first|refine rd ?_|refine ry [] c0 fun nu _ _=>?_);simp -dsimp (disch:=omega) only[go_sem,put_oth haw, put_oth ham, put_oth har, put_swap haw, put_swap ham, put_swap har, hke, hset, eMap])|refine e0 (by decide) ?_|(refine zA ?_ ?_;omega)|refine zA (of_eq_true PutAt_put) ?_|refine gT ?_|refine gF ?_|(refine gI (fun h=>?_) (fun h=>?_)<;>(try contradiction)<;>(try refine rd ?_)<;>(try simp -dsimp (disch:=omega) only[go_sem,h,put_oth haw, put_oth ham, put_oth har, put_swap haw, put_swap ham, put_swap har, hke, hset, eMap]))|refine zX _ (zX _ (zA (zA rfl rfl) ?_)) |fail
        exact ⟨vs ++ [i], lessV_lt hil hiv, nxt, Env.Sub_of_has (by simp [Env.Has, Env.get, Env.putO]), by rw [hsu, hC]; exact fin w _ _ hw hwm _⟩
  rintro ⟨L, en, ck⟩ hp
  simp only at hp ⊢
  refine W_unrange (o := ox) (es := entN nMap eMap X) (en := en) (ck := ck) (by rw [put_oth hxa, put_oth hxy, put_same]) ?_
  simp only [sw1, sw2, put_put]
  clear en ck
  have hDl : (difD nMap q X Y).length ≤ 2000 := by
    have := List.length_filter_le (fun v => !hasN nMap (nMap v) X) Y
    simp only [difD, List.length_append, List.length_map]; omega
  have hDs : ∀ p, p ∈ difD nMap q X Y → p.1.size ≤ 1000 := fun p hp => by
    rcases List.mem_append.1 hp with hp | hp
    · obtain ⟨x, hx, rfl⟩ := List.mem_map.1 hp; exact hsa x (hXa x hx)
    · obtain ⟨x, hx, rfl⟩ := List.mem_map.1 hp; exact hsb x (hYb x (List.mem_filter.1 hx).1)
  repeat' first |((fail_if_success (first|show W _ _ (Code.seq (Code.region 9 _ _) _) _ _ _|show W _ _ (Code.seq (Code.seq (Code.region 9 _ _) _) _) _ _ _));refine s1 ?_)|refine gS ?_|refine wT rfl ?_|refine wF rfl ?_|refine wt rfl ?_|refine wf rfl ?_|(refine wC rfl (fun h=>?_) (fun h=>?_)<;>(try contradiction))|((fail_if_success (first|show W _ _ (Code.region 9 _ _) _ _ _));(first|refine rd ?_|refine ry [] c0 fun nu _ _=>?_);simp -dsimp (disch:=omega) only[go_sem])|refine e0 (by decide) ?_|(refine zA ?_ ?_;omega)|refine zA (of_eq_true PutAt_put) ?_|refine gT ?_|refine gF ?_|(refine gI (fun h=>?_) (fun h=>?_)<;>(try contradiction)<;>(try refine rd ?_)<;>(try simp -dsimp (disch:=omega) only[go_sem,h]))|refine zX _ (zX _ (zA (zA rfl rfl) ?_)) |fail
  refine W_midE (fun x : List (ByteArray × Bool) × Array MapEntry × Nat => [(0, .str word), (14, .map oa)]) (fun x => ((σ.put ox (.map (entN nMap eMap X))).put oy (.mapR (entN nMap eMap Y) x.2.1 x.2.2)).put oa (.map (entD x.1))) (fun x => x.1.Perm (difD nMap q X Y)) ?_ ?_
  · skip
    repeat' first |refine s1 ?_|refine gS ?_|refine wT rfl ?_|refine wF rfl ?_|refine wt rfl ?_|refine wf rfl ?_|(refine wC rfl (fun h=>?_) (fun h=>?_)<;>(try contradiction))|((first|refine rd ?_|refine ry [] c0 fun nu _ _=>?_);simp -dsimp (disch:=omega) only[go_sem,put_oth hya])|refine e0 (by decide) ?_|(refine zA ?_ ?_;omega)|refine zA (of_eq_true PutAt_put) ?_|refine gT ?_|refine gF ?_|(refine gI (fun h=>?_) (fun h=>?_)<;>(try contradiction)<;>(try refine rd ?_)<;>(try simp -dsimp (disch:=omega) only[go_sem,h,put_oth hya]))|refine zX _ (zX _ (zA (zA rfl rfl) ?_)) |fail
    intro en ck r hlen hst hr
    have hra := alloc_ne hr
    rw [put_oth hra] at hr
    have hry := alloc_ne hr
    rw [put_oth hry] at hr
    have hrx := alloc_ne hr
    rw [put_oth hrx] at hr
    rw [entN_length] at hlen
    have har : oa ≠ r := fun e => hra e.symm
    have hyr : oy ≠ r := fun e => hry e.symm
    have hxr : ox ≠ r := fun e => hrx e.symm
    simp only [sw3, put_put]
    repeat' first |refine s1 ?_|refine gS ?_|refine wT rfl ?_|refine wF rfl ?_|refine wt rfl ?_|refine wf rfl ?_|(refine wC rfl (fun h=>?_) (fun h=>?_)<;>(try contradiction))|((first|refine rd ?_|refine ry [] c0 fun nu _ _=>?_);simp -dsimp (disch:=omega) only[go_sem])|refine e0 (by decide) ?_|(refine zA ?_ ?_;omega)|refine zA (of_eq_true PutAt_put) ?_|refine gT ?_|refine gF ?_|(refine gI (fun h=>?_) (fun h=>?_)<;>(try contradiction)<;>(try refine rd ?_)<;>(try simp -dsimp (disch:=omega) only[go_sem,h]))|refine zX _ (zX _ (zA (zA rfl rfl) ?_)) |fail
    refine W_loop_st (fun vs : List Nat => [(0, .str word), (12, .map ox), (14, .map oa), (58, .ptr r 0 0)]) (fun vs => (((σ.put ox (.map (entN nMap eMap X))).put oy (.mapR (entN nMap eMap Y) en ck)).put oa (.map (entD (dl2 nMap X Y L vs)))).put r (.iter oy en ck (bornsOf en vs))) (fun vs => vs.Nodup ∧ ∀ i, i ∈ vs → i < Y.length) (fun vs => lessV Y.length vs) [] ⟨List.nodup_nil, fun i h => by simp at h⟩ (Env.Sub_of_has (by simp [Env.Has, Env.get, Env.putO])) (by simp only [dl2, List.filter_nil, List.map_nil, List.append_nil]; exact Store.Sub.refl _) ?_
    rintro vs ⟨hnd, hbd⟩
    obtain ⟨C, hC⟩ : ∃ C, entD (dl2 nMap X Y L vs) = C := ⟨_, rfl⟩
    rw [hC]
    repeat' first |refine s1 ?_|refine gS ?_|refine wT rfl ?_|refine wF rfl ?_|refine wt rfl ?_|refine wf rfl ?_|(refine wC rfl (fun h=>?_) (fun h=>?_)<;>(try contradiction))|((first|refine rd ?_|refine ry [] c0 fun nu _ _=>?_);simp -dsimp (disch:=omega) only[go_sem,put_oth hyr, put_oth hya])|refine e0 (by decide) ?_|(refine zA ?_ ?_;omega)|refine zA (of_eq_true PutAt_put) ?_|refine gT ?_|refine gF ?_|(refine gI (fun h=>?_) (fun h=>?_)<;>(try contradiction)<;>(try refine rd ?_)<;>(try simp -dsimp (disch:=omega) only[go_sem,h,put_oth hyr, put_oth hya]))|refine zX _ (zX _ (zA (zA rfl rfl) ?_)) |fail
    refine And.intro (fun hall => ?_) (fun i kv e h1 h2 h3 => ?_)
    · skip
      repeat' first |refine s1 ?_|refine gS ?_|refine wT rfl ?_|refine wF rfl ?_|refine wt rfl ?_|refine wf rfl ?_|(refine wC rfl (fun h=>?_) (fun h=>?_)<;>(try contradiction))|((first|refine rd ?_|refine ry [] c0 fun nu _ _=>?_);simp -dsimp (disch:=omega) only[go_sem])|refine e0 (by decide) ?_|(refine zA ?_ ?_;omega)|refine zA (of_eq_true PutAt_put) ?_|refine gT ?_|refine gF ?_|(refine gI (fun h=>?_) (fun h=>?_)<;>(try contradiction)<;>(try refine rd ?_)<;>(try simp -dsimp (disch:=omega) only[go_sem,h]))|refine zX _ (zX _ (zA (zA rfl rfl) ?_)) |fail
      refine ⟨(dl2 nMap X Y L vs, en, ck), dl2_perm nMap q hp (all_perm hnd hbd fun i hi => ?_), Env.Sub_of_has (by simp [Env.Has, Env.get, Env.putO]), ?_⟩
      · have hie : en[i]? = some en[i] := Array.getElem?_eq_getElem (by omega)
        exact (borns_has hst (fun j hj => by have := hbd j hj; omega) hie).1 (hall i _ hie)
      · rw [hC]; exact Sub_new (by rw [put_oth hra, put_oth hry, put_oth hrx]; exact hr)
    · obtain ⟨v, hv, rfl⟩ := entN_get nMap eMap Y i kv h1
      have hil : i < Y.length := (List.getElem?_eq_some_iff.1 hv).1
      have hvd : Y.getD i default = v := by rw [List.getD_eq_getElem?_getD, hv]; rfl
      have hiv : i ∉ vs := fun h => by
        rw [(borns_has hst (fun j hj => by have := hbd j hj; omega) h2).2 h] at h3; cases h3
      have hstay := dl2_stay nMap q (Y := Y) hXn hp (ws := vs) (j := i)
      have hnew := dl2_new nMap q hYn hp hbd hil hiv
      rw [hvd] at hnew hstay
      have hke := entN_keys (fun p : ByteArray × Bool => p.1) eD (dl2 nMap X Y L vs)
      have hfC := entD_find (dl2 nMap X Y L vs) v.name
      rw [show entN (fun p : ByteArray × Bool => p.1) eD (dl2 nMap X Y L vs) = C from hC] at hke
      rw [hC] at hfC
      have hkX := entN_keys nMap eMap X
      have hfX := entN_find nMap eMap X v.name
      repeat' first |refine s1 ?_|refine gS ?_|refine wT rfl ?_|refine wF rfl ?_|refine wt rfl ?_|refine wf rfl ?_|(refine wC rfl (fun h=>?_) (fun h=>?_)<;>(try contradiction))|((first|refine rd ?_|refine ry [] c0 fun nu _ _=>?_);simp -dsimp (disch:=omega) only[go_sem,put_oth hyr, put_oth hya])|refine e0 (by decide) ?_|(refine zA ?_ ?_;omega)|refine zA (of_eq_true PutAt_put) ?_|refine gT ?_|refine gF ?_|(refine gI (fun h=>?_) (fun h=>?_)<;>(try contradiction)<;>(try refine rd ?_)<;>(try simp -dsimp (disch:=omega) only[go_sem,h,put_oth hyr, put_oth hya]))|refine zX _ (zX _ (zA (zA rfl rfl) ?_)) |fail
      refine ⟨i, _, e, bornsOf en vs, h1, h2, rfl, ?_⟩
      rw [borns_push en vs h2]
      have nxt : (vs ++ [i]).Nodup ∧ ∀ j, j ∈ vs ++ [i] → j < Y.length := ⟨by rw [List.nodup_append]; exact ⟨hnd, by simp, fun a ha b hb e => by simp at hb; subst hb; subst e; exact hiv ha⟩, fun j hj => by
        rcases List.mem_append.1 hj with hj | hj
        · exact hbd j hj
        · rw [List.mem_singleton.1 hj]; exact hil⟩
      have fin : ∀ (w : Nat) (V : Ob), ((((σ.put ox (.map (entN nMap eMap X))).put oy (.mapR (entN nMap eMap Y) en ck)).put oa (.map C)).put r (.iter oy en ck (bornsOf en (vs ++ [i])))) w = none →
          ∀ C', ((((σ.put ox (.map (entN nMap eMap X))).put oy (.mapR (entN nMap eMap Y) en ck)).put oa C').put r (.iter oy en ck (bornsOf en (vs ++ [i])))).Sub (((((σ.put ox (.map (entN nMap eMap X))).put oy (.mapR (entN nMap eMap Y) en ck)).put oa C').put r (.iter oy en ck (bornsOf en (vs ++ [i])))).put w V) := fun w V hw C' => by
        have hwr := alloc_ne hw
        rw [put_oth hwr] at hw
        have hwa := alloc_ne hw
        rw [put_oth hwa] at hw
        exact keep_new (fun _ _ h => h) (by rw [put_oth hwr, put_oth hwa]; exact hw)
      cases hh : hasN nMap v.name X with
      | true =>
        obtain ⟨z, hz⟩ := has_find nMap hh
        obtain ⟨hsame, bb, hbb⟩ := hstay hh
        have hset := entD_stay _ _ _ hbb
        rw [hC] at hset
        rw [show nMap v = v.name from rfl] at hbb hset
        rw [hbb] at hfC
        rw [hz] at hfX
        simp only [Option.map_some] at hfC hfX
        simp -dsimp (disch:=omega) only[go_sem]
        repeat' first |((fail_if_success (first|show W _ _ (Code.seq (Code.region 13 _ _) _) _ _ _|show W _ _ (Code.seq (Code.seq (Code.region 13 _ _) _) _) _ _ _));refine s1 ?_)|refine gS ?_|refine wT rfl ?_|refine wF rfl ?_|refine wt rfl ?_|refine wf rfl ?_|(refine wC rfl (fun h=>?_) (fun h=>?_)<;>(try contradiction))|((fail_if_success (first|show W _ _ (Code.region 13 _ _) _ _ _));(first|refine rd ?_|refine ry [] c0 fun nu _ _=>?_);simp -dsimp (disch:=omega) only[go_sem,put_oth hxr, put_oth hxa, put_oth hxy, hkX, hfX, eMap])|refine e0 (by decide) ?_|(refine zA ?_ ?_;omega)|refine zA (of_eq_true PutAt_put) ?_|refine gT ?_|refine gF ?_|(refine gI (fun h=>?_) (fun h=>?_)<;>(try contradiction)<;>(try refine rd ?_)<;>(try simp -dsimp (disch:=omega) only[go_sem,h,put_oth hxr, put_oth hxa, put_oth hxy, hkX, hfX, eMap]))|refine zX _ (zX _ (zA (zA rfl rfl) ?_)) |fail
        intro w hw
        have hwr := alloc_ne hw
        have hwa := alloc_ne (by rw [put_oth hwr] at hw; exact hw)
        have haw : oa ≠ w := fun e => hwa e.symm
        cases bb with
        | true =>
          repeat' first |refine s1 ?_|refine gS ?_|refine wT rfl ?_|refine wF rfl ?_|refine wt rfl ?_|refine wf rfl ?_|(refine wC rfl (fun h=>?_) (fun h=>?_)<;>(try contradiction))|((first|refine rd ?_|refine ry [] c0 fun nu _ _=>?_);simp -dsimp (disch:=omega) only[go_sem,put_oth haw, put_oth har, put_swap haw, put_swap har, hke, hset, hfC])|refine e0 (by decide) ?_|(refine zA ?_ ?_;omega)|refine zA (of_eq_true PutAt_put) ?_|refine gT ?_|refine gF ?_|(refine gI (fun h=>?_) (fun h=>?_)<;>(try contradiction)<;>(try refine rd ?_)<;>(try simp -dsimp (disch:=omega) only[go_sem,h,put_oth haw, put_oth har, put_swap haw, put_swap har, hke, hset, hfC]))|refine zX _ (zX _ (zA (zA rfl rfl) ?_)) |fail
          exact ⟨vs ++ [i], lessV_lt hil hiv, nxt, Env.Sub_of_has (by simp [Env.Has, Env.get, Env.putO]), by rw [hsame, hC]; exact fin w _ hw _⟩
        | false =>
          repeat' first |refine s1 ?_|refine gS ?_|refine wT rfl ?_|refine wF rfl ?_|refine wt rfl ?_|refine wf rfl ?_|(refine wC rfl (fun h=>?_) (fun h=>?_)<;>(try contradiction))|((first|refine rd ?_|refine ry [] c0 fun nu _ _=>?_);simp -dsimp (disch:=omega) only[go_sem,put_oth haw, put_oth har, put_swap haw, put_swap har, hke, hset, hfC])|refine e0 (by decide) ?_|(refine zA ?_ ?_;omega)|refine zA (of_eq_true PutAt_put) ?_|refine gT ?_|refine gF ?_|(refine gI (fun h=>?_) (fun h=>?_)<;>(try contradiction)<;>(try refine rd ?_)<;>(try simp -dsimp (disch:=omega) only[go_sem,h,put_oth haw, put_oth har, put_swap haw, put_swap har, hke, hset, hfC]))|refine zX _ (zX _ (zA (zA rfl rfl) ?_)) |fail
          exact ⟨vs ++ [i], lessV_lt hil hiv, nxt, Env.Sub_of_has (by simp [Env.Has, Env.get, Env.putO]), by rw [hsame, hC]; exact fin w _ hw _⟩
      | false =>
        obtain ⟨hno, hsu⟩ := hnew hh
        have hset := entN_set (fun p : ByteArray × Bool => p.1) eD (dl2 nMap X Y L vs) v.name (.bool true) hno
        rw [show entN (fun p : ByteArray × Bool => p.1) eD (dl2 nMap X Y L vs) = C from hC] at hset
        rw [no_find (fun p : ByteArray × Bool => p.1) hno] at hfC
        rw [no_find nMap hh] at hfX
        simp only [Option.map_none] at hfC hfX
        simp -dsimp (disch:=omega) only[go_sem]
        repeat' first |((fail_if_success (first|show W _ _ (Code.seq (Code.region 13 _ _) _) _ _ _|show W _ _ (Code.seq (Code.seq (Code.region 13 _ _) _) _) _ _ _));refine s1 ?_)|refine gS ?_|refine wT rfl ?_|refine wF rfl ?_|refine wt rfl ?_|refine wf rfl ?_|(refine wC rfl (fun h=>?_) (fun h=>?_)<;>(try contradiction))|((fail_if_success (first|show W _ _ (Code.region 13 _ _) _ _ _));(first|refine rd ?_|refine ry [] c0 fun nu _ _=>?_);simp -dsimp (disch:=omega) only[go_sem,put_oth hxr, put_oth hxa, put_oth hxy, hkX, hfX, eMap])|refine e0 (by decide) ?_|(refine zA ?_ ?_;omega)|refine zA (of_eq_true PutAt_put) ?_|refine gT ?_|refine gF ?_|(refine gI (fun h=>?_) (fun h=>?_)<;>(try contradiction)<;>(try refine rd ?_)<;>(try simp -dsimp (disch:=omega) only[go_sem,h,put_oth hxr, put_oth hxa, put_oth hxy, hkX, hfX, eMap]))|refine zX _ (zX _ (zA (zA rfl rfl) ?_)) |fail
        intro w hw
        have hwr := alloc_ne hw
        have hwa := alloc_ne (by rw [put_oth hwr] at hw; exact hw)
        have haw : oa ≠ w := fun e => hwa e.symm
        repeat' first |refine s1 ?_|refine gS ?_|refine wT rfl ?_|refine wF rfl ?_|refine wt rfl ?_|refine wf rfl ?_|(refine wC rfl (fun h=>?_) (fun h=>?_)<;>(try contradiction))|((first|refine rd ?_|refine ry [] c0 fun nu _ _=>?_);simp -dsimp (disch:=omega) only[go_sem,put_oth haw, put_oth har, put_swap haw, put_swap har, hke, hset, hfC])|refine e0 (by decide) ?_|(refine zA ?_ ?_;omega)|refine zA (of_eq_true PutAt_put) ?_|refine gT ?_|refine gF ?_|(refine gI (fun h=>?_) (fun h=>?_)<;>(try contradiction)<;>(try refine rd ?_)<;>(try simp -dsimp (disch:=omega) only[go_sem,h,put_oth haw, put_oth har, put_swap haw, put_swap har, hke, hset, hfC]))|refine zX _ (zX _ (zA (zA rfl rfl) ?_)) |fail
        exact ⟨vs ++ [i], lessV_lt hil hiv, nxt, Env.Sub_of_has (by simp [Env.Has, Env.get, Env.putO]), by rw [hsu, hC]; exact fin w _ hw _⟩
  rintro ⟨L', en, ck⟩ hp'
  simp only at hp' ⊢
  obtain ⟨S3, hS3⟩ : ∃ S, ((σ.put ox (.map (entN nMap eMap X))).put oy (.mapR (entN nMap eMap Y) en ck)).put oa (.map (entD L')) = S := ⟨_, rfl⟩
  have hoa3 : S3 oa = some (.map (entD L')) := by rw [← hS3]; exact put_same _ _ _
  have hsub3 : σ.Sub S3 := by rw [← hS3]; exact keep_new (keep_new (keep_new (fun _ _ h => h) hox) hoy) hoa
  rw [hS3]
  repeat' first |refine s1 ?_|refine gS ?_|refine wT rfl ?_|refine wF rfl ?_|refine wt rfl ?_|refine wf rfl ?_|(refine wC rfl (fun h=>?_) (fun h=>?_)<;>(try contradiction))|((first|refine rd ?_|refine ry [] c0 fun nu _ _=>?_);simp -dsimp (disch:=omega) only[go_sem])|refine e0 (by decide) ?_|(refine zA ?_ ?_;omega)|refine zA (of_eq_true PutAt_put) ?_|refine gT ?_|refine gF ?_|(refine gI (fun h=>?_) (fun h=>?_)<;>(try contradiction)<;>(try refine rd ?_)<;>(try simp -dsimp (disch:=omega) only[go_sem,h]))|refine zX _ (zX _ (zA (zA rfl rfl) ?_)) |fail
  refine PCall_use (keys_fn oa S3) ?_
  rintro _ _ ⟨bx, hbx, rfl, rfl⟩
  repeat' first |refine s1 ?_|refine gS ?_|refine wT rfl ?_|refine wF rfl ?_|refine wt rfl ?_|refine wf rfl ?_|(refine wC rfl (fun h=>?_) (fun h=>?_)<;>(try contradiction))|((first|refine rd ?_|refine ry [] c0 fun nu _ _=>?_);simp -dsimp (disch:=omega) only[go_sem])|refine e0 (by decide) ?_|(refine zA ?_ ?_;omega)|refine zA (of_eq_true PutAt_put) ?_|refine gT ?_|refine gF ?_|(refine gI (fun h=>?_) (fun h=>?_)<;>(try contradiction)<;>(try refine rd ?_)<;>(try simp -dsimp (disch:=omega) only[go_sem,h]))|refine zX _ (zX _ (zA (zA rfl rfl) ?_)) |fail
  have hbo : bx ≠ oa := fun e => by rw [e, hoa3] at hbx; cases hbx
  refine PCall_use (sorted_keys sortedOk (l := L'.map fun p => (p.1, AV.bool p.2)) (σ := S3.put bx (.arr 141 [.map oa])) (put_same _ _ _) (by rw [put_oth hbo.symm, hoa3, entD_l]) (by rw [List.length_map, hp'.length_eq]; omega) (fun p hp => by
    obtain ⟨x, hx, rfl⟩ := List.mem_map.1 hp
    have := hDs x (hp'.mem_iff.1 hx)
    simp only; omega)) ?_
  rintro _ _ ⟨⟨k0, rfl⟩, rfl⟩
  obtain ⟨D, hD⟩ : ∃ D, difD nMap q X Y = D := ⟨_, rfl⟩
  rw [hD] at hp' hDl hDs ⊢
  have hDn : (D.map (·.1)).Nodup := by rw [← hD]; exact difD_nodup nMap q hXn hYn
  have hLn : (L'.map (·.1)).Nodup := (hp'.map _).nodup_iff.2 hDn
  have hK0 : sortS ((L'.map fun p => (p.1, AV.bool p.2)).map (·.1)) = sortS (D.map (·.1)) := by
    rw [List.map_map]
    exact sortS_of_perm (hp'.map (fun p : ByteArray × Bool => p.1))
  rw [hK0]
  obtain ⟨K, hK⟩ : ∃ K, sortS (D.map (·.1)) = K := ⟨_, rfl⟩
  have hKp : K.Perm (D.map (·.1)) := by rw [← hK]; exact sortS_perm' _
  have hKl : K.length ≤ 2000 := by rw [hKp.length_eq, List.length_map]; exact hDl
  rw [hK]
  obtain ⟨S4, hS4⟩ : ∃ S, S3.put bx (.arr 141 [.map oa]) = S := ⟨_, rfl⟩
  have hoa4 : S4 oa = some (.map (entD L')) := by rw [← hS4, put_oth hbo.symm]; exact hoa3
  have hsub4 : σ.Sub S4 := by rw [← hS4]; exact keep_new hsub3 (none_of hsub3 hbx)
  have hke := entN_keys (fun p : ByteArray × Bool => p.1) eD L'
  rw [show entN (fun p : ByteArray × Bool => p.1) eD L' = entD L' from rfl] at hke
  rw [hS4]
  have hout : ∀ i, K.length ≤ i → encL AV.str ((K.filter fun s => lookD D s).map fun s => (word ++ ⟨#[32]⟩) ++ s) = outD word D K i := fun i hi => by rw [outD, List.take_of_length_le hi]
  rw [hout K.length (Nat.le_refl _)]
  clear hS3 hS4 hD hout
  repeat' first |((fail_if_success (first|show W _ _ (Code.seq (Code.region 5 _ _) _) _ _ _|show W _ _ (Code.seq (Code.seq (Code.region 5 _ _) _) _) _ _ _));refine s1 ?_)|refine gS ?_|refine wT rfl ?_|refine wF rfl ?_|refine wt rfl ?_|refine wf rfl ?_|(refine wC rfl (fun h=>?_) (fun h=>?_)<;>(try contradiction))|((fail_if_success (first|show W _ _ (Code.region 5 _ _) _ _ _));(first|refine rd ?_|refine ry [] c0 fun nu _ _=>?_);simp -dsimp (disch:=omega) only[go_sem])|refine e0 (by decide) ?_|(refine zA ?_ ?_;omega)|refine zA (of_eq_true PutAt_put) ?_|refine gT ?_|refine gF ?_|(refine gI (fun h=>?_) (fun h=>?_)<;>(try contradiction)<;>(try refine rd ?_)<;>(try simp -dsimp (disch:=omega) only[go_sem,h]))|refine zX _ (zX _ (zA (zA rfl rfl) ?_)) |fail
  refine W_loop_st (fun x : OutL => [(0, .str word), (14, .map oa), (22, .sl x.k (outD word D K x.i)), (80, .sl k0 (encL AV.str K)), (81, .int .i64 K.length), (82, .int .i64 x.i)]) (fun x => x.τ) (fun x => x.i ≤ K.length ∧ S4.Sub x.τ ∧ TipD S4 x.τ x.k (outD word D K x.i)) (fun x => K.length - x.i) ⟨0, .nil, S4⟩ ⟨Nat.zero_le _, Store.Sub.refl _, .inl ⟨rfl, rfl⟩⟩ (Env.Sub_of_has (by simp [Env.Has, Env.get, Env.putO, outD_zero, encL])) (Store.Sub.refl _) ?_
  rintro ⟨i, k, τ⟩ ⟨hi, hsub, htip⟩
  simp only at hi hsub htip ⊢
  have hoa5 := hsub _ _ hoa4
  by_cases hlt : i < K.length
  · obtain ⟨s, hs⟩ : ∃ s, K[i]? = some s := ⟨_, List.getElem?_eq_getElem hlt⟩
    have hget : (encL AV.str K).getD i .any = .str s := by rw [encL, List.getD_eq_getElem?_getD, List.getElem?_map, hs]; rfl
    have hmem := hKp.mem_iff.1 (List.mem_of_getElem? hs)
    obtain ⟨bb, hf, hlk⟩ := look_of hmem
    have hsz : s.size ≤ 1000 := by
      obtain ⟨p, hp, he⟩ := List.mem_map.1 hmem
      rw [← he]; exact hDs p hp
    have hfC := entD_find L' s
    rw [find_perm hp' hLn s, hf] at hfC
    simp only [Option.map_some] at hfC
    have hlen := outD_length word D K i
    have hok := outD_ok word D K i
    cases bb with
    | false =>
      have hF := outD_F (w := word) hs hlk
      repeat' first |refine s1 ?_|refine gS ?_|refine wT rfl ?_|refine wF rfl ?_|refine wt rfl ?_|refine wf rfl ?_|(refine wC rfl (fun h=>?_) (fun h=>?_)<;>(try contradiction))|((first|refine rd ?_|refine ry [] c0 fun nu _ _=>?_);simp -dsimp (disch:=omega) only[go_sem,hget, hoa5, hke, hfC])|refine e0 (by decide) ?_|(refine zA ?_ ?_;omega)|refine zA (of_eq_true PutAt_put) ?_|refine gT ?_|refine gF ?_|(refine gI (fun h=>?_) (fun h=>?_)<;>(try contradiction)<;>(try refine rd ?_)<;>(try simp -dsimp (disch:=omega) only[go_sem,h,hget, hoa5, hke, hfC]))|refine zX _ (zX _ (zA (zA rfl rfl) ?_)) |fail
      exact ⟨⟨i + 1, k, τ⟩, by simp only; omega, ⟨hlt, hsub, by simp only; rw [hF]; exact htip⟩, Env.Sub_of_has (by simp [Env.Has, Env.get, Env.putO, hF]), Store.Sub.refl _⟩
    | true =>
      have hT := outD_T (w := word) hs hlk
      have hTl := congrArg List.length hT
      rcases htip with ⟨rfl, hnil⟩ | ⟨t, rfl, jt, hts, hne⟩
      · rw [hnil] at hT hTl ⊢
        repeat' first |refine s1 ?_|refine gS ?_|refine wT rfl ?_|refine wF rfl ?_|refine wt rfl ?_|refine wf rfl ?_|(refine wC rfl (fun h=>?_) (fun h=>?_)<;>(try contradiction))|((first|refine rd ?_|refine ry [] c0 fun nu _ _=>?_);simp -dsimp (disch:=omega) only[go_sem,hget, hoa5, hke, hfC])|refine e0 (by decide) ?_|(refine zA ?_ ?_;omega)|refine zA (of_eq_true PutAt_put) ?_|refine gT ?_|refine gF ?_|(refine gI (fun h=>?_) (fun h=>?_)<;>(try contradiction)<;>(try refine rd ?_)<;>(try simp -dsimp (disch:=omega) only[go_sem,h,hget, hoa5, hke, hfC]))|refine zX _ (zX _ (zA (zA rfl rfl) ?_)) |fail
        refine ⟨by have h1 : (#[32] : Array UInt8).size = 1 := rfl; omega, by have h1 : (#[32] : Array UInt8).size = 1 := rfl; omega, ?_⟩
        intro t ht
        repeat' first |refine s1 ?_|refine gS ?_|refine wT rfl ?_|refine wF rfl ?_|refine wt rfl ?_|refine wf rfl ?_|(refine wC rfl (fun h=>?_) (fun h=>?_)<;>(try contradiction))|((first|refine rd ?_|refine ry [] c0 fun nu _ _=>?_);simp -dsimp (disch:=omega) only[go_sem])|refine e0 (by decide) ?_|(refine zA ?_ ?_;omega)|refine zA (of_eq_true PutAt_put) ?_|refine gT ?_|refine gF ?_|(refine gI (fun h=>?_) (fun h=>?_)<;>(try contradiction)<;>(try refine rd ?_)<;>(try simp -dsimp (disch:=omega) only[go_sem,h]))|refine zX _ (zX _ (zA (zA rfl rfl) ?_)) |fail
        exact ⟨⟨i + 1, .tip t, τ.put t (.tip 1 9 1)⟩, by simp only; omega, ⟨hlt, keep_new hsub (none_of hsub ht), .inr ⟨t, rfl, by rw [← hTl]; exact put_same _ _ _, none_of hsub ht, fun e => by simp only at e; rw [← hT] at e; simp at e⟩⟩, Env.Sub_of_has (by simp [Env.Has, Env.get, Env.putO, ← hT]), Store.Sub.refl _⟩
      · skip
        repeat' first |refine s1 ?_|refine gS ?_|refine wT rfl ?_|refine wF rfl ?_|refine wt rfl ?_|refine wf rfl ?_|(refine wC rfl (fun h=>?_) (fun h=>?_)<;>(try contradiction))|((first|refine rd ?_|refine ry [] c0 fun nu _ _=>?_);simp -dsimp (disch:=omega) only[go_sem,hget, hoa5, hke, hfC, jt, hok])|refine e0 (by decide) ?_|(refine zA ?_ ?_;omega)|refine zA (of_eq_true PutAt_put) ?_|refine gT ?_|refine gF ?_|(refine gI (fun h=>?_) (fun h=>?_)<;>(try contradiction)<;>(try refine rd ?_)<;>(try simp -dsimp (disch:=omega) only[go_sem,h,hget, hoa5, hke, hfC, jt, hok]))|refine zX _ (zX _ (zA (zA rfl rfl) ?_)) |fail
        refine ⟨by have h1 : (#[32] : Array UInt8).size = 1 := rfl; omega, by have h1 : (#[32] : Array UInt8).size = 1 := rfl; omega, ?_⟩
        repeat' first |refine s1 ?_|refine gS ?_|refine wT rfl ?_|refine wF rfl ?_|refine wt rfl ?_|refine wf rfl ?_|(refine wC rfl (fun h=>?_) (fun h=>?_)<;>(try contradiction))|((first|refine rd ?_|refine ry [] c0 fun nu _ _=>?_);simp -dsimp (disch:=omega) only[go_sem])|refine e0 (by decide) ?_|(refine zA ?_ ?_;omega)|refine zA (of_eq_true PutAt_put) ?_|refine gT ?_|refine gF ?_|(refine gI (fun h=>?_) (fun h=>?_)<;>(try contradiction)<;>(try refine rd ?_)<;>(try simp -dsimp (disch:=omega) only[go_sem,h]))|refine zX _ (zX _ (zA (zA rfl rfl) ?_)) |fail
        exact ⟨⟨i + 1, .tip t, τ.put t (.tip (outD word D K (i + 1)).length 9 1)⟩, by simp only; omega, ⟨hlt, keep_new hsub hts, .inr ⟨t, rfl, put_same _ _ _, hts, fun e => by simp only at e; rw [← hT] at e; simp at e⟩⟩, Env.Sub_of_has (by simp [Env.Has, Env.get, Env.putO, ← hT]), by rw [← hTl]; simp only [List.length_append, List.length_cons, List.length_nil]; exact Store.Sub.refl _⟩
  · have hi' : i = K.length := by omega
    subst hi'
    repeat' first |refine s1 ?_|refine gS ?_|refine wT rfl ?_|refine wF rfl ?_|refine wt rfl ?_|refine wf rfl ?_|(refine wC rfl (fun h=>?_) (fun h=>?_)<;>(try contradiction))|((first|refine rd ?_|refine ry [] c0 fun nu _ _=>?_);simp -dsimp (disch:=omega) only[go_sem])|refine e0 (by decide) ?_|(refine zA ?_ ?_;omega)|refine zA (of_eq_true PutAt_put) ?_|refine gT ?_|refine gF ?_|(refine gI (fun h=>?_) (fun h=>?_)<;>(try contradiction)<;>(try refine rd ?_)<;>(try simp -dsimp (disch:=omega) only[go_sem,h]))|refine zX _ (zX _ (zA (zA rfl rfl) ?_)) |fail
    refine ⟨σ, fun o x h => hsub _ _ (hsub4 _ _ h), ⟨k, rfl, ?_⟩, rfl⟩
    rcases htip with ⟨h1, h2⟩ | ⟨t, rfl, _, _, h2⟩
    · exact .inl ⟨h1, h2⟩
    · exact .inr ⟨rfl, h2⟩
theorem difMap (sm : FuncId) (q : MapD → MapD → Bool) (word : ByteArray) (hw : word.size ≤ 1000) (ka kb : SK) (a b : List MapD) (ha : a.length ≤ 1000) (hb : b.length ≤ 1000) (hq : ∀ x, x ∈ a → ∀ y, y ∈ b → Pure Tryz.prog sm [eMap x, eMap y] (.bool (q x y))) (hsa : ∀ x, x ∈ a → x.name.size ≤ 1000) (hsb : ∀ x, x ∈ b → x.name.size ≤ 1000) :
    Pure Tryz.prog 49 [.str word, .sl ka (encL eMap a), .sl kb (encL eMap b), .fn 37 [], .fn sm []] (.sl (kd (difS nMap q word a b)) (encL AV.str (difS nMap q word a b))) := by
  intro σ
  refine PCall_fin (difMap0 sm q word hw ka kb a b ha hb hq hsa hsb σ) ?_
  rintro _ t ⟨⟨k, rfl, ⟨rfl, h2⟩ | ⟨h1, h2⟩⟩, rfl⟩
  · have h3 : difS nMap q word a b = [] := by simpa [encL] using h2
    refine .as ⟨_, Store.Sub.refl _, ?_, rfl⟩
    rw [kd, if_pos h3]
  · have h3 : ¬ difS nMap q word a b = [] := fun e => h2 (by rw [e]; rfl)
    refine .imm k _ rfl h1 ⟨_, Store.Sub.refl _, ?_, rfl⟩
    rw [kd, if_neg h3]
theorem difRtr0 (sm : FuncId) (q : Rtr → Rtr → Bool) (word : ByteArray) (hw : word.size ≤ 1000) (ka kb : SK) (a b : List Rtr) (ha : a.length ≤ 1000) (hb : b.length ≤ 1000) (hq : ∀ x, x ∈ a → ∀ y, y ∈ b → Pure Tryz.prog sm [eRtr x, eRtr y] (.bool (q x y))) (hsa : ∀ x, x ∈ a → x.name.size ≤ 1000) (hsb : ∀ x, x ∈ b → x.name.size ≤ 1000) (σ : Store) :
    PCall Tryz.prog 51 [.str word, .sl ka (encL eRtr a), .sl kb (encL eRtr b), .fn 39 [], .fn sm []] σ (fun r t => (∃ k, r = .sl k (encL AV.str (difS nRtr q word a b)) ∧ ((k = .nil ∧ encL AV.str (difS nRtr q word a b) = []) ∨ (k.isNil = false ∧ encL AV.str (difS nRtr q word a b) ≠ []))) ∧ t = σ) := by
  obtain ⟨X, hX⟩ : ∃ X, firsts nRtr a = X := ⟨_, rfl⟩
  obtain ⟨Y, hY⟩ : ∃ Y, firsts nRtr b = Y := ⟨_, rfl⟩
  have hXn : (X.map nRtr).Nodup := by rw [← hX]; exact firsts_nodup nRtr a
  have hYn : (Y.map nRtr).Nodup := by rw [← hY]; exact firsts_nodup nRtr b
  have hXa : ∀ x, x ∈ X → x ∈ a := fun x hx => by rw [← hX] at hx; exact firsts_mem nRtr x hx
  have hYb : ∀ x, x ∈ Y → x ∈ b := fun x hx => by rw [← hY] at hx; exact firsts_mem nRtr x hx
  have hXl : X.length ≤ 1000 := by have := firsts_length nRtr a; rw [hX] at this; omega
  have hYl : Y.length ≤ 1000 := by have := firsts_length nRtr b; rw [hY] at this; omega
  rw [difS, hX, hY]
  refine PCall_w [.tmp 10] 98 Tryz.func51 (by rfl) rfl rfl rfl rfl ?_
  repeat' first |refine s1 ?_|refine gS ?_|refine wT rfl ?_|refine wF rfl ?_|refine wt rfl ?_|refine wf rfl ?_|(refine wC rfl (fun h=>?_) (fun h=>?_)<;>(try contradiction))|((first|refine rd ?_|refine ry [] c0 fun nu _ _=>?_);simp -dsimp (disch:=omega) only[go_sem])|refine e0 (by decide) ?_|(refine zA ?_ ?_;omega)|refine zA (of_eq_true PutAt_put) ?_|refine gT ?_|refine gF ?_|(refine gI (fun h=>?_) (fun h=>?_)<;>(try contradiction)<;>(try refine rd ?_)<;>(try simp -dsimp (disch:=omega) only[go_sem,h]))|refine zX _ (zX _ (zA (zA rfl rfl) ?_)) |fail
  refine PCall_use (fstRtr ka a (by omega) σ) ?_
  rintro _ _ ⟨ox, rfl, hox, rfl⟩
  repeat' first |refine s1 ?_|refine gS ?_|refine wT rfl ?_|refine wF rfl ?_|refine wt rfl ?_|refine wf rfl ?_|(refine wC rfl (fun h=>?_) (fun h=>?_)<;>(try contradiction))|((first|refine rd ?_|refine ry [] c0 fun nu _ _=>?_);simp -dsimp (disch:=omega) only[go_sem])|refine e0 (by decide) ?_|(refine zA ?_ ?_;omega)|refine zA (of_eq_true PutAt_put) ?_|refine gT ?_|refine gF ?_|(refine gI (fun h=>?_) (fun h=>?_)<;>(try contradiction)<;>(try refine rd ?_)<;>(try simp -dsimp (disch:=omega) only[go_sem,h]))|refine zX _ (zX _ (zA (zA rfl rfl) ?_)) |fail
  refine PCall_use (fstRtr kb b (by omega) _) ?_
  rintro _ _ ⟨oy, rfl, hoy, rfl⟩
  have hyx := alloc_ne hoy
  rw [put_oth hyx] at hoy
  rw [hX, hY]
  repeat' first |refine s1 ?_|refine gS ?_|refine wT rfl ?_|refine wF rfl ?_|refine wt rfl ?_|refine wf rfl ?_|(refine wC rfl (fun h=>?_) (fun h=>?_)<;>(try contradiction))|((first|refine rd ?_|refine ry [] c0 fun nu _ _=>?_);simp -dsimp (disch:=omega) only[go_sem])|refine e0 (by decide) ?_|(refine zA ?_ ?_;omega)|refine zA (of_eq_true PutAt_put) ?_|refine gT ?_|refine gF ?_|(refine gI (fun h=>?_) (fun h=>?_)<;>(try contradiction)<;>(try refine rd ?_)<;>(try simp -dsimp (disch:=omega) only[go_sem,h]))|refine zX _ (zX _ (zA (zA rfl rfl) ?_)) |fail
  intro oa hoa
  have hay := alloc_ne hoa
  rw [put_oth hay] at hoa
  have hax := alloc_ne hoa
  rw [put_oth hax] at hoa
  have hxy : ox ≠ oy := fun e => hyx e.symm
  have hxa : ox ≠ oa := fun e => hax e.symm
  have hya : oy ≠ oa := fun e => hay e.symm
  have sw1 := put_swap hxy
  have sw2 := put_swap hxa
  have sw3 := put_swap hya
  repeat' first |((fail_if_success (first|show W _ _ (Code.seq (Code.region 4 _ _) _) _ _ _|show W _ _ (Code.seq (Code.seq (Code.region 4 _ _) _) _) _ _ _));refine s1 ?_)|refine gS ?_|refine wT rfl ?_|refine wF rfl ?_|refine wt rfl ?_|refine wf rfl ?_|(refine wC rfl (fun h=>?_) (fun h=>?_)<;>(try contradiction))|((fail_if_success (first|show W _ _ (Code.region 4 _ _) _ _ _));(first|refine rd ?_|refine ry [] c0 fun nu _ _=>?_);simp -dsimp (disch:=omega) only[go_sem])|refine e0 (by decide) ?_|(refine zA ?_ ?_;omega)|refine zA (of_eq_true PutAt_put) ?_|refine gT ?_|refine gF ?_|(refine gI (fun h=>?_) (fun h=>?_)<;>(try contradiction)<;>(try refine rd ?_)<;>(try simp -dsimp (disch:=omega) only[go_sem,h]))|refine zX _ (zX _ (zA (zA rfl rfl) ?_)) |fail
  refine W_midE (fun x : List (ByteArray × Bool) × Array MapEntry × Nat => [(0, .str word), (12, .map ox), (13, .map oy), (14, .map oa)]) (fun x => ((σ.put ox (.mapR (entN nRtr eRtr X) x.2.1 x.2.2)).put oy (.map (entN nRtr eRtr Y))).put oa (.map (entD x.1))) (fun x => x.1.Perm (X.map fun v => (nRtr v, dX nRtr q Y v))) ?_ ?_
  · skip
    repeat' first |refine s1 ?_|refine gS ?_|refine wT rfl ?_|refine wF rfl ?_|refine wt rfl ?_|refine wf rfl ?_|(refine wC rfl (fun h=>?_) (fun h=>?_)<;>(try contradiction))|((first|refine rd ?_|refine ry [] c0 fun nu _ _=>?_);simp -dsimp (disch:=omega) only[go_sem,put_oth hxa, put_oth hxy])|refine e0 (by decide) ?_|(refine zA ?_ ?_;omega)|refine zA (of_eq_true PutAt_put) ?_|refine gT ?_|refine gF ?_|(refine gI (fun h=>?_) (fun h=>?_)<;>(try contradiction)<;>(try refine rd ?_)<;>(try simp -dsimp (disch:=omega) only[go_sem,h,put_oth hxa, put_oth hxy]))|refine zX _ (zX _ (zA (zA rfl rfl) ?_)) |fail
    intro en ck r hlen hst hr
    have hra := alloc_ne hr
    rw [put_oth hra] at hr
    have hry := alloc_ne hr
    rw [put_oth hry] at hr
    have hrx := alloc_ne hr
    rw [put_oth hrx] at hr
    rw [entN_length] at hlen
    have har : oa ≠ r := fun e => hra e.symm
    have hyr : oy ≠ r := fun e => hry e.symm
    have hxr : ox ≠ r := fun e => hrx e.symm
    simp only [sw1, sw2, put_put]
    repeat' first |refine s1 ?_|refine gS ?_|refine wT rfl ?_|refine wF rfl ?_|refine wt rfl ?_|refine wf rfl ?_|(refine wC rfl (fun h=>?_) (fun h=>?_)<;>(try contradiction))|((first|refine rd ?_|refine ry [] c0 fun nu _ _=>?_);simp -dsimp (disch:=omega) only[go_sem])|refine e0 (by decide) ?_|(refine zA ?_ ?_;omega)|refine zA (of_eq_true PutAt_put) ?_|refine gT ?_|refine gF ?_|(refine gI (fun h=>?_) (fun h=>?_)<;>(try contradiction)<;>(try refine rd ?_)<;>(try simp -dsimp (disch:=omega) only[go_sem,h]))|refine zX _ (zX _ (zA (zA rfl rfl) ?_)) |fail
    refine W_loop_st (fun vs : List Nat => [(0, .str word), (4, .fn sm []), (12, .map ox), (13, .map oy), (14, .map oa), (34, .ptr r 0 0)]) (fun vs => (((σ.put ox (.mapR (entN nRtr eRtr X) en ck)).put oy (.map (entN nRtr eRtr Y))).put oa (.map (entD (dl1 nRtr q X Y vs)))).put r (.iter ox en ck (bornsOf en vs))) (fun vs => vs.Nodup ∧ ∀ i, i ∈ vs → i < X.length) (fun vs => lessV X.length vs) [] ⟨List.nodup_nil, fun i h => by simp at h⟩ (Env.Sub_of_has (by simp [Env.Has, Env.get, Env.putO])) (Store.Sub.refl _) ?_
    rintro vs ⟨hnd, hbd⟩
    obtain ⟨C, hC⟩ : ∃ C, entD (dl1 nRtr q X Y vs) = C := ⟨_, rfl⟩
    rw [hC]
    repeat' first |refine s1 ?_|refine gS ?_|refine wT rfl ?_|refine wF rfl ?_|refine wt rfl ?_|refine wf rfl ?_|(refine wC rfl (fun h=>?_) (fun h=>?_)<;>(try contradiction))|((first|refine rd ?_|refine ry [] c0 fun nu _ _=>?_);simp -dsimp (disch:=omega) only[go_sem,put_oth hxr, put_oth hxa, put_oth hxy])|refine e0 (by decide) ?_|(refine zA ?_ ?_;omega)|refine zA (of_eq_true PutAt_put) ?_|refine gT ?_|refine gF ?_|(refine gI (fun h=>?_) (fun h=>?_)<;>(try contradiction)<;>(try refine rd ?_)<;>(try simp -dsimp (disch:=omega) only[go_sem,h,put_oth hxr, put_oth hxa, put_oth hxy]))|refine zX _ (zX _ (zA (zA rfl rfl) ?_)) |fail
    refine And.intro (fun hall => ?_) (fun i kv e h1 h2 h3 => ?_)
    · skip
      repeat' first |refine s1 ?_|refine gS ?_|refine wT rfl ?_|refine wF rfl ?_|refine wt rfl ?_|refine wf rfl ?_|(refine wC rfl (fun h=>?_) (fun h=>?_)<;>(try contradiction))|((first|refine rd ?_|refine ry [] c0 fun nu _ _=>?_);simp -dsimp (disch:=omega) only[go_sem])|refine e0 (by decide) ?_|(refine zA ?_ ?_;omega)|refine zA (of_eq_true PutAt_put) ?_|refine gT ?_|refine gF ?_|(refine gI (fun h=>?_) (fun h=>?_)<;>(try contradiction)<;>(try refine rd ?_)<;>(try simp -dsimp (disch:=omega) only[go_sem,h]))|refine zX _ (zX _ (zA (zA rfl rfl) ?_)) |fail
      refine ⟨(dl1 nRtr q X Y vs, en, ck), dl1_perm nRtr q (all_perm hnd hbd fun i hi => ?_), Env.Sub_of_has (by simp [Env.Has, Env.get, Env.putO]), ?_⟩
      · have hie : en[i]? = some en[i] := Array.getElem?_eq_getElem (by omega)
        exact (borns_has hst (fun j hj => by have := hbd j hj; omega) hie).1 (hall i _ hie)
      · rw [hC]; exact Sub_new (by rw [put_oth hra, put_oth hry, put_oth hrx]; exact hr)
    · obtain ⟨v, hv, rfl⟩ := entN_get nRtr eRtr X i kv h1
      have hil : i < X.length := (List.getElem?_eq_some_iff.1 hv).1
      have hvd : X.getD i default = v := by rw [List.getD_eq_getElem?_getD, hv]; rfl
      have hiv : i ∉ vs := fun h => by
        rw [(borns_has hst (fun j hj => by have := hbd j hj; omega) h2).2 h] at h3; cases h3
      have hvX : v ∈ X := List.mem_of_getElem? hv
      have hnew := dl1_new nRtr q (Y := Y) hXn hbd hil hiv
      have hsu := dl1_succ nRtr q X Y vs i
      rw [hvd] at hnew hsu
      have hset := entN_set (fun p : ByteArray × Bool => p.1) eD (dl1 nRtr q X Y vs) v.name (.bool (dX nRtr q Y v)) hnew
      have hke := entN_keys (fun p : ByteArray × Bool => p.1) eD (dl1 nRtr q X Y vs)
      rw [show entN (fun p : ByteArray × Bool => p.1) eD (dl1 nRtr q X Y vs) = C from hC] at hset hke
      have hkY := entN_keys nRtr eRtr Y
      have hfY := entN_find nRtr eRtr Y v.name
      have hwY : ∀ {z : Rtr}, Y.find? (fun x => decide (nRtr x = v.name)) = some z → z ∈ Y := fun h => List.mem_of_find?_eq_some h
      repeat' first |refine s1 ?_|refine gS ?_|refine wT rfl ?_|refine wF rfl ?_|refine wt rfl ?_|refine wf rfl ?_|(refine wC rfl (fun h=>?_) (fun h=>?_)<;>(try contradiction))|((first|refine rd ?_|refine ry [] c0 fun nu _ _=>?_);simp -dsimp (disch:=omega) only[go_sem,put_oth hxr, put_oth hxa, put_oth hxy])|refine e0 (by decide) ?_|(refine zA ?_ ?_;omega)|refine zA (of_eq_true PutAt_put) ?_|refine gT ?_|refine gF ?_|(refine gI (fun h=>?_) (fun h=>?_)<;>(try contradiction)<;>(try refine rd ?_)<;>(try simp -dsimp (disch:=omega) only[go_sem,h,put_oth hxr, put_oth hxa, put_oth hxy]))|refine zX _ (zX _ (zA (zA rfl rfl) ?_)) |fail
      refine ⟨i, _, e, bornsOf en vs, h1, h2, rfl, ?_⟩
      rw [borns_push en vs h2]
      intro m hm
      have hmr := alloc_ne hm
      rw [put_oth hmr] at hm
      have hma := alloc_ne hm
      rw [put_oth hma] at hm
      have hmy := alloc_ne hm
      rw [put_oth hmy] at hm
      have hmx := alloc_ne hm
      rw [put_oth hmx] at hm
      have ham : oa ≠ m := fun e => hma e.symm
      have hym : oy ≠ m := fun e => hmy e.symm
      have hmm : ∀ C I, ((((σ.put ox (.mapR (entN nRtr eRtr X) en ck)).put oy (.map (entN nRtr eRtr Y))).put oa C).put r I) m = none := fun C I => by rw [put_oth hmr, put_oth hma, put_oth hmy, put_oth hmx]; exact hm
      have fin : ∀ (w : Nat) (M V : Ob), ((((σ.put ox (.mapR (entN nRtr eRtr X) en ck)).put oy (.map (entN nRtr eRtr Y))).put oa (.map C)).put r (.iter ox en ck (bornsOf en (vs ++ [i])))) w = none → w ≠ m →
          ∀ C', ((((σ.put ox (.mapR (entN nRtr eRtr X) en ck)).put oy (.map (entN nRtr eRtr Y))).put oa C').put r (.iter ox en ck (bornsOf en (vs ++ [i])))).Sub ((((((σ.put ox (.mapR (entN nRtr eRtr X) en ck)).put oy (.map (entN nRtr eRtr Y))).put oa C').put r (.iter ox en ck (bornsOf en (vs ++ [i])))).put m M).put w V) := fun w M V hw hwm C' => by
        have hwr := alloc_ne hw
        rw [put_oth hwr] at hw
        have hwa := alloc_ne hw
        rw [put_oth hwa] at hw
        exact keep_new (keep_new (fun _ _ h => h) (hmm _ _)) (by rw [put_oth hwr, put_oth hwa]; exact hw)
      have nxt : (vs ++ [i]).Nodup ∧ ∀ j, j ∈ vs ++ [i] → j < X.length := ⟨by rw [List.nodup_append]; exact ⟨hnd, by simp, fun a ha b hb e => by simp at hb; subst hb; subst e; exact hiv ha⟩, fun j hj => by
        rcases List.mem_append.1 hj with hj | hj
        · exact hbd j hj
        · rw [List.mem_singleton.1 hj]; exact hil⟩
      cases hh : hasN nRtr v.name Y with
      | true =>
        obtain ⟨z, hz⟩ := has_find nRtr hh
        have hzY := hwY hz
        have hc := hq v (hXa v hvX) z (hYb z hzY)
        have hdx : dX nRtr q Y v = !q v z := by rw [dX, show nRtr v = v.name from rfl, hz]
        rw [hz] at hfY
        rw [hdx] at hset hsu
        simp only [Option.map_some] at hfY
        simp -dsimp (disch:=omega) only[go_sem,eRtr]
        repeat' first |((fail_if_success (first|show W _ _ (Code.seq (Code.region 8 _ _) _) _ _ _|show W _ _ (Code.seq (Code.seq (Code.region 8 _ _) _) _) _ _ _));refine s1 ?_)|refine gS ?_|refine wT rfl ?_|refine wF rfl ?_|refine wt rfl ?_|refine wf rfl ?_|(refine wC rfl (fun h=>?_) (fun h=>?_)<;>(try contradiction))|((fail_if_success (first|show W _ _ (Code.region 8 _ _) _ _ _));(first|refine rd ?_|refine ry [] c0 fun nu _ _=>?_);simp -dsimp (disch:=omega) only[go_sem,put_oth hym, put_oth hyr, put_oth hya, hkY, hfY, eRtr])|refine e0 (by decide) ?_|(refine zA ?_ ?_;omega)|refine zA (of_eq_true PutAt_put) ?_|refine gT ?_|refine gF ?_|(refine gI (fun h=>?_) (fun h=>?_)<;>(try contradiction)<;>(try refine rd ?_)<;>(try simp -dsimp (disch:=omega) only[go_sem,h,put_oth hym, put_oth hyr, put_oth hya, hkY, hfY, eRtr]))|refine zX _ (zX _ (zA (zA rfl rfl) ?_)) |fail
        intro w hw
        have hwm := alloc_ne hw
        rw [put_oth hwm] at hw
        have hwr := alloc_ne hw
        have hwa := alloc_ne (by rw [put_oth hwr] at hw; exact hw)
        have haw : oa ≠ w := fun e => hwa e.symm
        have hmw : m ≠ w := fun e => hwm e.symm
        repeat' first |refine s1 ?_|refine gS ?_|refine wT rfl ?_|refine wF rfl ?_|refine wt rfl ?_|refine wf rfl ?_|(refine wC rfl (fun h=>?_) (fun h=>?_)<;>(try contradiction))|((first|refine rd ?_|refine ry [] c0 fun nu _ _=>?_);simp -dsimp (disch:=omega) only[go_sem,put_oth hmw, put_oth haw, put_oth ham, put_oth har, put_swap haw, put_swap ham, put_swap har, hke, hset, eRtr])|refine e0 (by decide) ?_|(refine zA ?_ ?_;omega)|refine zA (of_eq_true PutAt_put) ?_|refine gT ?_|refine gF ?_|(refine gI (fun h=>?_) (fun h=>?_)<;>(try contradiction)<;>(try refine rd ?_)<;>(try simp -dsimp (disch:=omega) only[go_sem,h,put_oth hmw, put_oth haw, put_oth ham, put_oth har, put_swap haw, put_swap ham, put_swap har, hke, hset, eRtr]))|refine zX _ (zX _ (zA (zA rfl rfl) ?_)) |refine us (hc) ?_ |fail
        all_goals exact ⟨vs ++ [i], lessV_lt hil hiv, nxt, Env.Sub_of_has (by simp [Env.Has, Env.get, Env.putO]), by rw [hsu, hC]; exact fin w _ _ hw hwm _⟩
      | false =>
        have hz := no_find nRtr hh
        have hdx : dX nRtr q Y v = true := by rw [dX, show nRtr v = v.name from rfl, hz]
        rw [hz] at hfY
        rw [hdx] at hset hsu
        simp only [Option.map_none] at hfY
        simp -dsimp (disch:=omega) only[go_sem,eRtr]
        repeat' first |((fail_if_success (first|show W _ _ (Code.seq (Code.region 8 _ _) _) _ _ _|show W _ _ (Code.seq (Code.seq (Code.region 8 _ _) _) _) _ _ _));refine s1 ?_)|refine gS ?_|refine wT rfl ?_|refine wF rfl ?_|refine wt rfl ?_|refine wf rfl ?_|(refine wC rfl (fun h=>?_) (fun h=>?_)<;>(try contradiction))|((fail_if_success (first|show W _ _ (Code.region 8 _ _) _ _ _));(first|refine rd ?_|refine ry [] c0 fun nu _ _=>?_);simp -dsimp (disch:=omega) only[go_sem,put_oth hym, put_oth hyr, put_oth hya, hkY, hfY, eRtr])|refine e0 (by decide) ?_|(refine zA ?_ ?_;omega)|refine zA (of_eq_true PutAt_put) ?_|refine gT ?_|refine gF ?_|(refine gI (fun h=>?_) (fun h=>?_)<;>(try contradiction)<;>(try refine rd ?_)<;>(try simp -dsimp (disch:=omega) only[go_sem,h,put_oth hym, put_oth hyr, put_oth hya, hkY, hfY, eRtr]))|refine zX _ (zX _ (zA (zA rfl rfl) ?_)) |fail
        intro w hw
        have hwm := alloc_ne hw
        rw [put_oth hwm] at hw
        have hwr := alloc_ne hw
        have hwa := alloc_ne (by rw [put_oth hwr] at hw; exact hw)
        have haw : oa ≠ w := fun e => hwa e.symm
        repeat' first |refine s1 ?_|refine gS ?_|refine wT rfl ?_|refine wF rfl ?_|refine wt rfl ?_|refine wf rfl ?_|(refine wC rfl (fun h=>?_) (fun h=>?_)<;>(try contradiction))|((first|refine rd ?_|refine ry [] c0 fun nu _ _=>?_);simp -dsimp (disch:=omega) only[go_sem,put_oth haw, put_oth ham, put_oth har, put_swap haw, put_swap ham, put_swap har, hke, hset, eRtr])|refine e0 (by decide) ?_|(refine zA ?_ ?_;omega)|refine zA (of_eq_true PutAt_put) ?_|refine gT ?_|refine gF ?_|(refine gI (fun h=>?_) (fun h=>?_)<;>(try contradiction)<;>(try refine rd ?_)<;>(try simp -dsimp (disch:=omega) only[go_sem,h,put_oth haw, put_oth ham, put_oth har, put_swap haw, put_swap ham, put_swap har, hke, hset, eRtr]))|refine zX _ (zX _ (zA (zA rfl rfl) ?_)) |fail
        exact ⟨vs ++ [i], lessV_lt hil hiv, nxt, Env.Sub_of_has (by simp [Env.Has, Env.get, Env.putO]), by rw [hsu, hC]; exact fin w _ _ hw hwm _⟩
  rintro ⟨L, en, ck⟩ hp
  simp only at hp ⊢
  refine W_unrange (o := ox) (es := entN nRtr eRtr X) (en := en) (ck := ck) (by rw [put_oth hxa, put_oth hxy, put_same]) ?_
  simp only [sw1, sw2, put_put]
  clear en ck
  have hDl : (difD nRtr q X Y).length ≤ 2000 := by
    have := List.length_filter_le (fun v => !hasN nRtr (nRtr v) X) Y
    simp only [difD, List.length_append, List.length_map]; omega
  have hDs : ∀ p, p ∈ difD nRtr q X Y → p.1.size ≤ 1000 := fun p hp => by
    rcases List.mem_append.1 hp with hp | hp
    · obtain ⟨x, hx, rfl⟩ := List.mem_map.1 hp; exact hsa x (hXa x hx)
    · obtain ⟨x, hx, rfl⟩ := List.mem_map.1 hp; exact hsb x (hYb x (List.mem_filter.1 hx).1)
  repeat' first |((fail_if_success (first|show W _ _ (Code.seq (Code.region 9 _ _) _) _ _ _|show W _ _ (Code.seq (Code.seq (Code.region 9 _ _) _) _) _ _ _));refine s1 ?_)|refine gS ?_|refine wT rfl ?_|refine wF rfl ?_|refine wt rfl ?_|refine wf rfl ?_|(refine wC rfl (fun h=>?_) (fun h=>?_)<;>(try contradiction))|((fail_if_success (first|show W _ _ (Code.region 9 _ _) _ _ _));(first|refine rd ?_|refine ry [] c0 fun nu _ _=>?_);simp -dsimp (disch:=omega) only[go_sem])|refine e0 (by decide) ?_|(refine zA ?_ ?_;omega)|refine zA (of_eq_true PutAt_put) ?_|refine gT ?_|refine gF ?_|(refine gI (fun h=>?_) (fun h=>?_)<;>(try contradiction)<;>(try refine rd ?_)<;>(try simp -dsimp (disch:=omega) only[go_sem,h]))|refine zX _ (zX _ (zA (zA rfl rfl) ?_)) |fail
  refine W_midE (fun x : List (ByteArray × Bool) × Array MapEntry × Nat => [(0, .str word), (14, .map oa)]) (fun x => ((σ.put ox (.map (entN nRtr eRtr X))).put oy (.mapR (entN nRtr eRtr Y) x.2.1 x.2.2)).put oa (.map (entD x.1))) (fun x => x.1.Perm (difD nRtr q X Y)) ?_ ?_
  · skip
    repeat' first |refine s1 ?_|refine gS ?_|refine wT rfl ?_|refine wF rfl ?_|refine wt rfl ?_|refine wf rfl ?_|(refine wC rfl (fun h=>?_) (fun h=>?_)<;>(try contradiction))|((first|refine rd ?_|refine ry [] c0 fun nu _ _=>?_);simp -dsimp (disch:=omega) only[go_sem,put_oth hya])|refine e0 (by decide) ?_|(refine zA ?_ ?_;omega)|refine zA (of_eq_true PutAt_put) ?_|refine gT ?_|refine gF ?_|(refine gI (fun h=>?_) (fun h=>?_)<;>(try contradiction)<;>(try refine rd ?_)<;>(try simp -dsimp (disch:=omega) only[go_sem,h,put_oth hya]))|refine zX _ (zX _ (zA (zA rfl rfl) ?_)) |fail
    intro en ck r hlen hst hr
    have hra := alloc_ne hr
    rw [put_oth hra] at hr
    have hry := alloc_ne hr
    rw [put_oth hry] at hr
    have hrx := alloc_ne hr
    rw [put_oth hrx] at hr
    rw [entN_length] at hlen
    have har : oa ≠ r := fun e => hra e.symm
    have hyr : oy ≠ r := fun e => hry e.symm
    have hxr : ox ≠ r := fun e => hrx e.symm
    simp only [sw3, put_put]
    repeat' first |refine s1 ?_|refine gS ?_|refine wT rfl ?_|refine wF rfl ?_|refine wt rfl ?_|refine wf rfl ?_|(refine wC rfl (fun h=>?_) (fun h=>?_)<;>(try contradiction))|((first|refine rd ?_|refine ry [] c0 fun nu _ _=>?_);simp -dsimp (disch:=omega) only[go_sem])|refine e0 (by decide) ?_|(refine zA ?_ ?_;omega)|refine zA (of_eq_true PutAt_put) ?_|refine gT ?_|refine gF ?_|(refine gI (fun h=>?_) (fun h=>?_)<;>(try contradiction)<;>(try refine rd ?_)<;>(try simp -dsimp (disch:=omega) only[go_sem,h]))|refine zX _ (zX _ (zA (zA rfl rfl) ?_)) |fail
    refine W_loop_st (fun vs : List Nat => [(0, .str word), (12, .map ox), (14, .map oa), (58, .ptr r 0 0)]) (fun vs => (((σ.put ox (.map (entN nRtr eRtr X))).put oy (.mapR (entN nRtr eRtr Y) en ck)).put oa (.map (entD (dl2 nRtr X Y L vs)))).put r (.iter oy en ck (bornsOf en vs))) (fun vs => vs.Nodup ∧ ∀ i, i ∈ vs → i < Y.length) (fun vs => lessV Y.length vs) [] ⟨List.nodup_nil, fun i h => by simp at h⟩ (Env.Sub_of_has (by simp [Env.Has, Env.get, Env.putO])) (by simp only [dl2, List.filter_nil, List.map_nil, List.append_nil]; exact Store.Sub.refl _) ?_
    rintro vs ⟨hnd, hbd⟩
    obtain ⟨C, hC⟩ : ∃ C, entD (dl2 nRtr X Y L vs) = C := ⟨_, rfl⟩
    rw [hC]
    repeat' first |refine s1 ?_|refine gS ?_|refine wT rfl ?_|refine wF rfl ?_|refine wt rfl ?_|refine wf rfl ?_|(refine wC rfl (fun h=>?_) (fun h=>?_)<;>(try contradiction))|((first|refine rd ?_|refine ry [] c0 fun nu _ _=>?_);simp -dsimp (disch:=omega) only[go_sem,put_oth hyr, put_oth hya])|refine e0 (by decide) ?_|(refine zA ?_ ?_;omega)|refine zA (of_eq_true PutAt_put) ?_|refine gT ?_|refine gF ?_|(refine gI (fun h=>?_) (fun h=>?_)<;>(try contradiction)<;>(try refine rd ?_)<;>(try simp -dsimp (disch:=omega) only[go_sem,h,put_oth hyr, put_oth hya]))|refine zX _ (zX _ (zA (zA rfl rfl) ?_)) |fail
    refine And.intro (fun hall => ?_) (fun i kv e h1 h2 h3 => ?_)
    · skip
      repeat' first |refine s1 ?_|refine gS ?_|refine wT rfl ?_|refine wF rfl ?_|refine wt rfl ?_|refine wf rfl ?_|(refine wC rfl (fun h=>?_) (fun h=>?_)<;>(try contradiction))|((first|refine rd ?_|refine ry [] c0 fun nu _ _=>?_);simp -dsimp (disch:=omega) only[go_sem])|refine e0 (by decide) ?_|(refine zA ?_ ?_;omega)|refine zA (of_eq_true PutAt_put) ?_|refine gT ?_|refine gF ?_|(refine gI (fun h=>?_) (fun h=>?_)<;>(try contradiction)<;>(try refine rd ?_)<;>(try simp -dsimp (disch:=omega) only[go_sem,h]))|refine zX _ (zX _ (zA (zA rfl rfl) ?_)) |fail
      refine ⟨(dl2 nRtr X Y L vs, en, ck), dl2_perm nRtr q hp (all_perm hnd hbd fun i hi => ?_), Env.Sub_of_has (by simp [Env.Has, Env.get, Env.putO]), ?_⟩
      · have hie : en[i]? = some en[i] := Array.getElem?_eq_getElem (by omega)
        exact (borns_has hst (fun j hj => by have := hbd j hj; omega) hie).1 (hall i _ hie)
      · rw [hC]; exact Sub_new (by rw [put_oth hra, put_oth hry, put_oth hrx]; exact hr)
    · obtain ⟨v, hv, rfl⟩ := entN_get nRtr eRtr Y i kv h1
      have hil : i < Y.length := (List.getElem?_eq_some_iff.1 hv).1
      have hvd : Y.getD i default = v := by rw [List.getD_eq_getElem?_getD, hv]; rfl
      have hiv : i ∉ vs := fun h => by
        rw [(borns_has hst (fun j hj => by have := hbd j hj; omega) h2).2 h] at h3; cases h3
      have hstay := dl2_stay nRtr q (Y := Y) hXn hp (ws := vs) (j := i)
      have hnew := dl2_new nRtr q hYn hp hbd hil hiv
      rw [hvd] at hnew hstay
      have hke := entN_keys (fun p : ByteArray × Bool => p.1) eD (dl2 nRtr X Y L vs)
      have hfC := entD_find (dl2 nRtr X Y L vs) v.name
      rw [show entN (fun p : ByteArray × Bool => p.1) eD (dl2 nRtr X Y L vs) = C from hC] at hke
      rw [hC] at hfC
      have hkX := entN_keys nRtr eRtr X
      have hfX := entN_find nRtr eRtr X v.name
      repeat' first |refine s1 ?_|refine gS ?_|refine wT rfl ?_|refine wF rfl ?_|refine wt rfl ?_|refine wf rfl ?_|(refine wC rfl (fun h=>?_) (fun h=>?_)<;>(try contradiction))|((first|refine rd ?_|refine ry [] c0 fun nu _ _=>?_);simp -dsimp (disch:=omega) only[go_sem,put_oth hyr, put_oth hya])|refine e0 (by decide) ?_|(refine zA ?_ ?_;omega)|refine zA (of_eq_true PutAt_put) ?_|refine gT ?_|refine gF ?_|(refine gI (fun h=>?_) (fun h=>?_)<;>(try contradiction)<;>(try refine rd ?_)<;>(try simp -dsimp (disch:=omega) only[go_sem,h,put_oth hyr, put_oth hya]))|refine zX _ (zX _ (zA (zA rfl rfl) ?_)) |fail
      refine ⟨i, _, e, bornsOf en vs, h1, h2, rfl, ?_⟩
      rw [borns_push en vs h2]
      have nxt : (vs ++ [i]).Nodup ∧ ∀ j, j ∈ vs ++ [i] → j < Y.length := ⟨by rw [List.nodup_append]; exact ⟨hnd, by simp, fun a ha b hb e => by simp at hb; subst hb; subst e; exact hiv ha⟩, fun j hj => by
        rcases List.mem_append.1 hj with hj | hj
        · exact hbd j hj
        · rw [List.mem_singleton.1 hj]; exact hil⟩
      have fin : ∀ (w : Nat) (V : Ob), ((((σ.put ox (.map (entN nRtr eRtr X))).put oy (.mapR (entN nRtr eRtr Y) en ck)).put oa (.map C)).put r (.iter oy en ck (bornsOf en (vs ++ [i])))) w = none →
          ∀ C', ((((σ.put ox (.map (entN nRtr eRtr X))).put oy (.mapR (entN nRtr eRtr Y) en ck)).put oa C').put r (.iter oy en ck (bornsOf en (vs ++ [i])))).Sub (((((σ.put ox (.map (entN nRtr eRtr X))).put oy (.mapR (entN nRtr eRtr Y) en ck)).put oa C').put r (.iter oy en ck (bornsOf en (vs ++ [i])))).put w V) := fun w V hw C' => by
        have hwr := alloc_ne hw
        rw [put_oth hwr] at hw
        have hwa := alloc_ne hw
        rw [put_oth hwa] at hw
        exact keep_new (fun _ _ h => h) (by rw [put_oth hwr, put_oth hwa]; exact hw)
      cases hh : hasN nRtr v.name X with
      | true =>
        obtain ⟨z, hz⟩ := has_find nRtr hh
        obtain ⟨hsame, bb, hbb⟩ := hstay hh
        have hset := entD_stay _ _ _ hbb
        rw [hC] at hset
        rw [show nRtr v = v.name from rfl] at hbb hset
        rw [hbb] at hfC
        rw [hz] at hfX
        simp only [Option.map_some] at hfC hfX
        simp -dsimp (disch:=omega) only[go_sem]
        repeat' first |((fail_if_success (first|show W _ _ (Code.seq (Code.region 13 _ _) _) _ _ _|show W _ _ (Code.seq (Code.seq (Code.region 13 _ _) _) _) _ _ _));refine s1 ?_)|refine gS ?_|refine wT rfl ?_|refine wF rfl ?_|refine wt rfl ?_|refine wf rfl ?_|(refine wC rfl (fun h=>?_) (fun h=>?_)<;>(try contradiction))|((fail_if_success (first|show W _ _ (Code.region 13 _ _) _ _ _));(first|refine rd ?_|refine ry [] c0 fun nu _ _=>?_);simp -dsimp (disch:=omega) only[go_sem,put_oth hxr, put_oth hxa, put_oth hxy, hkX, hfX, eRtr])|refine e0 (by decide) ?_|(refine zA ?_ ?_;omega)|refine zA (of_eq_true PutAt_put) ?_|refine gT ?_|refine gF ?_|(refine gI (fun h=>?_) (fun h=>?_)<;>(try contradiction)<;>(try refine rd ?_)<;>(try simp -dsimp (disch:=omega) only[go_sem,h,put_oth hxr, put_oth hxa, put_oth hxy, hkX, hfX, eRtr]))|refine zX _ (zX _ (zA (zA rfl rfl) ?_)) |fail
        intro w hw
        have hwr := alloc_ne hw
        have hwa := alloc_ne (by rw [put_oth hwr] at hw; exact hw)
        have haw : oa ≠ w := fun e => hwa e.symm
        cases bb with
        | true =>
          repeat' first |refine s1 ?_|refine gS ?_|refine wT rfl ?_|refine wF rfl ?_|refine wt rfl ?_|refine wf rfl ?_|(refine wC rfl (fun h=>?_) (fun h=>?_)<;>(try contradiction))|((first|refine rd ?_|refine ry [] c0 fun nu _ _=>?_);simp -dsimp (disch:=omega) only[go_sem,put_oth haw, put_oth har, put_swap haw, put_swap har, hke, hset, hfC])|refine e0 (by decide) ?_|(refine zA ?_ ?_;omega)|refine zA (of_eq_true PutAt_put) ?_|refine gT ?_|refine gF ?_|(refine gI (fun h=>?_) (fun h=>?_)<;>(try contradiction)<;>(try refine rd ?_)<;>(try simp -dsimp (disch:=omega) only[go_sem,h,put_oth haw, put_oth har, put_swap haw, put_swap har, hke, hset, hfC]))|refine zX _ (zX _ (zA (zA rfl rfl) ?_)) |fail
          exact ⟨vs ++ [i], lessV_lt hil hiv, nxt, Env.Sub_of_has (by simp [Env.Has, Env.get, Env.putO]), by rw [hsame, hC]; exact fin w _ hw _⟩
        | false =>
          repeat' first |refine s1 ?_|refine gS ?_|refine wT rfl ?_|refine wF rfl ?_|refine wt rfl ?_|refine wf rfl ?_|(refine wC rfl (fun h=>?_) (fun h=>?_)<;>(try contradiction))|((first|refine rd ?_|refine ry [] c0 fun nu _ _=>?_);simp -dsimp (disch:=omega) only[go_sem,put_oth haw, put_oth har, put_swap haw, put_swap har, hke, hset, hfC])|refine e0 (by decide) ?_|(refine zA ?_ ?_;omega)|refine zA (of_eq_true PutAt_put) ?_|refine gT ?_|refine gF ?_|(refine gI (fun h=>?_) (fun h=>?_)<;>(try contradiction)<;>(try refine rd ?_)<;>(try simp -dsimp (disch:=omega) only[go_sem,h,put_oth haw, put_oth har, put_swap haw, put_swap har, hke, hset, hfC]))|refine zX _ (zX _ (zA (zA rfl rfl) ?_)) |fail
          exact ⟨vs ++ [i], lessV_lt hil hiv, nxt, Env.Sub_of_has (by simp [Env.Has, Env.get, Env.putO]), by rw [hsame, hC]; exact fin w _ hw _⟩
      | false =>
        obtain ⟨hno, hsu⟩ := hnew hh
        have hset := entN_set (fun p : ByteArray × Bool => p.1) eD (dl2 nRtr X Y L vs) v.name (.bool true) hno
        rw [show entN (fun p : ByteArray × Bool => p.1) eD (dl2 nRtr X Y L vs) = C from hC] at hset
        rw [no_find (fun p : ByteArray × Bool => p.1) hno] at hfC
        rw [no_find nRtr hh] at hfX
        simp only [Option.map_none] at hfC hfX
        simp -dsimp (disch:=omega) only[go_sem]
        repeat' first |((fail_if_success (first|show W _ _ (Code.seq (Code.region 13 _ _) _) _ _ _|show W _ _ (Code.seq (Code.seq (Code.region 13 _ _) _) _) _ _ _));refine s1 ?_)|refine gS ?_|refine wT rfl ?_|refine wF rfl ?_|refine wt rfl ?_|refine wf rfl ?_|(refine wC rfl (fun h=>?_) (fun h=>?_)<;>(try contradiction))|((fail_if_success (first|show W _ _ (Code.region 13 _ _) _ _ _));(first|refine rd ?_|refine ry [] c0 fun nu _ _=>?_);simp -dsimp (disch:=omega) only[go_sem,put_oth hxr, put_oth hxa, put_oth hxy, hkX, hfX, eRtr])|refine e0 (by decide) ?_|(refine zA ?_ ?_;omega)|refine zA (of_eq_true PutAt_put) ?_|refine gT ?_|refine gF ?_|(refine gI (fun h=>?_) (fun h=>?_)<;>(try contradiction)<;>(try refine rd ?_)<;>(try simp -dsimp (disch:=omega) only[go_sem,h,put_oth hxr, put_oth hxa, put_oth hxy, hkX, hfX, eRtr]))|refine zX _ (zX _ (zA (zA rfl rfl) ?_)) |fail
        intro w hw
        have hwr := alloc_ne hw
        have hwa := alloc_ne (by rw [put_oth hwr] at hw; exact hw)
        have haw : oa ≠ w := fun e => hwa e.symm
        repeat' first |refine s1 ?_|refine gS ?_|refine wT rfl ?_|refine wF rfl ?_|refine wt rfl ?_|refine wf rfl ?_|(refine wC rfl (fun h=>?_) (fun h=>?_)<;>(try contradiction))|((first|refine rd ?_|refine ry [] c0 fun nu _ _=>?_);simp -dsimp (disch:=omega) only[go_sem,put_oth haw, put_oth har, put_swap haw, put_swap har, hke, hset, hfC])|refine e0 (by decide) ?_|(refine zA ?_ ?_;omega)|refine zA (of_eq_true PutAt_put) ?_|refine gT ?_|refine gF ?_|(refine gI (fun h=>?_) (fun h=>?_)<;>(try contradiction)<;>(try refine rd ?_)<;>(try simp -dsimp (disch:=omega) only[go_sem,h,put_oth haw, put_oth har, put_swap haw, put_swap har, hke, hset, hfC]))|refine zX _ (zX _ (zA (zA rfl rfl) ?_)) |fail
        exact ⟨vs ++ [i], lessV_lt hil hiv, nxt, Env.Sub_of_has (by simp [Env.Has, Env.get, Env.putO]), by rw [hsu, hC]; exact fin w _ hw _⟩
  rintro ⟨L', en, ck⟩ hp'
  simp only at hp' ⊢
  obtain ⟨S3, hS3⟩ : ∃ S, ((σ.put ox (.map (entN nRtr eRtr X))).put oy (.mapR (entN nRtr eRtr Y) en ck)).put oa (.map (entD L')) = S := ⟨_, rfl⟩
  have hoa3 : S3 oa = some (.map (entD L')) := by rw [← hS3]; exact put_same _ _ _
  have hsub3 : σ.Sub S3 := by rw [← hS3]; exact keep_new (keep_new (keep_new (fun _ _ h => h) hox) hoy) hoa
  rw [hS3]
  repeat' first |refine s1 ?_|refine gS ?_|refine wT rfl ?_|refine wF rfl ?_|refine wt rfl ?_|refine wf rfl ?_|(refine wC rfl (fun h=>?_) (fun h=>?_)<;>(try contradiction))|((first|refine rd ?_|refine ry [] c0 fun nu _ _=>?_);simp -dsimp (disch:=omega) only[go_sem])|refine e0 (by decide) ?_|(refine zA ?_ ?_;omega)|refine zA (of_eq_true PutAt_put) ?_|refine gT ?_|refine gF ?_|(refine gI (fun h=>?_) (fun h=>?_)<;>(try contradiction)<;>(try refine rd ?_)<;>(try simp -dsimp (disch:=omega) only[go_sem,h]))|refine zX _ (zX _ (zA (zA rfl rfl) ?_)) |fail
  refine PCall_use (keys_fn oa S3) ?_
  rintro _ _ ⟨bx, hbx, rfl, rfl⟩
  repeat' first |refine s1 ?_|refine gS ?_|refine wT rfl ?_|refine wF rfl ?_|refine wt rfl ?_|refine wf rfl ?_|(refine wC rfl (fun h=>?_) (fun h=>?_)<;>(try contradiction))|((first|refine rd ?_|refine ry [] c0 fun nu _ _=>?_);simp -dsimp (disch:=omega) only[go_sem])|refine e0 (by decide) ?_|(refine zA ?_ ?_;omega)|refine zA (of_eq_true PutAt_put) ?_|refine gT ?_|refine gF ?_|(refine gI (fun h=>?_) (fun h=>?_)<;>(try contradiction)<;>(try refine rd ?_)<;>(try simp -dsimp (disch:=omega) only[go_sem,h]))|refine zX _ (zX _ (zA (zA rfl rfl) ?_)) |fail
  have hbo : bx ≠ oa := fun e => by rw [e, hoa3] at hbx; cases hbx
  refine PCall_use (sorted_keys sortedOk (l := L'.map fun p => (p.1, AV.bool p.2)) (σ := S3.put bx (.arr 141 [.map oa])) (put_same _ _ _) (by rw [put_oth hbo.symm, hoa3, entD_l]) (by rw [List.length_map, hp'.length_eq]; omega) (fun p hp => by
    obtain ⟨x, hx, rfl⟩ := List.mem_map.1 hp
    have := hDs x (hp'.mem_iff.1 hx)
    simp only; omega)) ?_
  rintro _ _ ⟨⟨k0, rfl⟩, rfl⟩
  obtain ⟨D, hD⟩ : ∃ D, difD nRtr q X Y = D := ⟨_, rfl⟩
  rw [hD] at hp' hDl hDs ⊢
  have hDn : (D.map (·.1)).Nodup := by rw [← hD]; exact difD_nodup nRtr q hXn hYn
  have hLn : (L'.map (·.1)).Nodup := (hp'.map _).nodup_iff.2 hDn
  have hK0 : sortS ((L'.map fun p => (p.1, AV.bool p.2)).map (·.1)) = sortS (D.map (·.1)) := by
    rw [List.map_map]
    exact sortS_of_perm (hp'.map (fun p : ByteArray × Bool => p.1))
  rw [hK0]
  obtain ⟨K, hK⟩ : ∃ K, sortS (D.map (·.1)) = K := ⟨_, rfl⟩
  have hKp : K.Perm (D.map (·.1)) := by rw [← hK]; exact sortS_perm' _
  have hKl : K.length ≤ 2000 := by rw [hKp.length_eq, List.length_map]; exact hDl
  rw [hK]
  obtain ⟨S4, hS4⟩ : ∃ S, S3.put bx (.arr 141 [.map oa]) = S := ⟨_, rfl⟩
  have hoa4 : S4 oa = some (.map (entD L')) := by rw [← hS4, put_oth hbo.symm]; exact hoa3
  have hsub4 : σ.Sub S4 := by rw [← hS4]; exact keep_new hsub3 (none_of hsub3 hbx)
  have hke := entN_keys (fun p : ByteArray × Bool => p.1) eD L'
  rw [show entN (fun p : ByteArray × Bool => p.1) eD L' = entD L' from rfl] at hke
  rw [hS4]
  have hout : ∀ i, K.length ≤ i → encL AV.str ((K.filter fun s => lookD D s).map fun s => (word ++ ⟨#[32]⟩) ++ s) = outD word D K i := fun i hi => by rw [outD, List.take_of_length_le hi]
  rw [hout K.length (Nat.le_refl _)]
  clear hS3 hS4 hD hout
  repeat' first |((fail_if_success (first|show W _ _ (Code.seq (Code.region 5 _ _) _) _ _ _|show W _ _ (Code.seq (Code.seq (Code.region 5 _ _) _) _) _ _ _));refine s1 ?_)|refine gS ?_|refine wT rfl ?_|refine wF rfl ?_|refine wt rfl ?_|refine wf rfl ?_|(refine wC rfl (fun h=>?_) (fun h=>?_)<;>(try contradiction))|((fail_if_success (first|show W _ _ (Code.region 5 _ _) _ _ _));(first|refine rd ?_|refine ry [] c0 fun nu _ _=>?_);simp -dsimp (disch:=omega) only[go_sem])|refine e0 (by decide) ?_|(refine zA ?_ ?_;omega)|refine zA (of_eq_true PutAt_put) ?_|refine gT ?_|refine gF ?_|(refine gI (fun h=>?_) (fun h=>?_)<;>(try contradiction)<;>(try refine rd ?_)<;>(try simp -dsimp (disch:=omega) only[go_sem,h]))|refine zX _ (zX _ (zA (zA rfl rfl) ?_)) |fail
  refine W_loop_st (fun x : OutL => [(0, .str word), (14, .map oa), (22, .sl x.k (outD word D K x.i)), (80, .sl k0 (encL AV.str K)), (81, .int .i64 K.length), (82, .int .i64 x.i)]) (fun x => x.τ) (fun x => x.i ≤ K.length ∧ S4.Sub x.τ ∧ TipD S4 x.τ x.k (outD word D K x.i)) (fun x => K.length - x.i) ⟨0, .nil, S4⟩ ⟨Nat.zero_le _, Store.Sub.refl _, .inl ⟨rfl, rfl⟩⟩ (Env.Sub_of_has (by simp [Env.Has, Env.get, Env.putO, outD_zero, encL])) (Store.Sub.refl _) ?_
  rintro ⟨i, k, τ⟩ ⟨hi, hsub, htip⟩
  simp only at hi hsub htip ⊢
  have hoa5 := hsub _ _ hoa4
  by_cases hlt : i < K.length
  · obtain ⟨s, hs⟩ : ∃ s, K[i]? = some s := ⟨_, List.getElem?_eq_getElem hlt⟩
    have hget : (encL AV.str K).getD i .any = .str s := by rw [encL, List.getD_eq_getElem?_getD, List.getElem?_map, hs]; rfl
    have hmem := hKp.mem_iff.1 (List.mem_of_getElem? hs)
    obtain ⟨bb, hf, hlk⟩ := look_of hmem
    have hsz : s.size ≤ 1000 := by
      obtain ⟨p, hp, he⟩ := List.mem_map.1 hmem
      rw [← he]; exact hDs p hp
    have hfC := entD_find L' s
    rw [find_perm hp' hLn s, hf] at hfC
    simp only [Option.map_some] at hfC
    have hlen := outD_length word D K i
    have hok := outD_ok word D K i
    cases bb with
    | false =>
      have hF := outD_F (w := word) hs hlk
      repeat' first |refine s1 ?_|refine gS ?_|refine wT rfl ?_|refine wF rfl ?_|refine wt rfl ?_|refine wf rfl ?_|(refine wC rfl (fun h=>?_) (fun h=>?_)<;>(try contradiction))|((first|refine rd ?_|refine ry [] c0 fun nu _ _=>?_);simp -dsimp (disch:=omega) only[go_sem,hget, hoa5, hke, hfC])|refine e0 (by decide) ?_|(refine zA ?_ ?_;omega)|refine zA (of_eq_true PutAt_put) ?_|refine gT ?_|refine gF ?_|(refine gI (fun h=>?_) (fun h=>?_)<;>(try contradiction)<;>(try refine rd ?_)<;>(try simp -dsimp (disch:=omega) only[go_sem,h,hget, hoa5, hke, hfC]))|refine zX _ (zX _ (zA (zA rfl rfl) ?_)) |fail
      exact ⟨⟨i + 1, k, τ⟩, by simp only; omega, ⟨hlt, hsub, by simp only; rw [hF]; exact htip⟩, Env.Sub_of_has (by simp [Env.Has, Env.get, Env.putO, hF]), Store.Sub.refl _⟩
    | true =>
      have hT := outD_T (w := word) hs hlk
      have hTl := congrArg List.length hT
      rcases htip with ⟨rfl, hnil⟩ | ⟨t, rfl, jt, hts, hne⟩
      · rw [hnil] at hT hTl ⊢
        repeat' first |refine s1 ?_|refine gS ?_|refine wT rfl ?_|refine wF rfl ?_|refine wt rfl ?_|refine wf rfl ?_|(refine wC rfl (fun h=>?_) (fun h=>?_)<;>(try contradiction))|((first|refine rd ?_|refine ry [] c0 fun nu _ _=>?_);simp -dsimp (disch:=omega) only[go_sem,hget, hoa5, hke, hfC])|refine e0 (by decide) ?_|(refine zA ?_ ?_;omega)|refine zA (of_eq_true PutAt_put) ?_|refine gT ?_|refine gF ?_|(refine gI (fun h=>?_) (fun h=>?_)<;>(try contradiction)<;>(try refine rd ?_)<;>(try simp -dsimp (disch:=omega) only[go_sem,h,hget, hoa5, hke, hfC]))|refine zX _ (zX _ (zA (zA rfl rfl) ?_)) |fail
        refine ⟨by have h1 : (#[32] : Array UInt8).size = 1 := rfl; omega, by have h1 : (#[32] : Array UInt8).size = 1 := rfl; omega, ?_⟩
        intro t ht
        repeat' first |refine s1 ?_|refine gS ?_|refine wT rfl ?_|refine wF rfl ?_|refine wt rfl ?_|refine wf rfl ?_|(refine wC rfl (fun h=>?_) (fun h=>?_)<;>(try contradiction))|((first|refine rd ?_|refine ry [] c0 fun nu _ _=>?_);simp -dsimp (disch:=omega) only[go_sem])|refine e0 (by decide) ?_|(refine zA ?_ ?_;omega)|refine zA (of_eq_true PutAt_put) ?_|refine gT ?_|refine gF ?_|(refine gI (fun h=>?_) (fun h=>?_)<;>(try contradiction)<;>(try refine rd ?_)<;>(try simp -dsimp (disch:=omega) only[go_sem,h]))|refine zX _ (zX _ (zA (zA rfl rfl) ?_)) |fail
        exact ⟨⟨i + 1, .tip t, τ.put t (.tip 1 9 1)⟩, by simp only; omega, ⟨hlt, keep_new hsub (none_of hsub ht), .inr ⟨t, rfl, by rw [← hTl]; exact put_same _ _ _, none_of hsub ht, fun e => by simp only at e; rw [← hT] at e; simp at e⟩⟩, Env.Sub_of_has (by simp [Env.Has, Env.get, Env.putO, ← hT]), Store.Sub.refl _⟩
      · skip
        repeat' first |refine s1 ?_|refine gS ?_|refine wT rfl ?_|refine wF rfl ?_|refine wt rfl ?_|refine wf rfl ?_|(refine wC rfl (fun h=>?_) (fun h=>?_)<;>(try contradiction))|((first|refine rd ?_|refine ry [] c0 fun nu _ _=>?_);simp -dsimp (disch:=omega) only[go_sem,hget, hoa5, hke, hfC, jt, hok])|refine e0 (by decide) ?_|(refine zA ?_ ?_;omega)|refine zA (of_eq_true PutAt_put) ?_|refine gT ?_|refine gF ?_|(refine gI (fun h=>?_) (fun h=>?_)<;>(try contradiction)<;>(try refine rd ?_)<;>(try simp -dsimp (disch:=omega) only[go_sem,h,hget, hoa5, hke, hfC, jt, hok]))|refine zX _ (zX _ (zA (zA rfl rfl) ?_)) |fail
        refine ⟨by have h1 : (#[32] : Array UInt8).size = 1 := rfl; omega, by have h1 : (#[32] : Array UInt8).size = 1 := rfl; omega, ?_⟩
        repeat' first |refine s1 ?_|refine gS ?_|refine wT rfl ?_|refine wF rfl ?_|refine wt rfl ?_|refine wf rfl ?_|(refine wC rfl (fun h=>?_) (fun h=>?_)<;>(try contradiction))|((first|refine rd ?_|refine ry [] c0 fun nu _ _=>?_);simp -dsimp (disch:=omega) only[go_sem])|refine e0 (by decide) ?_|(refine zA ?_ ?_;omega)|refine zA (of_eq_true PutAt_put) ?_|refine gT ?_|refine gF ?_|(refine gI (fun h=>?_) (fun h=>?_)<;>(try contradiction)<;>(try refine rd ?_)<;>(try simp -dsimp (disch:=omega) only[go_sem,h]))|refine zX _ (zX _ (zA (zA rfl rfl) ?_)) |fail
        exact ⟨⟨i + 1, .tip t, τ.put t (.tip (outD word D K (i + 1)).length 9 1)⟩, by simp only; omega, ⟨hlt, keep_new hsub hts, .inr ⟨t, rfl, put_same _ _ _, hts, fun e => by simp only at e; rw [← hT] at e; simp at e⟩⟩, Env.Sub_of_has (by simp [Env.Has, Env.get, Env.putO, ← hT]), by rw [← hTl]; simp only [List.length_append, List.length_cons, List.length_nil]; exact Store.Sub.refl _⟩
  · have hi' : i = K.length := by omega
    subst hi'
    repeat' first |refine s1 ?_|refine gS ?_|refine wT rfl ?_|refine wF rfl ?_|refine wt rfl ?_|refine wf rfl ?_|(refine wC rfl (fun h=>?_) (fun h=>?_)<;>(try contradiction))|((first|refine rd ?_|refine ry [] c0 fun nu _ _=>?_);simp -dsimp (disch:=omega) only[go_sem])|refine e0 (by decide) ?_|(refine zA ?_ ?_;omega)|refine zA (of_eq_true PutAt_put) ?_|refine gT ?_|refine gF ?_|(refine gI (fun h=>?_) (fun h=>?_)<;>(try contradiction)<;>(try refine rd ?_)<;>(try simp -dsimp (disch:=omega) only[go_sem,h]))|refine zX _ (zX _ (zA (zA rfl rfl) ?_)) |fail
    refine ⟨σ, fun o x h => hsub _ _ (hsub4 _ _ h), ⟨k, rfl, ?_⟩, rfl⟩
    rcases htip with ⟨h1, h2⟩ | ⟨t, rfl, _, _, h2⟩
    · exact .inl ⟨h1, h2⟩
    · exact .inr ⟨rfl, h2⟩
theorem difRtr (sm : FuncId) (q : Rtr → Rtr → Bool) (word : ByteArray) (hw : word.size ≤ 1000) (ka kb : SK) (a b : List Rtr) (ha : a.length ≤ 1000) (hb : b.length ≤ 1000) (hq : ∀ x, x ∈ a → ∀ y, y ∈ b → Pure Tryz.prog sm [eRtr x, eRtr y] (.bool (q x y))) (hsa : ∀ x, x ∈ a → x.name.size ≤ 1000) (hsb : ∀ x, x ∈ b → x.name.size ≤ 1000) :
    Pure Tryz.prog 51 [.str word, .sl ka (encL eRtr a), .sl kb (encL eRtr b), .fn 39 [], .fn sm []] (.sl (kd (difS nRtr q word a b)) (encL AV.str (difS nRtr q word a b))) := by
  intro σ
  refine PCall_fin (difRtr0 sm q word hw ka kb a b ha hb hq hsa hsb σ) ?_
  rintro _ t ⟨⟨k, rfl, ⟨rfl, h2⟩ | ⟨h1, h2⟩⟩, rfl⟩
  · have h3 : difS nRtr q word a b = [] := by simpa [encL] using h2
    refine .as ⟨_, Store.Sub.refl _, ?_, rfl⟩
    rw [kd, if_pos h3]
  · have h3 : ¬ difS nRtr q word a b = [] := fun e => h2 (by rw [e]; rfl)
    refine .imm k _ rfl h1 ⟨_, Store.Sub.refl _, ?_, rfl⟩
    rw [kd, if_neg h3]
end Go.Proofs.YtaealcimocpnnaaGreat

namespace Go.Proofs.YtaealcimocpnnaaGreat
open Go.Kern Go.RowKit
theorem lens_eq {a b : Nat} (h : a = b) : ((a : Int) = (b : Int)) := by omega
theorem lens_ne {a b : Nat} (h : ¬ a = b) : ¬ ((a : Int) = (b : Int)) := by omega
set_option maxRecDepth 100000
set_option maxHeartbeats 4000000
attribute [local irreducible] PCall W
theorem rsameCls_spec (x y : Cls) (hx : x.s.Fits) (hy : y.s.Fits) : Pure Tryz.prog 44 [eCls x, eCls y] (.bool (qCls x y)) := by
  intro σ
  have ux := hx.pre
  have uy := hy.pre
  have u1 := rCom x.s.kA y.s.kA x.s.add y.s.add hx.add hy.add
  have u2 := rCom x.s.kD y.s.kD x.s.del y.s.del hx.del hy.del
  obtain ⟨Rm, hM⟩ : ∃ r, qCls x y = r := ⟨_, rfl⟩
  rw [hM]
  have hM : Rm = _ := hM.symm
  rw [qCls, show qMat x.m y.m = (decide (x.m.list = y.m.list) && (decide (x.m.path = y.m.path) && (decide (x.m.c.asn = y.m.c.asn) && decide (x.m.c.n = y.m.c.n)))) from rfl, qSet] at hM
  cases c1 : decide (x.n = y.n) with
  | false =>
    have hz : Rm = false := by rw [hM, c1]; simp
    rw [hz]
    refine PCall_q [.tmp 4] 109 Tryz.func44 (by rfl) rfl rfl rfl rfl ?_
    repeat' first |refine s1 ?_|refine gS ?_|refine wT rfl ?_|refine wF rfl ?_|refine wt rfl ?_|refine wf rfl ?_|(refine wC rfl (fun h=>?_) (fun h=>?_)<;>(try contradiction))|((first|refine rd ?_|refine ry [] c0 fun nu _ _=>?_);simp -dsimp (disch:=omega) only[go_sem,eCls, eMat, eChg, beq_dec, List.append_eq, c1])|refine e0 (by decide) ?_|(refine zA ?_ ?_;omega)|refine zA (of_eq_true PutAt_put) ?_|refine gT ?_|refine gF ?_|(refine gI (fun h=>?_) (fun h=>?_)<;>(try contradiction)<;>(try refine rd ?_)<;>(try simp -dsimp (disch:=omega) only[go_sem,h,eCls, eMat, eChg, beq_dec, List.append_eq, c1]))|refine zX _ (zX _ (zA (zA rfl rfl) ?_)) |fail
  | true =>
  rw [c1] at hM
  cases c2 : decide (x.permit = y.permit) with
  | false =>
    have hz : Rm = false := by rw [hM, c2]; simp
    rw [hz]
    refine PCall_q [.tmp 4] 109 Tryz.func44 (by rfl) rfl rfl rfl rfl ?_
    repeat' first |refine s1 ?_|refine gS ?_|refine wT rfl ?_|refine wF rfl ?_|refine wt rfl ?_|refine wf rfl ?_|(refine wC rfl (fun h=>?_) (fun h=>?_)<;>(try contradiction))|((first|refine rd ?_|refine ry [] c0 fun nu _ _=>?_);simp -dsimp (disch:=omega) only[go_sem,eCls, eMat, eChg, beq_dec, List.append_eq, c1, c2])|refine e0 (by decide) ?_|(refine zA ?_ ?_;omega)|refine zA (of_eq_true PutAt_put) ?_|refine gT ?_|refine gF ?_|(refine gI (fun h=>?_) (fun h=>?_)<;>(try contradiction)<;>(try refine rd ?_)<;>(try simp -dsimp (disch:=omega) only[go_sem,h,eCls, eMat, eChg, beq_dec, List.append_eq, c1, c2]))|refine zX _ (zX _ (zA (zA rfl rfl) ?_)) |fail
  | true =>
  rw [c2] at hM
  cases c3 : (decide (x.m.list = y.m.list) && (decide (x.m.path = y.m.path) && (decide (x.m.c.asn = y.m.c.asn) && decide (x.m.c.n = y.m.c.n)))) with
  | false =>
    have hz : Rm = false := by rw [hM, c3]; simp
    rw [hz]
    refine PCall_q [.tmp 4] 109 Tryz.func44 (by rfl) rfl rfl rfl rfl ?_
    repeat' first |refine s1 ?_|refine gS ?_|refine wT rfl ?_|refine wF rfl ?_|refine wt rfl ?_|refine wf rfl ?_|(refine wC rfl (fun h=>?_) (fun h=>?_)<;>(try contradiction))|((first|refine rd ?_|refine ry [] c0 fun nu _ _=>?_);simp -dsimp (disch:=omega) only[go_sem,eCls, eMat, eChg, beq_dec, List.append_eq, c1, c2, c3])|refine e0 (by decide) ?_|(refine zA ?_ ?_;omega)|refine zA (of_eq_true PutAt_put) ?_|refine gT ?_|refine gF ?_|(refine gI (fun h=>?_) (fun h=>?_)<;>(try contradiction)<;>(try refine rd ?_)<;>(try simp -dsimp (disch:=omega) only[go_sem,h,eCls, eMat, eChg, beq_dec, List.append_eq, c1, c2, c3]))|refine zX _ (zX _ (zA (zA rfl rfl) ?_)) |fail
  | true =>
  rw [c3] at hM
  cases c4 : decide (x.s.pref = y.s.pref) with
  | false =>
    have hz : Rm = false := by rw [hM, c4]; simp
    rw [hz]
    refine PCall_q [.tmp 4] 109 Tryz.func44 (by rfl) rfl rfl rfl rfl ?_
    repeat' first |refine s1 ?_|refine gS ?_|refine wT rfl ?_|refine wF rfl ?_|refine wt rfl ?_|refine wf rfl ?_|(refine wC rfl (fun h=>?_) (fun h=>?_)<;>(try contradiction))|((first|refine rd ?_|refine ry [] c0 fun nu _ _=>?_);simp -dsimp (disch:=omega) only[go_sem,eCls, eMat, eChg, beq_dec, List.append_eq, c1, c2, c3, c4])|refine e0 (by decide) ?_|(refine zA ?_ ?_;omega)|refine zA (of_eq_true PutAt_put) ?_|refine gT ?_|refine gF ?_|(refine gI (fun h=>?_) (fun h=>?_)<;>(try contradiction)<;>(try refine rd ?_)<;>(try simp -dsimp (disch:=omega) only[go_sem,h,eCls, eMat, eChg, beq_dec, List.append_eq, c1, c2, c3, c4]))|refine zX _ (zX _ (zA (zA rfl rfl) ?_)) |fail
  | true =>
  rw [c4] at hM
  cases c5 : decide (x.s.med = y.s.med) with
  | false =>
    have hz : Rm = false := by rw [hM, c5]; simp
    rw [hz]
    refine PCall_q [.tmp 4] 109 Tryz.func44 (by rfl) rfl rfl rfl rfl ?_
    repeat' first |refine s1 ?_|refine gS ?_|refine wT rfl ?_|refine wF rfl ?_|refine wt rfl ?_|refine wf rfl ?_|(refine wC rfl (fun h=>?_) (fun h=>?_)<;>(try contradiction))|((first|refine rd ?_|refine ry [] c0 fun nu _ _=>?_);simp -dsimp (disch:=omega) only[go_sem,eCls, eMat, eChg, beq_dec, List.append_eq, c1, c2, c3, c4, c5])|refine e0 (by decide) ?_|(refine zA ?_ ?_;omega)|refine zA (of_eq_true PutAt_put) ?_|refine gT ?_|refine gF ?_|(refine gI (fun h=>?_) (fun h=>?_)<;>(try contradiction)<;>(try refine rd ?_)<;>(try simp -dsimp (disch:=omega) only[go_sem,h,eCls, eMat, eChg, beq_dec, List.append_eq, c1, c2, c3, c4, c5]))|refine zX _ (zX _ (zA (zA rfl rfl) ?_)) |fail
  | true =>
  rw [c5] at hM
  cases c6 : decide (x.s.origin = y.s.origin) with
  | false =>
    have hz : Rm = false := by rw [hM, c6]; simp
    rw [hz]
    refine PCall_q [.tmp 4] 109 Tryz.func44 (by rfl) rfl rfl rfl rfl ?_
    repeat' first |refine s1 ?_|refine gS ?_|refine wT rfl ?_|refine wF rfl ?_|refine wt rfl ?_|refine wf rfl ?_|(refine wC rfl (fun h=>?_) (fun h=>?_)<;>(try contradiction))|((first|refine rd ?_|refine ry [] c0 fun nu _ _=>?_);simp -dsimp (disch:=omega) only[go_sem,eCls, eMat, eChg, beq_dec, List.append_eq, c1, c2, c3, c4, c5, c6])|refine e0 (by decide) ?_|(refine zA ?_ ?_;omega)|refine zA (of_eq_true PutAt_put) ?_|refine gT ?_|refine gF ?_|(refine gI (fun h=>?_) (fun h=>?_)<;>(try contradiction)<;>(try refine rd ?_)<;>(try simp -dsimp (disch:=omega) only[go_sem,h,eCls, eMat, eChg, beq_dec, List.append_eq, c1, c2, c3, c4, c5, c6]))|refine zX _ (zX _ (zA (zA rfl rfl) ?_)) |fail
  | true =>
  rw [c6] at hM
  cases c7 : decide (x.s.clear = y.s.clear) with
  | false =>
    have hz : Rm = false := by rw [hM, c7]; simp
    rw [hz]
    refine PCall_q [.tmp 4] 109 Tryz.func44 (by rfl) rfl rfl rfl rfl ?_
    repeat' first |refine s1 ?_|refine gS ?_|refine wT rfl ?_|refine wF rfl ?_|refine wt rfl ?_|refine wf rfl ?_|(refine wC rfl (fun h=>?_) (fun h=>?_)<;>(try contradiction))|((first|refine rd ?_|refine ry [] c0 fun nu _ _=>?_);simp -dsimp (disch:=omega) only[go_sem,eCls, eMat, eChg, beq_dec, List.append_eq, c1, c2, c3, c4, c5, c6, c7])|refine e0 (by decide) ?_|(refine zA ?_ ?_;omega)|refine zA (of_eq_true PutAt_put) ?_|refine gT ?_|refine gF ?_|(refine gI (fun h=>?_) (fun h=>?_)<;>(try contradiction)<;>(try refine rd ?_)<;>(try simp -dsimp (disch:=omega) only[go_sem,h,eCls, eMat, eChg, beq_dec, List.append_eq, c1, c2, c3, c4, c5, c6, c7]))|refine zX _ (zX _ (zA (zA rfl rfl) ?_)) |fail
  | true =>
  rw [c7] at hM
  by_cases c8 : x.s.pre.length = y.s.pre.length
  case neg =>
    have hz : Rm = false := by rw [hM, allS_len qInt c8]; simp
    have c8n := lens_ne c8
    rw [hz]
    refine PCall_q [.tmp 4] 109 Tryz.func44 (by rfl) rfl rfl rfl rfl ?_
    repeat' first |refine s1 ?_|refine gS ?_|refine wT rfl ?_|refine wF rfl ?_|refine wt rfl ?_|refine wf rfl ?_|(refine wC rfl (fun h=>?_) (fun h=>?_)<;>(try contradiction))|((first|refine rd ?_|refine ry [] c0 fun nu _ _=>?_);simp -dsimp (disch:=omega) only[go_sem,eCls, eMat, eChg, beq_dec, List.append_eq, c1, c2, c3, c4, c5, c6, c7, c8n])|refine e0 (by decide) ?_|(refine zA ?_ ?_;omega)|refine zA (of_eq_true PutAt_put) ?_|refine gT ?_|refine gF ?_|(refine gI (fun h=>?_) (fun h=>?_)<;>(try contradiction)<;>(try refine rd ?_)<;>(try simp -dsimp (disch:=omega) only[go_sem,h,eCls, eMat, eChg, beq_dec, List.append_eq, c1, c2, c3, c4, c5, c6, c7, c8n]))|refine zX _ (zX _ (zA (zA rfl rfl) ?_)) |fail
  have c8i := lens_eq c8
  refine PCall_q [.tmp 4] 109 Tryz.func44 (by rfl) rfl rfl rfl rfl ?_
  repeat' first |((fail_if_success (first|show W _ _ (Code.seq (Code.region 3 _ _) _) _ _ _|show W _ _ (Code.seq (Code.seq (Code.region 3 _ _) _) _) _ _ _));refine s1 ?_)|refine gS ?_|refine wT rfl ?_|refine wF rfl ?_|refine wt rfl ?_|refine wf rfl ?_|(refine wC rfl (fun h=>?_) (fun h=>?_)<;>(try contradiction))|((fail_if_success (first|show W _ _ (Code.region 3 _ _) _ _ _));(first|refine rd ?_|refine ry [] c0 fun nu _ _=>?_);simp -dsimp (disch:=omega) only[go_sem,eCls, eMat, eChg, beq_dec, List.append_eq, c1, c2, c3, c4, c5, c6, c7, c8i])|refine e0 (by decide) ?_|(refine zA ?_ ?_;omega)|refine zA (of_eq_true PutAt_put) ?_|refine gT ?_|refine gF ?_|(refine gI (fun h=>?_) (fun h=>?_)<;>(try contradiction)<;>(try refine rd ?_)<;>(try simp -dsimp (disch:=omega) only[go_sem,h,eCls, eMat, eChg, beq_dec, List.append_eq, c1, c2, c3, c4, c5, c6, c7, c8i]))|refine zX _ (zX _ (zA (zA rfl rfl) ?_)) |fail
  skip
  refine W_midE (fun _ : Unit => [(2, .ip (eCls x) 0), (3, .ip (eCls y) 0)]) (fun _ => σ) (fun _ => allS qInt x.s.pre y.s.pre = true) ?_ ?_
  · skip
    repeat' first |refine s1 ?_|refine gS ?_|refine wT rfl ?_|refine wF rfl ?_|refine wt rfl ?_|refine wf rfl ?_|(refine wC rfl (fun h=>?_) (fun h=>?_)<;>(try contradiction))|((first|refine rd ?_|refine ry [] c0 fun nu _ _=>?_);simp -dsimp (disch:=omega) only[go_sem])|refine e0 (by decide) ?_|(refine zA ?_ ?_;omega)|refine zA (of_eq_true PutAt_put) ?_|refine gT ?_|refine gF ?_|(refine gI (fun h=>?_) (fun h=>?_)<;>(try contradiction)<;>(try refine rd ?_)<;>(try simp -dsimp (disch:=omega) only[go_sem,h]))|refine zX _ (zX _ (zA (zA rfl rfl) ?_)) |fail
    refine W_loop_st (fun i : Nat => [(2, .ip (eCls x) 0), (3, .ip (eCls y) 0), (5, .int .i64 i)]) (fun _ => σ) (fun i => i ≤ x.s.pre.length ∧ allS qInt x.s.pre y.s.pre = allS qInt (x.s.pre.drop i) (y.s.pre.drop i)) (fun i => x.s.pre.length - i) 0 ⟨Nat.zero_le _, rfl⟩ (Env.Sub_of_has (by simp [Env.Has, Env.get, Env.putO, eCls])) (Store.Sub.refl _) ?_
    rintro i ⟨hi, hor⟩
    by_cases hlt : i < x.s.pre.length
    · have hlt2 : i < y.s.pre.length := by omega
      have ho := allS_drop qInt x.s.pre y.s.pre i hlt hlt2
      have mx := mem_getD hlt
      have my := mem_getD hlt2
      obtain ⟨u, hu⟩ : ∃ u, x.s.pre.getD i default = u := ⟨_, rfl⟩
      obtain ⟨v, hv⟩ : ∃ v, y.s.pre.getD i default = v := ⟨_, rfl⟩
      rw [hu] at mx
      rw [hv] at my
      rw [hu, hv] at ho
      obtain ⟨r, hr⟩ : ∃ r, qInt u v = r := ⟨_, rfl⟩
      rw [hr] at ho
      simp only [qInt] at hr
      cases r with
      | true =>
        repeat' first |refine s1 ?_|refine gS ?_|refine wT rfl ?_|refine wF rfl ?_|refine wt rfl ?_|refine wf rfl ?_|(refine wC rfl (fun h=>?_) (fun h=>?_)<;>(try contradiction))|((first|refine rd ?_|refine ry [] c0 fun nu _ _=>?_);simp -dsimp (disch:=omega) only[go_sem,eCls,  hu, hv, hr])|refine e0 (by decide) ?_|(refine zA ?_ ?_;omega)|refine zA (of_eq_true PutAt_put) ?_|refine gT ?_|refine gF ?_|(refine gI (fun h=>?_) (fun h=>?_)<;>(try contradiction)<;>(try refine rd ?_)<;>(try simp -dsimp (disch:=omega) only[go_sem,h,eCls,  hu, hv, hr]))|refine zX _ (zX _ (zA (zA rfl rfl) ?_)) |fail
        exact ⟨i + 1, by omega, ⟨by omega, by rw [hor, ho, Bool.true_and]⟩, Env.Sub_of_has (by simp [Env.Has, Env.get, Env.putO, eCls]), Store.Sub.refl _⟩
      | false =>
        have hz : Rm = false := by rw [hM, hor, ho]; simp
        rw [hz]
        repeat' first |refine s1 ?_|refine gS ?_|refine wT rfl ?_|refine wF rfl ?_|refine wt rfl ?_|refine wf rfl ?_|(refine wC rfl (fun h=>?_) (fun h=>?_)<;>(try contradiction))|((first|refine rd ?_|refine ry [] c0 fun nu _ _=>?_);simp -dsimp (disch:=omega) only[go_sem,eCls,  hu, hv, hr])|refine e0 (by decide) ?_|(refine zA ?_ ?_;omega)|refine zA (of_eq_true PutAt_put) ?_|refine gT ?_|refine gF ?_|(refine gI (fun h=>?_) (fun h=>?_)<;>(try contradiction)<;>(try refine rd ?_)<;>(try simp -dsimp (disch:=omega) only[go_sem,h,eCls,  hu, hv, hr]))|refine zX _ (zX _ (zA (zA rfl rfl) ?_)) |fail
    · have hi' : i = x.s.pre.length := by omega
      subst hi'
      repeat' first |refine s1 ?_|refine gS ?_|refine wT rfl ?_|refine wF rfl ?_|refine wt rfl ?_|refine wf rfl ?_|(refine wC rfl (fun h=>?_) (fun h=>?_)<;>(try contradiction))|((first|refine rd ?_|refine ry [] c0 fun nu _ _=>?_);simp -dsimp (disch:=omega) only[go_sem,eCls])|refine e0 (by decide) ?_|(refine zA ?_ ?_;omega)|refine zA (of_eq_true PutAt_put) ?_|refine gT ?_|refine gF ?_|(refine gI (fun h=>?_) (fun h=>?_)<;>(try contradiction)<;>(try refine rd ?_)<;>(try simp -dsimp (disch:=omega) only[go_sem,h,eCls]))|refine zX _ (zX _ (zA (zA rfl rfl) ?_)) |fail
      exact ⟨(), by rw [hor]; exact allS_end qInt x.s.pre y.s.pre (by omega), Env.Sub_of_has (by simp [Env.Has, Env.get, Env.putO, eCls]), Store.Sub.refl _⟩
  rintro _ n1
  rw [n1] at hM
  try simp only [Bool.true_and, Bool.and_true] at hM
  clear n1
  cases c1 : allS qCom x.s.add y.s.add with
  | false =>
    rw [c1] at hM u1
    rw [hM]
    repeat' first |refine s1 ?_|refine gS ?_|refine wT rfl ?_|refine wF rfl ?_|refine wt rfl ?_|refine wf rfl ?_|(refine wC rfl (fun h=>?_) (fun h=>?_)<;>(try contradiction))|((first|refine rd ?_|refine ry [] c0 fun nu _ _=>?_);simp -dsimp (disch:=omega) only[go_sem,eCls, eChg])|refine e0 (by decide) ?_|(refine zA ?_ ?_;omega)|refine zA (of_eq_true PutAt_put) ?_|refine gT ?_|refine gF ?_|(refine gI (fun h=>?_) (fun h=>?_)<;>(try contradiction)<;>(try refine rd ?_)<;>(try simp -dsimp (disch:=omega) only[go_sem,h,eCls, eChg]))|refine zX _ (zX _ (zA (zA rfl rfl) ?_)) |refine us (u1) ?_ |fail
  | true =>
    rw [c1] at hM u1
    rw [hM, Bool.true_and]
    repeat' first |refine s1 ?_|refine gS ?_|refine wT rfl ?_|refine wF rfl ?_|refine wt rfl ?_|refine wf rfl ?_|(refine wC rfl (fun h=>?_) (fun h=>?_)<;>(try contradiction))|((first|refine rd ?_|refine ry [] c0 fun nu _ _=>?_);simp -dsimp (disch:=omega) only[go_sem,eCls, eChg])|refine e0 (by decide) ?_|(refine zA ?_ ?_;omega)|refine zA (of_eq_true PutAt_put) ?_|refine gT ?_|refine gF ?_|(refine gI (fun h=>?_) (fun h=>?_)<;>(try contradiction)<;>(try refine rd ?_)<;>(try simp -dsimp (disch:=omega) only[go_sem,h,eCls, eChg]))|refine zX _ (zX _ (zA (zA rfl rfl) ?_)) |refine us (u1) ?_ |refine us (u2) ?_ |fail
theorem rsameRtr_spec (x y : Rtr) (hx : x.Fits) (hy : y.Fits) : Pure Tryz.prog 45 [eRtr x, eRtr y] (.bool (qRtr x y)) := by
  intro σ
  have v1 := hx.nbrs
  have v2 := hy.nbrs
  have v3 := hx.links
  have v4 := hy.links
  have u1 := rPfx x.kN y.kN x.nets y.nets hx.nets hy.nets
  obtain ⟨Rm, hM⟩ : ∃ r, qRtr x y = r := ⟨_, rfl⟩
  rw [hM]
  have hM : Rm = _ := hM.symm
  rw [qRtr] at hM
  cases c1 : decide (x.name = y.name) with
  | false =>
    have hz : Rm = false := by rw [hM, c1]; simp
    rw [hz]
    refine PCall_q [.tmp 4] 88 Tryz.func45 (by rfl) rfl rfl rfl rfl ?_
    repeat' first |refine s1 ?_|refine gS ?_|refine wT rfl ?_|refine wF rfl ?_|refine wt rfl ?_|refine wf rfl ?_|(refine wC rfl (fun h=>?_) (fun h=>?_)<;>(try contradiction))|((first|refine rd ?_|refine ry [] c0 fun nu _ _=>?_);simp -dsimp (disch:=omega) only[go_sem,eRtr, c1])|refine e0 (by decide) ?_|(refine zA ?_ ?_;omega)|refine zA (of_eq_true PutAt_put) ?_|refine gT ?_|refine gF ?_|(refine gI (fun h=>?_) (fun h=>?_)<;>(try contradiction)<;>(try refine rd ?_)<;>(try simp -dsimp (disch:=omega) only[go_sem,h,eRtr, c1]))|refine zX _ (zX _ (zA (zA rfl rfl) ?_)) |fail
  | true =>
  rw [c1] at hM
  cases c2 : decide (x.asn = y.asn) with
  | false =>
    have hz : Rm = false := by rw [hM, c2]; simp
    rw [hz]
    refine PCall_q [.tmp 4] 88 Tryz.func45 (by rfl) rfl rfl rfl rfl ?_
    repeat' first |refine s1 ?_|refine gS ?_|refine wT rfl ?_|refine wF rfl ?_|refine wt rfl ?_|refine wf rfl ?_|(refine wC rfl (fun h=>?_) (fun h=>?_)<;>(try contradiction))|((first|refine rd ?_|refine ry [] c0 fun nu _ _=>?_);simp -dsimp (disch:=omega) only[go_sem,eRtr, c1, c2])|refine e0 (by decide) ?_|(refine zA ?_ ?_;omega)|refine zA (of_eq_true PutAt_put) ?_|refine gT ?_|refine gF ?_|(refine gI (fun h=>?_) (fun h=>?_)<;>(try contradiction)<;>(try refine rd ?_)<;>(try simp -dsimp (disch:=omega) only[go_sem,h,eRtr, c1, c2]))|refine zX _ (zX _ (zA (zA rfl rfl) ?_)) |fail
  | true =>
  rw [c2] at hM
  cases c3 : decide (x.id = y.id) with
  | false =>
    have hz : Rm = false := by rw [hM, c3]; simp
    rw [hz]
    refine PCall_q [.tmp 4] 88 Tryz.func45 (by rfl) rfl rfl rfl rfl ?_
    repeat' first |refine s1 ?_|refine gS ?_|refine wT rfl ?_|refine wF rfl ?_|refine wt rfl ?_|refine wf rfl ?_|(refine wC rfl (fun h=>?_) (fun h=>?_)<;>(try contradiction))|((first|refine rd ?_|refine ry [] c0 fun nu _ _=>?_);simp -dsimp (disch:=omega) only[go_sem,eRtr, c1, c2, c3])|refine e0 (by decide) ?_|(refine zA ?_ ?_;omega)|refine zA (of_eq_true PutAt_put) ?_|refine gT ?_|refine gF ?_|(refine gI (fun h=>?_) (fun h=>?_)<;>(try contradiction)<;>(try refine rd ?_)<;>(try simp -dsimp (disch:=omega) only[go_sem,h,eRtr, c1, c2, c3]))|refine zX _ (zX _ (zA (zA rfl rfl) ?_)) |fail
  | true =>
  rw [c3] at hM
  cases c4 : allS qPfx x.nets y.nets with
  | false =>
    have hz : Rm = false := by rw [hM, c4]; simp
    rw [c4] at u1
    rw [hz]
    refine PCall_q [.tmp 4] 88 Tryz.func45 (by rfl) rfl rfl rfl rfl ?_
    repeat' first |refine s1 ?_|refine gS ?_|refine wT rfl ?_|refine wF rfl ?_|refine wt rfl ?_|refine wf rfl ?_|(refine wC rfl (fun h=>?_) (fun h=>?_)<;>(try contradiction))|((first|refine rd ?_|refine ry [] c0 fun nu _ _=>?_);simp -dsimp (disch:=omega) only[go_sem,eRtr, c1, c2, c3])|refine e0 (by decide) ?_|(refine zA ?_ ?_;omega)|refine zA (of_eq_true PutAt_put) ?_|refine gT ?_|refine gF ?_|(refine gI (fun h=>?_) (fun h=>?_)<;>(try contradiction)<;>(try refine rd ?_)<;>(try simp -dsimp (disch:=omega) only[go_sem,h,eRtr, c1, c2, c3]))|refine zX _ (zX _ (zA (zA rfl rfl) ?_)) |refine us (u1) ?_ |fail
  | true =>
  rw [c4] at hM u1
  by_cases c5 : x.nbrs.length = y.nbrs.length
  case neg =>
    have hz : Rm = false := by rw [hM, allS_len qNbr c5]; simp
    have c5n := lens_ne c5
    rw [hz]
    refine PCall_q [.tmp 4] 88 Tryz.func45 (by rfl) rfl rfl rfl rfl ?_
    repeat' first |refine s1 ?_|refine gS ?_|refine wT rfl ?_|refine wF rfl ?_|refine wt rfl ?_|refine wf rfl ?_|(refine wC rfl (fun h=>?_) (fun h=>?_)<;>(try contradiction))|((first|refine rd ?_|refine ry [] c0 fun nu _ _=>?_);simp -dsimp (disch:=omega) only[go_sem,eRtr, c1, c2, c3, c5n])|refine e0 (by decide) ?_|(refine zA ?_ ?_;omega)|refine zA (of_eq_true PutAt_put) ?_|refine gT ?_|refine gF ?_|(refine gI (fun h=>?_) (fun h=>?_)<;>(try contradiction)<;>(try refine rd ?_)<;>(try simp -dsimp (disch:=omega) only[go_sem,h,eRtr, c1, c2, c3, c5n]))|refine zX _ (zX _ (zA (zA rfl rfl) ?_)) |refine us (u1) ?_ |fail
  have c5i := lens_eq c5
  by_cases c6 : x.links.length = y.links.length
  case neg =>
    have hz : Rm = false := by rw [hM, allS_len qLnk c6]; simp
    have c6n := lens_ne c6
    rw [hz]
    refine PCall_q [.tmp 4] 88 Tryz.func45 (by rfl) rfl rfl rfl rfl ?_
    repeat' first |refine s1 ?_|refine gS ?_|refine wT rfl ?_|refine wF rfl ?_|refine wt rfl ?_|refine wf rfl ?_|(refine wC rfl (fun h=>?_) (fun h=>?_)<;>(try contradiction))|((first|refine rd ?_|refine ry [] c0 fun nu _ _=>?_);simp -dsimp (disch:=omega) only[go_sem,eRtr, c1, c2, c3, c5i, c6n])|refine e0 (by decide) ?_|(refine zA ?_ ?_;omega)|refine zA (of_eq_true PutAt_put) ?_|refine gT ?_|refine gF ?_|(refine gI (fun h=>?_) (fun h=>?_)<;>(try contradiction)<;>(try refine rd ?_)<;>(try simp -dsimp (disch:=omega) only[go_sem,h,eRtr, c1, c2, c3, c5i, c6n]))|refine zX _ (zX _ (zA (zA rfl rfl) ?_)) |refine us (u1) ?_ |fail
  have c6i := lens_eq c6
  refine PCall_q [.tmp 4] 88 Tryz.func45 (by rfl) rfl rfl rfl rfl ?_
  repeat' first |((fail_if_success (first|show W _ _ (Code.seq (Code.region 3 _ _) _) _ _ _|show W _ _ (Code.seq (Code.seq (Code.region 3 _ _) _) _) _ _ _));refine s1 ?_)|refine gS ?_|refine wT rfl ?_|refine wF rfl ?_|refine wt rfl ?_|refine wf rfl ?_|(refine wC rfl (fun h=>?_) (fun h=>?_)<;>(try contradiction))|((fail_if_success (first|show W _ _ (Code.region 3 _ _) _ _ _));(first|refine rd ?_|refine ry [] c0 fun nu _ _=>?_);simp -dsimp (disch:=omega) only[go_sem,eRtr, c1, c2, c3, c5i, c6i])|refine e0 (by decide) ?_|(refine zA ?_ ?_;omega)|refine zA (of_eq_true PutAt_put) ?_|refine gT ?_|refine gF ?_|(refine gI (fun h=>?_) (fun h=>?_)<;>(try contradiction)<;>(try refine rd ?_)<;>(try simp -dsimp (disch:=omega) only[go_sem,h,eRtr, c1, c2, c3, c5i, c6i]))|refine zX _ (zX _ (zA (zA rfl rfl) ?_)) |refine us (u1) ?_ |fail
  skip
  refine W_midE (fun _ : Unit => [(2, .ip (eRtr x) 0), (3, .ip (eRtr y) 0)]) (fun _ => σ) (fun _ => allS qNbr x.nbrs y.nbrs = true) ?_ ?_
  · skip
    repeat' first |refine s1 ?_|refine gS ?_|refine wT rfl ?_|refine wF rfl ?_|refine wt rfl ?_|refine wf rfl ?_|(refine wC rfl (fun h=>?_) (fun h=>?_)<;>(try contradiction))|((first|refine rd ?_|refine ry [] c0 fun nu _ _=>?_);simp -dsimp (disch:=omega) only[go_sem])|refine e0 (by decide) ?_|(refine zA ?_ ?_;omega)|refine zA (of_eq_true PutAt_put) ?_|refine gT ?_|refine gF ?_|(refine gI (fun h=>?_) (fun h=>?_)<;>(try contradiction)<;>(try refine rd ?_)<;>(try simp -dsimp (disch:=omega) only[go_sem,h]))|refine zX _ (zX _ (zA (zA rfl rfl) ?_)) |fail
    refine W_loop_st (fun i : Nat => [(2, .ip (eRtr x) 0), (3, .ip (eRtr y) 0), (5, .int .i64 i)]) (fun _ => σ) (fun i => i ≤ x.nbrs.length ∧ allS qNbr x.nbrs y.nbrs = allS qNbr (x.nbrs.drop i) (y.nbrs.drop i)) (fun i => x.nbrs.length - i) 0 ⟨Nat.zero_le _, rfl⟩ (Env.Sub_of_has (by simp [Env.Has, Env.get, Env.putO, eRtr])) (Store.Sub.refl _) ?_
    rintro i ⟨hi, hor⟩
    by_cases hlt : i < x.nbrs.length
    · have hlt2 : i < y.nbrs.length := by omega
      have ho := allS_drop qNbr x.nbrs y.nbrs i hlt hlt2
      have mx := mem_getD hlt
      have my := mem_getD hlt2
      obtain ⟨u, hu⟩ : ∃ u, x.nbrs.getD i default = u := ⟨_, rfl⟩
      obtain ⟨v, hv⟩ : ∃ v, y.nbrs.getD i default = v := ⟨_, rfl⟩
      rw [hu] at mx
      rw [hv] at my
      rw [hu, hv] at ho
      obtain ⟨r, hr⟩ : ∃ r, qNbr u v = r := ⟨_, rfl⟩
      rw [hr] at ho
      simp only [qNbr] at hr
      cases r with
      | true =>
        repeat' first |refine s1 ?_|refine gS ?_|refine wT rfl ?_|refine wF rfl ?_|refine wt rfl ?_|refine wf rfl ?_|(refine wC rfl (fun h=>?_) (fun h=>?_)<;>(try contradiction))|((first|refine rd ?_|refine ry [] c0 fun nu _ _=>?_);simp -dsimp (disch:=omega) only[go_sem,eRtr, eNbr, hu, hv, hr])|refine e0 (by decide) ?_|(refine zA ?_ ?_;omega)|refine zA (of_eq_true PutAt_put) ?_|refine gT ?_|refine gF ?_|(refine gI (fun h=>?_) (fun h=>?_)<;>(try contradiction)<;>(try refine rd ?_)<;>(try simp -dsimp (disch:=omega) only[go_sem,h,eRtr, eNbr, hu, hv, hr]))|refine zX _ (zX _ (zA (zA rfl rfl) ?_)) |fail
        exact ⟨i + 1, by omega, ⟨by omega, by rw [hor, ho, Bool.true_and]⟩, Env.Sub_of_has (by simp [Env.Has, Env.get, Env.putO, eRtr]), Store.Sub.refl _⟩
      | false =>
        have hz : Rm = false := by rw [hM, hor, ho]; simp
        rw [hz]
        repeat' first |refine s1 ?_|refine gS ?_|refine wT rfl ?_|refine wF rfl ?_|refine wt rfl ?_|refine wf rfl ?_|(refine wC rfl (fun h=>?_) (fun h=>?_)<;>(try contradiction))|((first|refine rd ?_|refine ry [] c0 fun nu _ _=>?_);simp -dsimp (disch:=omega) only[go_sem,eRtr, eNbr, hu, hv, hr])|refine e0 (by decide) ?_|(refine zA ?_ ?_;omega)|refine zA (of_eq_true PutAt_put) ?_|refine gT ?_|refine gF ?_|(refine gI (fun h=>?_) (fun h=>?_)<;>(try contradiction)<;>(try refine rd ?_)<;>(try simp -dsimp (disch:=omega) only[go_sem,h,eRtr, eNbr, hu, hv, hr]))|refine zX _ (zX _ (zA (zA rfl rfl) ?_)) |fail
    · have hi' : i = x.nbrs.length := by omega
      subst hi'
      repeat' first |refine s1 ?_|refine gS ?_|refine wT rfl ?_|refine wF rfl ?_|refine wt rfl ?_|refine wf rfl ?_|(refine wC rfl (fun h=>?_) (fun h=>?_)<;>(try contradiction))|((first|refine rd ?_|refine ry [] c0 fun nu _ _=>?_);simp -dsimp (disch:=omega) only[go_sem,eRtr])|refine e0 (by decide) ?_|(refine zA ?_ ?_;omega)|refine zA (of_eq_true PutAt_put) ?_|refine gT ?_|refine gF ?_|(refine gI (fun h=>?_) (fun h=>?_)<;>(try contradiction)<;>(try refine rd ?_)<;>(try simp -dsimp (disch:=omega) only[go_sem,h,eRtr]))|refine zX _ (zX _ (zA (zA rfl rfl) ?_)) |fail
      exact ⟨(), by rw [hor]; exact allS_end qNbr x.nbrs y.nbrs (by omega), Env.Sub_of_has (by simp [Env.Has, Env.get, Env.putO, eRtr]), Store.Sub.refl _⟩
  rintro _ n1
  rw [n1] at hM
  try simp only [Bool.true_and, Bool.and_true] at hM
  clear n1
  repeat' first |((fail_if_success (first|show W _ _ (Code.seq (Code.region 8 _ _) _) _ _ _|show W _ _ (Code.seq (Code.seq (Code.region 8 _ _) _) _) _ _ _));refine s1 ?_)|refine gS ?_|refine wT rfl ?_|refine wF rfl ?_|refine wt rfl ?_|refine wf rfl ?_|(refine wC rfl (fun h=>?_) (fun h=>?_)<;>(try contradiction))|((fail_if_success (first|show W _ _ (Code.region 8 _ _) _ _ _));(first|refine rd ?_|refine ry [] c0 fun nu _ _=>?_);simp -dsimp (disch:=omega) only[go_sem])|refine e0 (by decide) ?_|(refine zA ?_ ?_;omega)|refine zA (of_eq_true PutAt_put) ?_|refine gT ?_|refine gF ?_|(refine gI (fun h=>?_) (fun h=>?_)<;>(try contradiction)<;>(try refine rd ?_)<;>(try simp -dsimp (disch:=omega) only[go_sem,h]))|refine zX _ (zX _ (zA (zA rfl rfl) ?_)) |fail
  refine W_midE (fun _ : Unit => [(2, .ip (eRtr x) 0), (3, .ip (eRtr y) 0)]) (fun _ => σ) (fun _ => allS qLnk x.links y.links = true) ?_ ?_
  · skip
    repeat' first |refine s1 ?_|refine gS ?_|refine wT rfl ?_|refine wF rfl ?_|refine wt rfl ?_|refine wf rfl ?_|(refine wC rfl (fun h=>?_) (fun h=>?_)<;>(try contradiction))|((first|refine rd ?_|refine ry [] c0 fun nu _ _=>?_);simp -dsimp (disch:=omega) only[go_sem])|refine e0 (by decide) ?_|(refine zA ?_ ?_;omega)|refine zA (of_eq_true PutAt_put) ?_|refine gT ?_|refine gF ?_|(refine gI (fun h=>?_) (fun h=>?_)<;>(try contradiction)<;>(try refine rd ?_)<;>(try simp -dsimp (disch:=omega) only[go_sem,h]))|refine zX _ (zX _ (zA (zA rfl rfl) ?_)) |fail
    refine W_loop_st (fun i : Nat => [(2, .ip (eRtr x) 0), (3, .ip (eRtr y) 0), (6, .int .i64 i)]) (fun _ => σ) (fun i => i ≤ x.links.length ∧ allS qLnk x.links y.links = allS qLnk (x.links.drop i) (y.links.drop i)) (fun i => x.links.length - i) 0 ⟨Nat.zero_le _, rfl⟩ (Env.Sub_of_has (by simp [Env.Has, Env.get, Env.putO, eRtr])) (Store.Sub.refl _) ?_
    rintro i ⟨hi, hor⟩
    by_cases hlt : i < x.links.length
    · have hlt2 : i < y.links.length := by omega
      have ho := allS_drop qLnk x.links y.links i hlt hlt2
      have mx := mem_getD hlt
      have my := mem_getD hlt2
      obtain ⟨u, hu⟩ : ∃ u, x.links.getD i default = u := ⟨_, rfl⟩
      obtain ⟨v, hv⟩ : ∃ v, y.links.getD i default = v := ⟨_, rfl⟩
      rw [hu] at mx
      rw [hv] at my
      rw [hu, hv] at ho
      obtain ⟨r, hr⟩ : ∃ r, qLnk u v = r := ⟨_, rfl⟩
      rw [hr] at ho
      simp only [qLnk] at hr
      cases r with
      | true =>
        repeat' first |refine s1 ?_|refine gS ?_|refine wT rfl ?_|refine wF rfl ?_|refine wt rfl ?_|refine wf rfl ?_|(refine wC rfl (fun h=>?_) (fun h=>?_)<;>(try contradiction))|((first|refine rd ?_|refine ry [] c0 fun nu _ _=>?_);simp -dsimp (disch:=omega) only[go_sem,eRtr, eLnk, hu, hv, hr])|refine e0 (by decide) ?_|(refine zA ?_ ?_;omega)|refine zA (of_eq_true PutAt_put) ?_|refine gT ?_|refine gF ?_|(refine gI (fun h=>?_) (fun h=>?_)<;>(try contradiction)<;>(try refine rd ?_)<;>(try simp -dsimp (disch:=omega) only[go_sem,h,eRtr, eLnk, hu, hv, hr]))|refine zX _ (zX _ (zA (zA rfl rfl) ?_)) |fail
        exact ⟨i + 1, by omega, ⟨by omega, by rw [hor, ho, Bool.true_and]⟩, Env.Sub_of_has (by simp [Env.Has, Env.get, Env.putO, eRtr]), Store.Sub.refl _⟩
      | false =>
        have hz : Rm = false := by rw [hM, hor, ho]; simp
        rw [hz]
        repeat' first |refine s1 ?_|refine gS ?_|refine wT rfl ?_|refine wF rfl ?_|refine wt rfl ?_|refine wf rfl ?_|(refine wC rfl (fun h=>?_) (fun h=>?_)<;>(try contradiction))|((first|refine rd ?_|refine ry [] c0 fun nu _ _=>?_);simp -dsimp (disch:=omega) only[go_sem,eRtr, eLnk, hu, hv, hr])|refine e0 (by decide) ?_|(refine zA ?_ ?_;omega)|refine zA (of_eq_true PutAt_put) ?_|refine gT ?_|refine gF ?_|(refine gI (fun h=>?_) (fun h=>?_)<;>(try contradiction)<;>(try refine rd ?_)<;>(try simp -dsimp (disch:=omega) only[go_sem,h,eRtr, eLnk, hu, hv, hr]))|refine zX _ (zX _ (zA (zA rfl rfl) ?_)) |fail
    · have hi' : i = x.links.length := by omega
      subst hi'
      repeat' first |refine s1 ?_|refine gS ?_|refine wT rfl ?_|refine wF rfl ?_|refine wt rfl ?_|refine wf rfl ?_|(refine wC rfl (fun h=>?_) (fun h=>?_)<;>(try contradiction))|((first|refine rd ?_|refine ry [] c0 fun nu _ _=>?_);simp -dsimp (disch:=omega) only[go_sem,eRtr])|refine e0 (by decide) ?_|(refine zA ?_ ?_;omega)|refine zA (of_eq_true PutAt_put) ?_|refine gT ?_|refine gF ?_|(refine gI (fun h=>?_) (fun h=>?_)<;>(try contradiction)<;>(try refine rd ?_)<;>(try simp -dsimp (disch:=omega) only[go_sem,h,eRtr]))|refine zX _ (zX _ (zA (zA rfl rfl) ?_)) |fail
      exact ⟨(), by rw [hor]; exact allS_end qLnk x.links y.links (by omega), Env.Sub_of_has (by simp [Env.Has, Env.get, Env.putO, eRtr]), Store.Sub.refl _⟩
  rintro _ n1
  rw [n1] at hM
  try simp only [Bool.true_and, Bool.and_true] at hM
  clear n1
  rw [hM]
  repeat' first |refine s1 ?_|refine gS ?_|refine wT rfl ?_|refine wF rfl ?_|refine wt rfl ?_|refine wf rfl ?_|(refine wC rfl (fun h=>?_) (fun h=>?_)<;>(try contradiction))|((first|refine rd ?_|refine ry [] c0 fun nu _ _=>?_);simp -dsimp (disch:=omega) only[go_sem])|refine e0 (by decide) ?_|(refine zA ?_ ?_;omega)|refine zA (of_eq_true PutAt_put) ?_|refine gT ?_|refine gF ?_|(refine gI (fun h=>?_) (fun h=>?_)<;>(try contradiction)<;>(try refine rd ?_)<;>(try simp -dsimp (disch:=omega) only[go_sem,h]))|refine zX _ (zX _ (zA (zA rfl rfl) ?_)) |fail
theorem rsame_spec (x y : Cfg) (hx : x.Fits) (hy : y.Fits) : Pure Tryz.prog 15 [eCfg x, eCfg y] (.bool (qCfg x y)) := by
  intro σ
  have v1 := hx.lists
  have v2 := hy.lists
  have v3 := hx.maps
  have v4 := hy.maps
  have v5 := hx.routers
  have v6 := hy.routers
  obtain ⟨Rm, hM⟩ : ∃ r, qCfg x y = r := ⟨_, rfl⟩
  rw [hM]
  have hM : Rm = _ := hM.symm
  rw [qCfg] at hM
  by_cases c1 : x.lists.length = y.lists.length
  case neg =>
    have hz : Rm = false := by rw [hM, allS_len qLst c1]; simp
    have c1n := lens_ne c1
    rw [hz]
    refine PCall_q [.tmp 4] 157 Tryz.func15 (by rfl) rfl rfl rfl rfl ?_
    repeat' first |refine s1 ?_|refine gS ?_|refine wT rfl ?_|refine wF rfl ?_|refine wt rfl ?_|refine wf rfl ?_|(refine wC rfl (fun h=>?_) (fun h=>?_)<;>(try contradiction))|((first|refine rd ?_|refine ry [] c0 fun nu _ _=>?_);simp -dsimp (disch:=omega) only[go_sem,eCfg, c1n])|refine e0 (by decide) ?_|(refine zA ?_ ?_;omega)|refine zA (of_eq_true PutAt_put) ?_|refine gT ?_|refine gF ?_|(refine gI (fun h=>?_) (fun h=>?_)<;>(try contradiction)<;>(try refine rd ?_)<;>(try simp -dsimp (disch:=omega) only[go_sem,h,eCfg, c1n]))|refine zX _ (zX _ (zA (zA rfl rfl) ?_)) |fail
  have c1i := lens_eq c1
  by_cases c2 : x.maps.length = y.maps.length
  case neg =>
    have hz : Rm = false := by rw [hM, allS_len qMap c2]; simp
    have c2n := lens_ne c2
    rw [hz]
    refine PCall_q [.tmp 4] 157 Tryz.func15 (by rfl) rfl rfl rfl rfl ?_
    repeat' first |refine s1 ?_|refine gS ?_|refine wT rfl ?_|refine wF rfl ?_|refine wt rfl ?_|refine wf rfl ?_|(refine wC rfl (fun h=>?_) (fun h=>?_)<;>(try contradiction))|((first|refine rd ?_|refine ry [] c0 fun nu _ _=>?_);simp -dsimp (disch:=omega) only[go_sem,eCfg, c1i, c2n])|refine e0 (by decide) ?_|(refine zA ?_ ?_;omega)|refine zA (of_eq_true PutAt_put) ?_|refine gT ?_|refine gF ?_|(refine gI (fun h=>?_) (fun h=>?_)<;>(try contradiction)<;>(try refine rd ?_)<;>(try simp -dsimp (disch:=omega) only[go_sem,h,eCfg, c1i, c2n]))|refine zX _ (zX _ (zA (zA rfl rfl) ?_)) |fail
  have c2i := lens_eq c2
  by_cases c3 : x.routers.length = y.routers.length
  case neg =>
    have hz : Rm = false := by rw [hM, allS_len qRtr c3]; simp
    have c3n := lens_ne c3
    rw [hz]
    refine PCall_q [.tmp 4] 157 Tryz.func15 (by rfl) rfl rfl rfl rfl ?_
    repeat' first |refine s1 ?_|refine gS ?_|refine wT rfl ?_|refine wF rfl ?_|refine wt rfl ?_|refine wf rfl ?_|(refine wC rfl (fun h=>?_) (fun h=>?_)<;>(try contradiction))|((first|refine rd ?_|refine ry [] c0 fun nu _ _=>?_);simp -dsimp (disch:=omega) only[go_sem,eCfg, c1i, c2i, c3n])|refine e0 (by decide) ?_|(refine zA ?_ ?_;omega)|refine zA (of_eq_true PutAt_put) ?_|refine gT ?_|refine gF ?_|(refine gI (fun h=>?_) (fun h=>?_)<;>(try contradiction)<;>(try refine rd ?_)<;>(try simp -dsimp (disch:=omega) only[go_sem,h,eCfg, c1i, c2i, c3n]))|refine zX _ (zX _ (zA (zA rfl rfl) ?_)) |fail
  have c3i := lens_eq c3
  refine PCall_q [.tmp 4] 157 Tryz.func15 (by rfl) rfl rfl rfl rfl ?_
  repeat' first |((fail_if_success (first|show W _ _ (Code.seq (Code.region 3 _ _) _) _ _ _|show W _ _ (Code.seq (Code.seq (Code.region 3 _ _) _) _) _ _ _));refine s1 ?_)|refine gS ?_|refine wT rfl ?_|refine wF rfl ?_|refine wt rfl ?_|refine wf rfl ?_|(refine wC rfl (fun h=>?_) (fun h=>?_)<;>(try contradiction))|((fail_if_success (first|show W _ _ (Code.region 3 _ _) _ _ _));(first|refine rd ?_|refine ry [] c0 fun nu _ _=>?_);simp -dsimp (disch:=omega) only[go_sem,eCfg, c1i, c2i, c3i])|refine e0 (by decide) ?_|(refine zA ?_ ?_;omega)|refine zA (of_eq_true PutAt_put) ?_|refine gT ?_|refine gF ?_|(refine gI (fun h=>?_) (fun h=>?_)<;>(try contradiction)<;>(try refine rd ?_)<;>(try simp -dsimp (disch:=omega) only[go_sem,h,eCfg, c1i, c2i, c3i]))|refine zX _ (zX _ (zA (zA rfl rfl) ?_)) |fail
  skip
  refine W_midE (fun _ : Unit => [(2, .ip (eCfg x) 0), (3, .ip (eCfg y) 0)]) (fun _ => σ) (fun _ => allS qLst x.lists y.lists = true) ?_ ?_
  · skip
    repeat' first |refine s1 ?_|refine gS ?_|refine wT rfl ?_|refine wF rfl ?_|refine wt rfl ?_|refine wf rfl ?_|(refine wC rfl (fun h=>?_) (fun h=>?_)<;>(try contradiction))|((first|refine rd ?_|refine ry [] c0 fun nu _ _=>?_);simp -dsimp (disch:=omega) only[go_sem])|refine e0 (by decide) ?_|(refine zA ?_ ?_;omega)|refine zA (of_eq_true PutAt_put) ?_|refine gT ?_|refine gF ?_|(refine gI (fun h=>?_) (fun h=>?_)<;>(try contradiction)<;>(try refine rd ?_)<;>(try simp -dsimp (disch:=omega) only[go_sem,h]))|refine zX _ (zX _ (zA (zA rfl rfl) ?_)) |fail
    refine W_loop_st (fun i : Nat => [(2, .ip (eCfg x) 0), (3, .ip (eCfg y) 0), (5, .int .i64 i)]) (fun _ => σ) (fun i => i ≤ x.lists.length ∧ allS qLst x.lists y.lists = allS qLst (x.lists.drop i) (y.lists.drop i)) (fun i => x.lists.length - i) 0 ⟨Nat.zero_le _, rfl⟩ (Env.Sub_of_has (by simp [Env.Has, Env.get, Env.putO, eCfg])) (Store.Sub.refl _) ?_
    rintro i ⟨hi, hor⟩
    by_cases hlt : i < x.lists.length
    · have hlt2 : i < y.lists.length := by omega
      have ho := allS_drop qLst x.lists y.lists i hlt hlt2
      have mx := mem_getD hlt
      have my := mem_getD hlt2
      obtain ⟨u, hu⟩ : ∃ u, x.lists.getD i default = u := ⟨_, rfl⟩
      obtain ⟨v, hv⟩ : ∃ v, y.lists.getD i default = v := ⟨_, rfl⟩
      rw [hu] at mx
      rw [hv] at my
      rw [hu, hv] at ho
      have hxe : (encL eLst x.lists).getD i .any = eLst u := by rw [← hu]; exact getD_encL eLst hlt
      have hye : (encL eLst y.lists).getD i .any = eLst v := by rw [← hv]; exact getD_encL eLst hlt2
      have w1 := rRng u.k v.k u.l v.l (hx.lst u mx).1 (hy.lst v my).1
      rw [show qLst u v = (decide (u.name = v.name) && allS qRng u.l v.l) from rfl] at ho
      cases c1 : decide (u.name = v.name) with
      | false =>
        have hz : Rm = false := by rw [hM, hor, ho, c1]; simp
        rw [hz]
        repeat' first |refine s1 ?_|refine gS ?_|refine wT rfl ?_|refine wF rfl ?_|refine wt rfl ?_|refine wf rfl ?_|(refine wC rfl (fun h=>?_) (fun h=>?_)<;>(try contradiction))|((first|refine rd ?_|refine ry [] c0 fun nu _ _=>?_);simp -dsimp (disch:=omega) only[go_sem,eCfg, hxe, hye, eLst, c1])|refine e0 (by decide) ?_|(refine zA ?_ ?_;omega)|refine zA (of_eq_true PutAt_put) ?_|refine gT ?_|refine gF ?_|(refine gI (fun h=>?_) (fun h=>?_)<;>(try contradiction)<;>(try refine rd ?_)<;>(try simp -dsimp (disch:=omega) only[go_sem,h,eCfg, hxe, hye, eLst, c1]))|refine zX _ (zX _ (zA (zA rfl rfl) ?_)) |fail
      | true =>
      rw [c1, Bool.true_and] at ho
      cases c2 : allS qRng u.l v.l with
      | false =>
        have hz : Rm = false := by rw [hM, hor, ho, c2]; simp
        rw [c2] at w1
        rw [hz]
        repeat' first |refine s1 ?_|refine gS ?_|refine wT rfl ?_|refine wF rfl ?_|refine wt rfl ?_|refine wf rfl ?_|(refine wC rfl (fun h=>?_) (fun h=>?_)<;>(try contradiction))|((first|refine rd ?_|refine ry [] c0 fun nu _ _=>?_);simp -dsimp (disch:=omega) only[go_sem,eCfg, hxe, hye, eLst, c1])|refine e0 (by decide) ?_|(refine zA ?_ ?_;omega)|refine zA (of_eq_true PutAt_put) ?_|refine gT ?_|refine gF ?_|(refine gI (fun h=>?_) (fun h=>?_)<;>(try contradiction)<;>(try refine rd ?_)<;>(try simp -dsimp (disch:=omega) only[go_sem,h,eCfg, hxe, hye, eLst, c1]))|refine zX _ (zX _ (zA (zA rfl rfl) ?_)) |refine us (w1) ?_ |fail
      | true =>
        rw [c2] at w1 ho
        repeat' first |refine s1 ?_|refine gS ?_|refine wT rfl ?_|refine wF rfl ?_|refine wt rfl ?_|refine wf rfl ?_|(refine wC rfl (fun h=>?_) (fun h=>?_)<;>(try contradiction))|((first|refine rd ?_|refine ry [] c0 fun nu _ _=>?_);simp -dsimp (disch:=omega) only[go_sem,eCfg, hxe, hye, eLst, c1])|refine e0 (by decide) ?_|(refine zA ?_ ?_;omega)|refine zA (of_eq_true PutAt_put) ?_|refine gT ?_|refine gF ?_|(refine gI (fun h=>?_) (fun h=>?_)<;>(try contradiction)<;>(try refine rd ?_)<;>(try simp -dsimp (disch:=omega) only[go_sem,h,eCfg, hxe, hye, eLst, c1]))|refine zX _ (zX _ (zA (zA rfl rfl) ?_)) |refine us (w1) ?_ |fail
        exact ⟨i + 1, by omega, ⟨by omega, by rw [hor, ho, Bool.true_and]⟩, Env.Sub_of_has (by simp [Env.Has, Env.get, Env.putO, eCfg]), Store.Sub.refl _⟩
    · have hi' : i = x.lists.length := by omega
      subst hi'
      repeat' first |refine s1 ?_|refine gS ?_|refine wT rfl ?_|refine wF rfl ?_|refine wt rfl ?_|refine wf rfl ?_|(refine wC rfl (fun h=>?_) (fun h=>?_)<;>(try contradiction))|((first|refine rd ?_|refine ry [] c0 fun nu _ _=>?_);simp -dsimp (disch:=omega) only[go_sem,eCfg])|refine e0 (by decide) ?_|(refine zA ?_ ?_;omega)|refine zA (of_eq_true PutAt_put) ?_|refine gT ?_|refine gF ?_|(refine gI (fun h=>?_) (fun h=>?_)<;>(try contradiction)<;>(try refine rd ?_)<;>(try simp -dsimp (disch:=omega) only[go_sem,h,eCfg]))|refine zX _ (zX _ (zA (zA rfl rfl) ?_)) |fail
      exact ⟨(), by rw [hor]; exact allS_end qLst x.lists y.lists (by omega), Env.Sub_of_has (by simp [Env.Has, Env.get, Env.putO, eCfg]), Store.Sub.refl _⟩
  rintro _ n1
  rw [n1] at hM
  try simp only [Bool.true_and, Bool.and_true] at hM
  clear n1
  repeat' first |((fail_if_success (first|show W _ _ (Code.seq (Code.region 8 _ _) _) _ _ _|show W _ _ (Code.seq (Code.seq (Code.region 8 _ _) _) _) _ _ _));refine s1 ?_)|refine gS ?_|refine wT rfl ?_|refine wF rfl ?_|refine wt rfl ?_|refine wf rfl ?_|(refine wC rfl (fun h=>?_) (fun h=>?_)<;>(try contradiction))|((fail_if_success (first|show W _ _ (Code.region 8 _ _) _ _ _));(first|refine rd ?_|refine ry [] c0 fun nu _ _=>?_);simp -dsimp (disch:=omega) only[go_sem])|refine e0 (by decide) ?_|(refine zA ?_ ?_;omega)|refine zA (of_eq_true PutAt_put) ?_|refine gT ?_|refine gF ?_|(refine gI (fun h=>?_) (fun h=>?_)<;>(try contradiction)<;>(try refine rd ?_)<;>(try simp -dsimp (disch:=omega) only[go_sem,h]))|refine zX _ (zX _ (zA (zA rfl rfl) ?_)) |fail
  refine W_midE (fun _ : Unit => [(2, .ip (eCfg x) 0), (3, .ip (eCfg y) 0)]) (fun _ => σ) (fun _ => allS qMap x.maps y.maps = true) ?_ ?_
  · skip
    repeat' first |refine s1 ?_|refine gS ?_|refine wT rfl ?_|refine wF rfl ?_|refine wt rfl ?_|refine wf rfl ?_|(refine wC rfl (fun h=>?_) (fun h=>?_)<;>(try contradiction))|((first|refine rd ?_|refine ry [] c0 fun nu _ _=>?_);simp -dsimp (disch:=omega) only[go_sem])|refine e0 (by decide) ?_|(refine zA ?_ ?_;omega)|refine zA (of_eq_true PutAt_put) ?_|refine gT ?_|refine gF ?_|(refine gI (fun h=>?_) (fun h=>?_)<;>(try contradiction)<;>(try refine rd ?_)<;>(try simp -dsimp (disch:=omega) only[go_sem,h]))|refine zX _ (zX _ (zA (zA rfl rfl) ?_)) |fail
    refine W_loop_st (fun i : Nat => [(2, .ip (eCfg x) 0), (3, .ip (eCfg y) 0), (6, .int .i64 i)]) (fun _ => σ) (fun i => i ≤ x.maps.length ∧ allS qMap x.maps y.maps = allS qMap (x.maps.drop i) (y.maps.drop i)) (fun i => x.maps.length - i) 0 ⟨Nat.zero_le _, rfl⟩ (Env.Sub_of_has (by simp [Env.Has, Env.get, Env.putO, eCfg])) (Store.Sub.refl _) ?_
    rintro i ⟨hi, hor⟩
    by_cases hlt : i < x.maps.length
    · have hlt2 : i < y.maps.length := by omega
      have ho := allS_drop qMap x.maps y.maps i hlt hlt2
      have mx := mem_getD hlt
      have my := mem_getD hlt2
      obtain ⟨u, hu⟩ : ∃ u, x.maps.getD i default = u := ⟨_, rfl⟩
      obtain ⟨v, hv⟩ : ∃ v, y.maps.getD i default = v := ⟨_, rfl⟩
      rw [hu] at mx
      rw [hv] at my
      rw [hu, hv] at ho
      have hxe : (encL eMap x.maps).getD i .any = eMap u := by rw [← hu]; exact getD_encL eMap hlt
      have hye : (encL eMap y.maps).getD i .any = eMap v := by rw [← hv]; exact getD_encL eMap hlt2
      have fu := hx.map u mx
      have fv := hy.map v my
      have lu := fu.len
      have lv := fv.len
      rw [show qMap u v = (decide (u.name = v.name) && allS qCls u.l v.l) from rfl] at ho
      cases c1 : decide (u.name = v.name) with
      | false =>
        have hz : Rm = false := by rw [hM, hor, ho, c1]; simp
        rw [hz]
        repeat' first |refine s1 ?_|refine gS ?_|refine wT rfl ?_|refine wF rfl ?_|refine wt rfl ?_|refine wf rfl ?_|(refine wC rfl (fun h=>?_) (fun h=>?_)<;>(try contradiction))|((first|refine rd ?_|refine ry [] c0 fun nu _ _=>?_);simp -dsimp (disch:=omega) only[go_sem,eCfg, hxe, hye, eMap, c1])|refine e0 (by decide) ?_|(refine zA ?_ ?_;omega)|refine zA (of_eq_true PutAt_put) ?_|refine gT ?_|refine gF ?_|(refine gI (fun h=>?_) (fun h=>?_)<;>(try contradiction)<;>(try refine rd ?_)<;>(try simp -dsimp (disch:=omega) only[go_sem,h,eCfg, hxe, hye, eMap, c1]))|refine zX _ (zX _ (zA (zA rfl rfl) ?_)) |fail
      | true =>
      rw [c1, Bool.true_and] at ho
      by_cases c2 : u.l.length = v.l.length
      case neg =>
        have hz : Rm = false := by rw [hM, hor, ho, allS_len qCls c2]; simp
        have c2n := lens_ne c2
        rw [hz]
        repeat' first |refine s1 ?_|refine gS ?_|refine wT rfl ?_|refine wF rfl ?_|refine wt rfl ?_|refine wf rfl ?_|(refine wC rfl (fun h=>?_) (fun h=>?_)<;>(try contradiction))|((first|refine rd ?_|refine ry [] c0 fun nu _ _=>?_);simp -dsimp (disch:=omega) only[go_sem,eCfg, hxe, hye, eMap, c1, c2n])|refine e0 (by decide) ?_|(refine zA ?_ ?_;omega)|refine zA (of_eq_true PutAt_put) ?_|refine gT ?_|refine gF ?_|(refine gI (fun h=>?_) (fun h=>?_)<;>(try contradiction)<;>(try refine rd ?_)<;>(try simp -dsimp (disch:=omega) only[go_sem,h,eCfg, hxe, hye, eMap, c1, c2n]))|refine zX _ (zX _ (zA (zA rfl rfl) ?_)) |fail
      have c2i := lens_eq c2
      repeat' first |refine s1 ?_|refine gS ?_|refine wT rfl ?_|refine wF rfl ?_|refine wt rfl ?_|refine wf rfl ?_|(refine wC rfl (fun h=>?_) (fun h=>?_)<;>(try contradiction))|((first|refine rd ?_|refine ry [] c0 fun nu _ _=>?_);simp -dsimp (disch:=omega) only[go_sem,eCfg, hxe, hye, eMap, c1, c2i])|refine e0 (by decide) ?_|(refine zA ?_ ?_;omega)|refine zA (of_eq_true PutAt_put) ?_|refine gT ?_|refine gF ?_|(refine gI (fun h=>?_) (fun h=>?_)<;>(try contradiction)<;>(try refine rd ?_)<;>(try simp -dsimp (disch:=omega) only[go_sem,h,eCfg, hxe, hye, eMap, c1, c2i]))|refine zX _ (zX _ (zA (zA rfl rfl) ?_)) |fail
      refine W_loop_st (fun j : Nat => [(2, .ip (eCfg x) 0), (3, .ip (eCfg y) 0), (6, .int .i64 i), (7, .int .i64 j)]) (fun _ => σ) (fun j => j ≤ u.l.length ∧ allS qCls u.l v.l = allS qCls (u.l.drop j) (v.l.drop j)) (fun j => u.l.length - j) 0 ⟨Nat.zero_le _, rfl⟩ (Env.Sub_of_has (by simp [Env.Has, Env.get, Env.putO, eCfg])) (Store.Sub.refl _) ?_
      rintro j ⟨hj, hjr⟩
      by_cases hjl : j < u.l.length
      · have hjl2 : j < v.l.length := by omega
        have hj2 := allS_drop qCls u.l v.l j hjl hjl2
        have mu := mem_getD hjl
        have mv := mem_getD hjl2
        have hue : (encL eCls u.l).getD j .any = eCls (u.l.getD j default) := getD_encL eCls hjl
        have hve : (encL eCls v.l).getD j .any = eCls (v.l.getD j default) := getD_encL eCls hjl2
        have w1 := rsameCls_spec _ _ (fu.cls _ mu).1 (fv.cls _ mv).1
        cases c3 : qCls (u.l.getD j default) (v.l.getD j default) with
        | false =>
          have hz : Rm = false := by rw [hM, hor, ho, hjr, hj2, c3]; simp
          rw [c3] at w1
          rw [hz]
          repeat' first |refine s1 ?_|refine gS ?_|refine wT rfl ?_|refine wF rfl ?_|refine wt rfl ?_|refine wf rfl ?_|(refine wC rfl (fun h=>?_) (fun h=>?_)<;>(try contradiction))|((first|refine rd ?_|refine ry [] c0 fun nu _ _=>?_);simp -dsimp (disch:=omega) only[go_sem,eCfg, hxe, hye, hue, hve, eMap])|refine e0 (by decide) ?_|(refine zA ?_ ?_;omega)|refine zA (of_eq_true PutAt_put) ?_|refine gT ?_|refine gF ?_|(refine gI (fun h=>?_) (fun h=>?_)<;>(try contradiction)<;>(try refine rd ?_)<;>(try simp -dsimp (disch:=omega) only[go_sem,h,eCfg, hxe, hye, hue, hve, eMap]))|refine zX _ (zX _ (zA (zA rfl rfl) ?_)) |refine us (w1) ?_ |fail
        | true =>
          rw [c3] at w1 hj2
          repeat' first |refine s1 ?_|refine gS ?_|refine wT rfl ?_|refine wF rfl ?_|refine wt rfl ?_|refine wf rfl ?_|(refine wC rfl (fun h=>?_) (fun h=>?_)<;>(try contradiction))|((first|refine rd ?_|refine ry [] c0 fun nu _ _=>?_);simp -dsimp (disch:=omega) only[go_sem,eCfg, hxe, hye, hue, hve, eMap])|refine e0 (by decide) ?_|(refine zA ?_ ?_;omega)|refine zA (of_eq_true PutAt_put) ?_|refine gT ?_|refine gF ?_|(refine gI (fun h=>?_) (fun h=>?_)<;>(try contradiction)<;>(try refine rd ?_)<;>(try simp -dsimp (disch:=omega) only[go_sem,h,eCfg, hxe, hye, hue, hve, eMap]))|refine zX _ (zX _ (zA (zA rfl rfl) ?_)) |refine us (w1) ?_ |fail
          exact ⟨j + 1, by omega, ⟨by omega, by rw [hjr, hj2, Bool.true_and]⟩, Env.Sub_of_has (by simp [Env.Has, Env.get, Env.putO, eCfg]), Store.Sub.refl _⟩
      · have hj' : j = u.l.length := by omega
        subst hj'
        rw [hjr, allS_end qCls u.l v.l c2] at ho
        repeat' first |refine s1 ?_|refine gS ?_|refine wT rfl ?_|refine wF rfl ?_|refine wt rfl ?_|refine wf rfl ?_|(refine wC rfl (fun h=>?_) (fun h=>?_)<;>(try contradiction))|((first|refine rd ?_|refine ry [] c0 fun nu _ _=>?_);simp -dsimp (disch:=omega) only[go_sem,eCfg, hxe, hye, eMap])|refine e0 (by decide) ?_|(refine zA ?_ ?_;omega)|refine zA (of_eq_true PutAt_put) ?_|refine gT ?_|refine gF ?_|(refine gI (fun h=>?_) (fun h=>?_)<;>(try contradiction)<;>(try refine rd ?_)<;>(try simp -dsimp (disch:=omega) only[go_sem,h,eCfg, hxe, hye, eMap]))|refine zX _ (zX _ (zA (zA rfl rfl) ?_)) |fail
        exact ⟨i + 1, by omega, ⟨by omega, by rw [hor, ho, Bool.true_and]⟩, Env.Sub_of_has (by simp [Env.Has, Env.get, Env.putO, eCfg]), Store.Sub.refl _⟩
    · have hi' : i = x.maps.length := by omega
      subst hi'
      repeat' first |refine s1 ?_|refine gS ?_|refine wT rfl ?_|refine wF rfl ?_|refine wt rfl ?_|refine wf rfl ?_|(refine wC rfl (fun h=>?_) (fun h=>?_)<;>(try contradiction))|((first|refine rd ?_|refine ry [] c0 fun nu _ _=>?_);simp -dsimp (disch:=omega) only[go_sem,eCfg])|refine e0 (by decide) ?_|(refine zA ?_ ?_;omega)|refine zA (of_eq_true PutAt_put) ?_|refine gT ?_|refine gF ?_|(refine gI (fun h=>?_) (fun h=>?_)<;>(try contradiction)<;>(try refine rd ?_)<;>(try simp -dsimp (disch:=omega) only[go_sem,h,eCfg]))|refine zX _ (zX _ (zA (zA rfl rfl) ?_)) |fail
      exact ⟨(), by rw [hor]; exact allS_end qMap x.maps y.maps (by omega), Env.Sub_of_has (by simp [Env.Has, Env.get, Env.putO, eCfg]), Store.Sub.refl _⟩
  rintro _ n1
  rw [n1] at hM
  try simp only [Bool.true_and, Bool.and_true] at hM
  clear n1
  repeat' first |((fail_if_success (first|show W _ _ (Code.seq (Code.region 18 _ _) _) _ _ _|show W _ _ (Code.seq (Code.seq (Code.region 18 _ _) _) _) _ _ _));refine s1 ?_)|refine gS ?_|refine wT rfl ?_|refine wF rfl ?_|refine wt rfl ?_|refine wf rfl ?_|(refine wC rfl (fun h=>?_) (fun h=>?_)<;>(try contradiction))|((fail_if_success (first|show W _ _ (Code.region 18 _ _) _ _ _));(first|refine rd ?_|refine ry [] c0 fun nu _ _=>?_);simp -dsimp (disch:=omega) only[go_sem])|refine e0 (by decide) ?_|(refine zA ?_ ?_;omega)|refine zA (of_eq_true PutAt_put) ?_|refine gT ?_|refine gF ?_|(refine gI (fun h=>?_) (fun h=>?_)<;>(try contradiction)<;>(try refine rd ?_)<;>(try simp -dsimp (disch:=omega) only[go_sem,h]))|refine zX _ (zX _ (zA (zA rfl rfl) ?_)) |fail
  refine W_midE (fun _ : Unit => [(2, .ip (eCfg x) 0), (3, .ip (eCfg y) 0)]) (fun _ => σ) (fun _ => allS qRtr x.routers y.routers = true) ?_ ?_
  · skip
    repeat' first |refine s1 ?_|refine gS ?_|refine wT rfl ?_|refine wF rfl ?_|refine wt rfl ?_|refine wf rfl ?_|(refine wC rfl (fun h=>?_) (fun h=>?_)<;>(try contradiction))|((first|refine rd ?_|refine ry [] c0 fun nu _ _=>?_);simp -dsimp (disch:=omega) only[go_sem])|refine e0 (by decide) ?_|(refine zA ?_ ?_;omega)|refine zA (of_eq_true PutAt_put) ?_|refine gT ?_|refine gF ?_|(refine gI (fun h=>?_) (fun h=>?_)<;>(try contradiction)<;>(try refine rd ?_)<;>(try simp -dsimp (disch:=omega) only[go_sem,h]))|refine zX _ (zX _ (zA (zA rfl rfl) ?_)) |fail
    refine W_loop_st (fun i : Nat => [(2, .ip (eCfg x) 0), (3, .ip (eCfg y) 0), (8, .int .i64 i)]) (fun _ => σ) (fun i => i ≤ x.routers.length ∧ allS qRtr x.routers y.routers = allS qRtr (x.routers.drop i) (y.routers.drop i)) (fun i => x.routers.length - i) 0 ⟨Nat.zero_le _, rfl⟩ (Env.Sub_of_has (by simp [Env.Has, Env.get, Env.putO, eCfg])) (Store.Sub.refl _) ?_
    rintro i ⟨hi, hor⟩
    by_cases hlt : i < x.routers.length
    · have hlt2 : i < y.routers.length := by omega
      have ho := allS_drop qRtr x.routers y.routers i hlt hlt2
      have mx := mem_getD hlt
      have my := mem_getD hlt2
      obtain ⟨u, hu⟩ : ∃ u, x.routers.getD i default = u := ⟨_, rfl⟩
      obtain ⟨v, hv⟩ : ∃ v, y.routers.getD i default = v := ⟨_, rfl⟩
      rw [hu] at mx
      rw [hv] at my
      rw [hu, hv] at ho
      have hxe : (encL eRtr x.routers).getD i .any = eRtr u := by rw [← hu]; exact getD_encL eRtr hlt
      have hye : (encL eRtr y.routers).getD i .any = eRtr v := by rw [← hv]; exact getD_encL eRtr hlt2
      have w1 := rsameRtr_spec u v (hx.rtr u mx) (hy.rtr v my)
      cases c1 : qRtr u v with
      | false =>
        have hz : Rm = false := by rw [hM, hor, ho, c1]; simp
        rw [c1] at w1
        rw [hz]
        repeat' first |refine s1 ?_|refine gS ?_|refine wT rfl ?_|refine wF rfl ?_|refine wt rfl ?_|refine wf rfl ?_|(refine wC rfl (fun h=>?_) (fun h=>?_)<;>(try contradiction))|((first|refine rd ?_|refine ry [] c0 fun nu _ _=>?_);simp -dsimp (disch:=omega) only[go_sem,eCfg, hxe, hye])|refine e0 (by decide) ?_|(refine zA ?_ ?_;omega)|refine zA (of_eq_true PutAt_put) ?_|refine gT ?_|refine gF ?_|(refine gI (fun h=>?_) (fun h=>?_)<;>(try contradiction)<;>(try refine rd ?_)<;>(try simp -dsimp (disch:=omega) only[go_sem,h,eCfg, hxe, hye]))|refine zX _ (zX _ (zA (zA rfl rfl) ?_)) |refine us (w1) ?_ |fail
      | true =>
        rw [c1] at w1 ho
        repeat' first |refine s1 ?_|refine gS ?_|refine wT rfl ?_|refine wF rfl ?_|refine wt rfl ?_|refine wf rfl ?_|(refine wC rfl (fun h=>?_) (fun h=>?_)<;>(try contradiction))|((first|refine rd ?_|refine ry [] c0 fun nu _ _=>?_);simp -dsimp (disch:=omega) only[go_sem,eCfg, hxe, hye])|refine e0 (by decide) ?_|(refine zA ?_ ?_;omega)|refine zA (of_eq_true PutAt_put) ?_|refine gT ?_|refine gF ?_|(refine gI (fun h=>?_) (fun h=>?_)<;>(try contradiction)<;>(try refine rd ?_)<;>(try simp -dsimp (disch:=omega) only[go_sem,h,eCfg, hxe, hye]))|refine zX _ (zX _ (zA (zA rfl rfl) ?_)) |refine us (w1) ?_ |fail
        exact ⟨i + 1, by omega, ⟨by omega, by rw [hor, ho, Bool.true_and]⟩, Env.Sub_of_has (by simp [Env.Has, Env.get, Env.putO, eCfg]), Store.Sub.refl _⟩
    · have hi' : i = x.routers.length := by omega
      subst hi'
      repeat' first |refine s1 ?_|refine gS ?_|refine wT rfl ?_|refine wF rfl ?_|refine wt rfl ?_|refine wf rfl ?_|(refine wC rfl (fun h=>?_) (fun h=>?_)<;>(try contradiction))|((first|refine rd ?_|refine ry [] c0 fun nu _ _=>?_);simp -dsimp (disch:=omega) only[go_sem,eCfg])|refine e0 (by decide) ?_|(refine zA ?_ ?_;omega)|refine zA (of_eq_true PutAt_put) ?_|refine gT ?_|refine gF ?_|(refine gI (fun h=>?_) (fun h=>?_)<;>(try contradiction)<;>(try refine rd ?_)<;>(try simp -dsimp (disch:=omega) only[go_sem,h,eCfg]))|refine zX _ (zX _ (zA (zA rfl rfl) ?_)) |fail
      exact ⟨(), by rw [hor]; exact allS_end qRtr x.routers y.routers (by omega), Env.Sub_of_has (by simp [Env.Has, Env.get, Env.putO, eCfg]), Store.Sub.refl _⟩
  rintro _ n1
  rw [n1] at hM
  try simp only [Bool.true_and, Bool.and_true] at hM
  clear n1
  rw [hM]
  repeat' first |refine s1 ?_|refine gS ?_|refine wT rfl ?_|refine wF rfl ?_|refine wt rfl ?_|refine wf rfl ?_|(refine wC rfl (fun h=>?_) (fun h=>?_)<;>(try contradiction))|((first|refine rd ?_|refine ry [] c0 fun nu _ _=>?_);simp -dsimp (disch:=omega) only[go_sem])|refine e0 (by decide) ?_|(refine zA ?_ ?_;omega)|refine zA (of_eq_true PutAt_put) ?_|refine gT ?_|refine gF ?_|(refine gI (fun h=>?_) (fun h=>?_)<;>(try contradiction)<;>(try refine rd ?_)<;>(try simp -dsimp (disch:=omega) only[go_sem,h]))|refine zX _ (zX _ (zA (zA rfl rfl) ?_)) |fail
end Go.Proofs.YtaealcimocpnnaaGreat

namespace Go.Proofs.YtaealcimocpnnaaGreat
open Go.Kern Go.RowKit
def wd0 : ByteArray := ⟨#[112, 114, 101, 102, 105, 120, 45, 108, 105, 115, 116]⟩
def wd1 : ByteArray := ⟨#[114, 111, 117, 116, 101, 45, 109, 97, 112]⟩
def wd2 : ByteArray := ⟨#[114, 111, 117, 116, 101, 114]⟩
def difC (a b : Cfg) : List ByteArray := difS nLst qLst wd0 a.lists b.lists ++ (difS nMap qMap wd1 a.maps b.maps ++ difS nRtr qRtr wd2 a.routers b.routers)
theorem difS_length {α : Type} (nm : α → ByteArray) (q : α → α → Bool) (w : ByteArray) (a b : List α) : (difS nm q w a b).length ≤ a.length + b.length := by
  rw [difS, List.length_map]
  have h1 := List.length_filter_le (fun s => lookD (difD nm q (firsts nm a) (firsts nm b)) s) (sortS ((difD nm q (firsts nm a) (firsts nm b)).map (·.1)))
  have h2 := (sortS_perm' ((difD nm q (firsts nm a) (firsts nm b)).map (·.1))).length_eq
  have h3 := List.length_filter_le (fun v => !hasN nm (nm v) (firsts nm a)) (firsts nm b)
  have h4 := firsts_length nm a
  have h5 := firsts_length nm b
  simp only [difD, List.map_append, List.length_append, List.length_map] at h2
  simp only [difD, List.map_append] at h1 ⊢
  omega
set_option maxRecDepth 100000
set_option maxHeartbeats 4000000
attribute [local irreducible] PCall W
theorem differ_spec (a b : Cfg) (hA : a.S) (hB : b.S) (fA : a.Fits) (fB : b.Fits) (σ : Store) : PCall Tryz.prog 16 [eCfg a, eCfg b] σ (fun r t => r = .sl (kd (difC a b)) (encL AV.str (difC a b)) ∧ t = σ) := by
  obtain ⟨⟨a1, a2, a3⟩, a4, a5, a6⟩ := hA
  obtain ⟨⟨b1, b2, b3⟩, b4, b5, b6⟩ := hB
  obtain ⟨L0, hL0⟩ : ∃ L, difS nLst qLst wd0 a.lists b.lists = L := ⟨_, rfl⟩
  obtain ⟨L1, hL1⟩ : ∃ L, difS nMap qMap wd1 a.maps b.maps = L := ⟨_, rfl⟩
  obtain ⟨L2, hL2⟩ : ∃ L, difS nRtr qRtr wd2 a.routers b.routers = L := ⟨_, rfl⟩
  have l0 := difS_length nLst qLst wd0 a.lists b.lists
  have l1 := difS_length nMap qMap wd1 a.maps b.maps
  have l2 := difS_length nRtr qRtr wd2 a.routers b.routers
  have c0 := difLst 48 qLst wd0 (by decide) a.kL b.kL a.lists b.lists (by omega) (by omega) (fun x hx y hy => sameLst_spec x y (fA.lst x hx).1 (fB.lst y hy).1) (fun x hx => by have := (a4 x hx).1; omega) (fun x hx => by have := (b4 x hx).1; omega)
  have c1 := difMap 50 qMap wd1 (by decide) a.kM b.kM a.maps b.maps (by omega) (by omega) (fun x hx y hy => sameMap_spec x y (fA.map x hx) (fB.map y hy)) (fun x hx => by have := (a5 x hx).1.1; omega) (fun x hx => by have := (b5 x hx).1.1; omega)
  have c2 := difRtr 52 qRtr wd2 (by decide) a.kR b.kR a.routers b.routers (by omega) (by omega) (fun x hx y hy => sameRtr_spec x y (fA.rtr x hx) (fB.rtr y hy)) (fun x hx => by have := (a6 x hx).1; omega) (fun x hx => by have := (b6 x hx).1; omega)
  rw [hL0] at c0 l0
  rw [hL1] at c1 l1
  rw [hL2] at c2 l2
  rw [difC, hL0, hL1, hL2]
  unfold wd0 at c0
  unfold wd1 at c1
  unfold wd2 at c2
  have hcat : ∀ x y z, catL [(x, L0), (y, L1), (z, L2)] = L0 ++ (L1 ++ L2) := fun x y z => by simp [catL]
  have c3 := fun k τ => concat_spec k [(kd L0, L0), (kd L1, L1), (kd L2, L2)] (by simp) (by rw [hcat]; simp only [List.length_append]; omega) τ
  simp only [hcat, encL, List.map_cons, List.map_nil, eSl] at c3
  simp only [encL] at c0 c1 c2 ⊢
  obtain ⟨A0, hA0⟩ : ∃ A, List.map AV.str L0 = A := ⟨_, rfl⟩
  obtain ⟨A1, hA1⟩ : ∃ A, List.map AV.str L1 = A := ⟨_, rfl⟩
  obtain ⟨A2, hA2⟩ : ∃ A, List.map AV.str L2 = A := ⟨_, rfl⟩
  rw [hA0] at c0 c3
  rw [hA1] at c1 c3
  rw [hA2] at c2 c3
  have c3p : Pure Tryz.prog 46 _ _ := c3 .full
  refine PCall_w [.tmp 4] 22 Tryz.func16 (by rfl) rfl rfl rfl rfl ?_
  repeat' first |refine s1 ?_|refine gS ?_|refine wT rfl ?_|refine wF rfl ?_|refine wt rfl ?_|refine wf rfl ?_|(refine wC rfl (fun h=>?_) (fun h=>?_)<;>(try contradiction))|((first|refine rd ?_|refine ry (id:=1) [] (cq [1,3,6,8,11,13]) fun nu _ _=>?_|refine ry [] c0 fun nu _ _=>?_);simp -dsimp (disch:=omega) only[go_sem,eCfg, encL])|refine e0 (by decide) ?_|(refine zA ?_ ?_;omega)|refine zA (of_eq_true PutAt_put) ?_|refine gT ?_|refine gF ?_|(refine gI (fun h=>?_) (fun h=>?_)<;>(try contradiction)<;>(try refine rd ?_)<;>(try simp -dsimp (disch:=omega) only[go_sem,h,eCfg, encL]))|refine zX _ (zX _ (zA (zA rfl rfl) ?_)) |refine us (c0) ?_ |refine us (c1) ?_ |refine us (c2) ?_ |refine us (c3p) ?_ |fail
end Go.Proofs.YtaealcimocpnnaaGreat

namespace Go.Proofs.YtaealcimocpnnaaGreat
open Go.Kern Go.RowKit Go.MapKept
theorem less_lt : ∀ (x y : List UInt8), Op.bytesLess x y = decide (x < y)
  | [], [] => by simp [Op.bytesLess]
  | _ :: _, [] => by simp [Op.bytesLess]
  | [], _ :: _ => by simp [Op.bytesLess]
  | a :: x, b :: y => by
    rw [Op.bytesLess, less_lt x y]
    simp only [List.cons_lt_cons_iff]
    by_cases h1 : a < b <;> by_cases h2 : a = b <;> by_cases h3 : x < y <;> simp [h1, h2, h3]
def ltB (x y : ByteArray) : Bool := Op.bytesLess x.toList y.toList
theorem ltB_iff {x y : ByteArray} : ltB x y = true ↔ bytesOf x < bytesOf y := by
  unfold ltB bytesOf
  rw [less_lt, Lib.toList_data, Lib.toList_data, decide_eq_true_eq]
theorem bytesOf_inj {x y : ByteArray} (h : bytesOf x = bytesOf y) : x = y := by
  cases x; cases y; simp [bytesOf] at h; rw [ByteArray.mk.injEq]; exact Array.toList_inj.1 (by simpa using h)
theorem ltB_irrefl (x : ByteArray) : ltB x x = false := by
  cases h : ltB x x with
  | false => rfl
  | true => exact absurd (ltB_iff.1 h) (List.lt_irrefl _)
theorem ltB_trans {x y z : ByteArray} (h : ltB x y = true) (h2 : ltB y z = true) : ltB x z = true := ltB_iff.2 (List.lt_trans (ltB_iff.1 h) (ltB_iff.1 h2))
theorem ltB_total {x y : ByteArray} (h : ltB x y = false) (hne : x ≠ y) : ltB y x = true := by
  cases h2 : ltB y x with
  | true => rfl
  | false =>
    have a1 : ¬ bytesOf x < bytesOf y := fun e => by rw [ltB_iff.2 e] at h; cases h
    have a2 : ¬ bytesOf y < bytesOf x := fun e => by rw [ltB_iff.2 e] at h2; cases h2
    exact absurd (bytesOf_inj (List.le_antisymm (List.not_lt.1 a2) (List.not_lt.1 a1))) hne
def Srt (f : List ByteArray) : Prop := f.Pairwise fun x y => ltB x y = true
theorem Srt.nodup {f : List ByteArray} (h : Srt f) : f.Nodup := List.Pairwise.imp (fun {a b} h e => by subst e; rw [ltB_irrefl] at h; cases h) h
theorem Srt.eq {f g : List ByteArray} (hf : Srt f) (hg : Srt g) (h : ∀ x, x ∈ f ↔ x ∈ g) : f = g :=
  List.Perm.eq_of_pairwise (le := fun x y => ltB x y = true) (fun a b _ _ h1 h2 => by have := ltB_trans h1 h2; rw [ltB_irrefl] at this; cases this) hf hg ((List.perm_ext_iff_of_nodup hf.nodup hg.nodup).2 h)
def posS (s : ByteArray) : List ByteArray → Nat
  | [] => 0
  | y :: f => if ltB y s = true then posS s f + 1 else 0
theorem posS_le (s : ByteArray) : ∀ f : List ByteArray, posS s f ≤ f.length
  | [] => Nat.le_refl _
  | y :: f => by rw [posS, List.length_cons]; split <;> have := posS_le s f <;> omega
theorem posS_at (s : ByteArray) : ∀ (f : List ByteArray) (i : Nat), i < posS s f → ltB (f.getD i default) s = true
  | [], i, h => by simp [posS] at h
  | y :: f, i, h => by
    rw [posS] at h
    split at h
    · rename_i hy
      cases i with
      | zero => simpa using hy
      | succ i => simpa using posS_at s f i (by omega)
    · omega
theorem posS_stop (s : ByteArray) : ∀ (f : List ByteArray), posS s f < f.length → ltB (f.getD (posS s f) default) s = false
  | [], h => by simp [posS] at h
  | y :: f, h => by
    rw [posS] at h ⊢
    split
    · rename_i hy
      rw [if_pos hy, List.length_cons] at h
      simpa using posS_stop s f (by omega)
    · rename_i hy
      simpa using hy
def insS (f : List ByteArray) (s : ByteArray) : List ByteArray := f.take (posS s f) ++ s :: f.drop (posS s f)
theorem insS_mem (f : List ByteArray) (s x : ByteArray) : x ∈ insS f s ↔ x = s ∨ x ∈ f := by
  have h : x ∈ f ↔ x ∈ f.take (posS s f) ∨ x ∈ f.drop (posS s f) := by rw [← List.mem_append, List.take_append_drop]
  rw [insS, List.mem_append, List.mem_cons, h]
  constructor
  · rintro (h | h | h)
    · exact .inr (.inl h)
    · exact .inl h
    · exact .inr (.inr h)
  · rintro (h | h | h)
    · exact .inr (.inl h)
    · exact .inl h
    · exact .inr (.inr h)
theorem insS_cons (y : ByteArray) (f : List ByteArray) (s : ByteArray) : insS (y :: f) s = if ltB y s = true then y :: insS f s else s :: y :: f := by
  rw [insS, posS]
  split <;> simp [insS]
theorem insS_srt (s : ByteArray) : ∀ f : List ByteArray, Srt f → s ∉ f → Srt (insS f s)
  | [], _, _ => by simp [insS, posS, Srt]
  | y :: f, h, hs => by
    rw [insS_cons]
    obtain ⟨h1, h2⟩ := List.pairwise_cons.1 h
    rw [List.mem_cons, not_or] at hs
    split
    · rename_i hy
      refine List.pairwise_cons.2 ⟨fun x hx => ?_, insS_srt s f h2 hs.2⟩
      rcases (insS_mem f s x).1 hx with rfl | hx
      · exact hy
      · exact h1 x hx
    · rename_i hy
      have hsy : ltB s y = true := ltB_total (by simpa using hy) (fun e => hs.1 e.symm)
      refine List.pairwise_cons.2 ⟨fun x hx => ?_, h⟩
      rcases List.mem_cons.1 hx with rfl | hx
      · exact hsy
      · exact ltB_trans hsy (h1 x hx)
def memB (f : List ByteArray) (s : ByteArray) : Bool := f.any fun x => decide (x = s)
theorem memB_iff {f : List ByteArray} {s : ByteArray} : memB f s = true ↔ s ∈ f := by simp [memB]
def stepS (p : ByteArray → Bool) (f : List ByteArray) (s : ByteArray) : List ByteArray := if (p s || memB f s) = true then f else insS f s
theorem foldS (p : ByteArray → Bool) : ∀ (l f : List ByteArray), Srt f → Srt (l.foldl (stepS p) f) ∧ ∀ x, x ∈ l.foldl (stepS p) f ↔ x ∈ f ∨ (x ∈ l ∧ p x = false)
  | [], f, h => ⟨h, fun x => by simp⟩
  | s :: l, f, h => by
    rw [List.foldl_cons]
    by_cases hc : (p s || memB f s) = true
    · rw [stepS, if_pos hc]
      obtain ⟨h1, h2⟩ := foldS p l f h
      refine ⟨h1, fun x => ?_⟩
      rw [h2, List.mem_cons]
      constructor
      · rintro (h | ⟨h, h3⟩)
        · exact .inl h
        · exact .inr ⟨.inr h, h3⟩
      · rintro (h | ⟨rfl | h, h3⟩)
        · exact .inl h
        · rw [h3, Bool.false_or, memB_iff] at hc; exact .inl hc
        · exact .inr ⟨h, h3⟩
    · rw [stepS, if_neg hc]
      rw [Bool.not_eq_true, Bool.or_eq_false_iff] at hc
      have hs : s ∉ f := fun e => by have := hc.2; rw [memB_iff.2 e] at this; cases this
      obtain ⟨h1, h2⟩ := foldS p l (insS f s) (insS_srt s f h hs)
      refine ⟨h1, fun x => ?_⟩
      rw [h2, insS_mem, List.mem_cons]
      constructor
      · rintro ((rfl | h) | ⟨h, h3⟩)
        · exact .inr ⟨.inl rfl, hc.1⟩
        · exact .inl h
        · exact .inr ⟨.inr h, h3⟩
      · rintro (h | ⟨rfl | h, h3⟩)
        · exact .inl (.inr h)
        · exact .inl (.inl rfl)
        · exact .inr ⟨h, h3⟩
theorem sortS_srt {ks : List ByteArray} (hn : ks.Nodup) : Srt (sortS ks) := by
  have tr : ∀ a b c : List UInt8, leS a b = true → leS b c = true → leS a c = true := fun a b c h1 h2 => by simp only [leS, decide_eq_true_eq] at *; exact List.le_trans h1 h2
  have tt : ∀ a b : List UInt8, (leS a b || leS b a) = true := fun a b => by simp only [leS, Bool.or_eq_true, decide_eq_true_eq]; exact List.le_total a b
  have h1 : (sortS ks).Pairwise fun x y => leS (bytesOf x) (bytesOf y) = true := by
    unfold sortS
    exact List.pairwise_map.2 ((List.pairwise_mergeSort tr tt (ks.map bytesOf)).imp (fun {a b} h => by simpa [bytesOf] using h))
  have h2 : (sortS ks).Nodup := (sortS_perm' ks).nodup_iff.2 hn
  refine (h1.and h2).imp fun {a b} h => ?_
  obtain ⟨h3, h4⟩ := h
  simp only [leS, decide_eq_true_eq] at h3
  cases h5 : ltB a b with
  | true => rfl
  | false =>
    have := ltB_total h5 h4
    exact absurd (ltB_iff.1 this) (List.not_lt.2 h3)
section
variable {α : Type} (nm : α → ByteArray) (q : α → α → Bool)
def sameN (a b : List α) (s : ByteArray) : Bool :=
  match a.find? (fun x => decide (nm x = s)), b.find? (fun x => decide (nm x = s)) with
  | some v, some w => q v w
  | _, _ => false
theorem find_map2 (f : α → ByteArray × Bool) (hf : ∀ v, (f v).1 = nm v) (l : List α) (s : ByteArray) : (l.map f).find? (fun p => decide (p.1 = s)) = (l.find? fun x => decide (nm x = s)).map f := by
  rw [List.find?_map]
  congr 1
  congr 1
  funext x
  simp [hf]
theorem find_filter {l : List α} {s : ByteArray} {X : List α} (h : hasN nm s X = false) : (l.filter fun v => !hasN nm (nm v) X).find? (fun x => decide (nm x = s)) = l.find? fun x => decide (nm x = s) := by
  rw [List.find?_filter]
  congr 1
  funext x
  by_cases hx : nm x = s
  · simp [hx, h]
  · simp [hx]
theorem look_same (X Y : List α) {s : ByteArray} (h : hasN nm s X = true ∨ hasN nm s Y = true) : lookD (difD nm q X Y) s = !sameN nm q X Y s := by
  unfold lookD difD sameN
  rw [List.find?_append, find_map2 nm (fun v => (nm v, dX nm q Y v)) (fun _ => rfl), find_map2 nm (fun v => (nm v, true)) (fun _ => rfl)]
  cases hx : X.find? (fun x => decide (nm x = s)) with
  | some v =>
    have hv : nm v = s := by have := List.find?_some hx; simpa using this
    simp only [Option.map_some, Option.some_or, Option.getD_some, dX, hv]
    cases Y.find? (fun x => decide (nm x = s)) <;> rfl
  | none =>
    have hn : hasN nm s X = false := by rw [find_has, hx]; rfl
    rw [find_filter nm hn]
    rcases h with h | h
    · rw [hn] at h; cases h
    · rw [find_has] at h
      obtain ⟨w, hw⟩ := Option.isSome_iff_exists.1 h
      rw [hw]; rfl
theorem mem_names (l : List α) (s : ByteArray) : s ∈ l.map nm ↔ hasN nm s l = true := by
  rw [hasN_iff, List.mem_map]
theorem mem_firsts (l : List α) (s : ByteArray) : s ∈ (firsts nm l).map nm ↔ s ∈ l.map nm := by
  rw [mem_names, mem_names, find_has, find_has, firsts_find]
theorem mem_difD (X Y : List α) (s : ByteArray) : s ∈ (difD nm q X Y).map (·.1) ↔ s ∈ X.map nm ∨ s ∈ Y.map nm := by
  rw [difD, List.map_append, List.mem_append, List.map_map, List.map_map]
  constructor
  · rintro (h | h)
    · exact .inl h
    · obtain ⟨v, hv, rfl⟩ := List.mem_map.1 h
      exact .inr (List.mem_map.2 ⟨v, (List.mem_filter.1 hv).1, rfl⟩)
  · rintro (h | h)
    · exact .inl h
    · by_cases hx : hasN nm s X = true
      · exact .inl ((mem_names nm X s).2 hx)
      · obtain ⟨v, hv, rfl⟩ := List.mem_map.1 h
        exact .inr (List.mem_map.2 ⟨v, List.mem_filter.2 ⟨hv, by simpa using hx⟩, rfl⟩)
theorem difS_law (word : ByteArray) (a b : List α) : difS nm q word a b = ((a.map nm ++ b.map nm).foldl (stepS (sameN nm q a b)) []).map fun s => (word ++ ⟨#[32]⟩) ++ s := by
  rw [difS]
  congr 1
  have hD := difD_nodup nm q (firsts_nodup nm a) (firsts_nodup nm b)
  obtain ⟨f1, f2⟩ := foldS (sameN nm q a b) (a.map nm ++ b.map nm) [] List.Pairwise.nil
  refine Srt.eq ((sortS_srt hD).filter _) f1 fun s => ?_
  rw [List.mem_filter, f2, (sortS_perm' _).mem_iff, mem_difD, mem_firsts, mem_firsts, List.mem_append]
  have hs : sameN nm q (firsts nm a) (firsts nm b) s = sameN nm q a b s := by simp only [sameN, firsts_find]
  constructor
  · rintro ⟨h1, h2⟩
    have h3 : hasN nm s (firsts nm a) = true ∨ hasN nm s (firsts nm b) = true := by rw [← mem_names, ← mem_names, mem_firsts, mem_firsts]; exact h1
    rw [look_same nm q _ _ h3, hs] at h2
    exact .inr ⟨h1, by simpa using h2⟩
  · rintro (h | ⟨h1, h2⟩)
    · simp at h
    · have h3 : hasN nm s (firsts nm a) = true ∨ hasN nm s (firsts nm b) = true := by rw [← mem_names, ← mem_names, mem_firsts, mem_firsts]; exact h1
      exact ⟨h1, by rw [look_same nm q _ _ h3, hs, h2]; rfl⟩
theorem difS_self (hq : ∀ v, q v v = true) (word : ByteArray) (a : List α) : difS nm q word a a = [] := by
  rw [difS_law]
  obtain ⟨_, f2⟩ := foldS (sameN nm q a a) (a.map nm ++ a.map nm) [] List.Pairwise.nil
  have : (a.map nm ++ a.map nm).foldl (stepS (sameN nm q a a)) [] = [] := by
    rw [List.eq_nil_iff_forall_not_mem]
    intro s hs
    rcases (f2 s).1 hs with h | ⟨h1, h2⟩
    · simp at h
    · have h3 : s ∈ a.map nm := by rcases List.mem_append.1 h1 with h | h <;> exact h
      rw [mem_names, find_has] at h3
      obtain ⟨v, hv⟩ := Option.isSome_iff_exists.1 h3
      rw [sameN, hv] at h2
      simp only [hq] at h2
      cases h2
  rw [this]; rfl
def idxN (l : List ByteArray) (s : ByteArray) : Int := (idxS (fun (_ : Unit) x => (decide (x = s), ())) () 0 l).1
theorem idx_find [Inhabited α] (s : ByteArray) : ∀ (l : List α) (k : Int), (∃ i : Nat, i < l.length ∧ (idxS (fun (_ : Unit) x => (decide (x = s), ())) () k (l.map nm)).1 = k + i ∧ l.find? (fun x => decide (nm x = s)) = some (l.getD i default)) ∨ ((idxS (fun (_ : Unit) x => (decide (x = s), ())) () k (l.map nm)).1 = -1 ∧ l.find? (fun x => decide (nm x = s)) = none)
  | [], k => .inr ⟨rfl, rfl⟩
  | x :: l, k => by
    rw [List.map_cons, idxS, List.find?_cons]
    by_cases hx : nm x = s
    · left
      refine ⟨0, by simp, ?_, ?_⟩
      · simp [hx]
      · simp [hx]
    · simp only [hx, decide_false, Bool.false_eq_true, if_false]
      rcases idx_find s l (k + 1) with ⟨i, h1, h2, h3⟩ | h
      · left
        refine ⟨i + 1, by simp; omega, ?_, ?_⟩
        · rw [h2]; omega
        · rw [h3]; simp
      · exact .inr h
end
theorem idx_mem (s : ByteArray) (l : List ByteArray) : decide (0 ≤ idxN l s) = memB l s := by
  have := idx_find (fun x : ByteArray => x) s l 0
  rw [List.map_id'] at this
  rw [Bool.eq_iff_iff, decide_eq_true_eq, memB_iff]
  rcases this with ⟨i, h1, h2, h3⟩ | ⟨h1, h2⟩
  · have := List.mem_of_find?_eq_some h3
    have h4 := List.find?_some h3
    simp only [decide_eq_true_eq] at h4
    rw [h4] at this
    exact ⟨fun _ => this, fun _ => by rw [idxN, h2]; omega⟩
  · rw [List.find?_eq_none] at h2
    refine ⟨fun h => ?_, fun h => ?_⟩
    · rw [idxN, h1] at h; omega
    · have := h2 s h; simp at this
theorem allS_refl {α : Type} {q : α → α → Bool} (h : ∀ x, q x x = true) : ∀ l : List α, allS q l l = true
  | [] => rfl
  | x :: l => by rw [allS, h, allS_refl h l]; rfl
theorem qLst_refl (x : LstD) : qLst x x = true := by
  rw [qLst, allS_refl (fun r => by simp [qRng])]; simp
theorem qCls_refl (x : Cls) : qCls x x = true := by
  rw [qCls, qSet, allS_refl (fun r => by simp [qCom]), allS_refl (fun r => by simp [qCom]), allS_refl (fun r => by simp [qInt])]; simp [qMat]
theorem qMap_refl (x : MapD) : qMap x x = true := by
  rw [qMap, allS_refl qCls_refl]; simp
theorem qRtr_refl (x : Rtr) : qRtr x x = true := by
  rw [qRtr, allS_refl (fun r => by simp [qPfx]), allS_refl (fun r => by simp [qNbr]), allS_refl (fun r => by simp [qLnk])]; simp
theorem difC_self (a : Cfg) : difC a a = [] := by
  rw [difC, difS_self nLst qLst qLst_refl, difS_self nMap qMap qMap_refl, difS_self nRtr qRtr qRtr_refl]; rfl
def nmK (c : Cfg) : Nat → List ByteArray
  | 0 => c.lists.map nLst
  | 1 => c.maps.map nMap
  | _ => c.routers.map nRtr
def smK (a b : Cfg) : Nat → ByteArray → Bool
  | 0 => sameN nLst qLst a.lists b.lists
  | 1 => sameN nMap qMap a.maps b.maps
  | _ => sameN nRtr qRtr a.routers b.routers
def wdK : Nat → ByteArray
  | 0 => wd0 ++ ⟨#[32]⟩
  | 1 => wd1 ++ ⟨#[32]⟩
  | _ => wd2 ++ ⟨#[32]⟩
def fdK (a b : Cfg) (k : Nat) : List ByteArray := (nmK a k ++ nmK b k).foldl (stepS (smK a b k)) []
def wnC (a b : Cfg) : Nat → List ByteArray
  | 0 => []
  | k + 1 => wnC a b k ++ (fdK a b k).map fun s => wdK k ++ s
theorem wnC_all (a b : Cfg) : wnC a b 3 = difC a b := by
  rw [difC, difS_law, difS_law, difS_law]
  simp only [wnC, List.nil_append, List.append_assoc]
  rfl
theorem oneL_q (a b : Cfg) {i j : Nat} (hi : i < a.lists.length) (hj : j < b.lists.length) : qCfg (oneL a i) (oneL b j) = qLst (a.lists.getD i default) (b.lists.getD j default) := by
  have h1 : (a.lists.take (i + 1)).drop i = [a.lists.getD i default] := by rw [List.take_succ_eq_append_getElem hi, List.drop_append_of_le_length (by rw [List.length_take]; omega), List.drop_of_length_le (by rw [List.length_take]; omega)]; simp [List.getD_eq_getElem?_getD, hi]
  have h2 : (b.lists.take (j + 1)).drop j = [b.lists.getD j default] := by rw [List.take_succ_eq_append_getElem hj, List.drop_append_of_le_length (by rw [List.length_take]; omega), List.drop_of_length_le (by rw [List.length_take]; omega)]; simp [List.getD_eq_getElem?_getD, hj]
  simp only [qCfg, oneL, h1, h2, allS, Bool.and_true]
theorem oneM_q (a b : Cfg) {i j : Nat} (hi : i < a.maps.length) (hj : j < b.maps.length) : qCfg (oneM a i) (oneM b j) = qMap (a.maps.getD i default) (b.maps.getD j default) := by
  have h1 : (a.maps.take (i + 1)).drop i = [a.maps.getD i default] := by rw [List.take_succ_eq_append_getElem hi, List.drop_append_of_le_length (by rw [List.length_take]; omega), List.drop_of_length_le (by rw [List.length_take]; omega)]; simp [List.getD_eq_getElem?_getD, hi]
  have h2 : (b.maps.take (j + 1)).drop j = [b.maps.getD j default] := by rw [List.take_succ_eq_append_getElem hj, List.drop_append_of_le_length (by rw [List.length_take]; omega), List.drop_of_length_le (by rw [List.length_take]; omega)]; simp [List.getD_eq_getElem?_getD, hj]
  simp only [qCfg, oneM, h1, h2, allS, Bool.and_true, Bool.true_and]
theorem oneR_q (a b : Cfg) {i j : Nat} (hi : i < a.routers.length) (hj : j < b.routers.length) : qCfg (oneR a i) (oneR b j) = qRtr (a.routers.getD i default) (b.routers.getD j default) := by
  have h1 : (a.routers.take (i + 1)).drop i = [a.routers.getD i default] := by rw [List.take_succ_eq_append_getElem hi, List.drop_append_of_le_length (by rw [List.length_take]; omega), List.drop_of_length_le (by rw [List.length_take]; omega)]; simp [List.getD_eq_getElem?_getD, hi]
  have h2 : (b.routers.take (j + 1)).drop j = [b.routers.getD j default] := by rw [List.take_succ_eq_append_getElem hj, List.drop_append_of_le_length (by rw [List.length_take]; omega), List.drop_of_length_le (by rw [List.length_take]; omega)]; simp [List.getD_eq_getElem?_getD, hj]
  simp only [qCfg, oneR, h1, h2, allS, Bool.and_true, Bool.true_and]
theorem sub_one {α : Type} {l : List α} {i : Nat} : ∀ x, x ∈ (l.take (i + 1)).drop i → x ∈ l := fun x hx => List.mem_of_mem_take (List.mem_of_mem_drop hx)
theorem sub_len {α : Type} {l : List α} {i : Nat} {n : Nat} (h : l.length < n) : ((l.take (i + 1)).drop i).length < n := by
  rw [List.length_drop, List.length_take]; omega
theorem oneL_fits {c : Cfg} (h : c.Fits) (i : Nat) : (oneL c i).Fits := ⟨sub_len h.lists, by simp [oneL], by simp [oneL], fun x hx => h.lst x (sub_one x hx), fun x hx => by simp [oneL] at hx, fun x hx => by simp [oneL] at hx⟩
theorem oneM_fits {c : Cfg} (h : c.Fits) (i : Nat) : (oneM c i).Fits := ⟨by simp [oneM], sub_len h.maps, by simp [oneM], fun x hx => by simp [oneM] at hx, fun x hx => h.map x (sub_one x hx), fun x hx => by simp [oneM] at hx⟩
theorem oneR_fits {c : Cfg} (h : c.Fits) (i : Nat) : (oneR c i).Fits := ⟨by simp [oneR], by simp [oneR], sub_len h.routers, fun x hx => by simp [oneR] at hx, fun x hx => by simp [oneR] at hx, fun x hx => h.rtr x (sub_one x hx)⟩
end Go.Proofs.YtaealcimocpnnaaGreat

