/- What a configuration is handed in as. Conditions: none. -/
import Derived.Test.YtaealcimocpnnaaGreatBx
import Derived.Test.YtaealcimocpnnaaGreatKnR
import Derived.Test.YtaealcimocpnnaaGreatRows
set_option linter.unusedVariables false
set_option linter.unusedSimpArgs false
namespace Go.Proofs.YtaealcimocpnnaaGreat
open Go.Kern Go.RowKit Go.ChangeShapes
def pfxSh : Sh := .cons (.int .u32) (.cons intSh .nil)
def rngSh : Sh := .cons pfxSh (.cons intSh (.cons intSh (.cons .bool .nil)))
def comSh : Sh := .cons intSh (.cons intSh .nil)
def matSh : Sh := .cons .str (.cons .str (.cons comSh .nil))
def chgSh : Sh := .cons intSh (.cons intSh (.cons intSh (.cons (.sl comSh true) (.cons (.sl comSh true) (.cons .bool (.cons (.sl intSh false) .nil))))))
def clsSh : Sh := .cons intSh (.cons .bool (.cons matSh (.cons chgSh .nil)))
def mapSh : Sh := .cons .str (.cons (.sl clsSh true) .nil)
def lstSh : Sh := .cons .str (.cons (.sl rngSh true) .nil)
def nbrSh : Sh := .cons .str (.cons .str (.cons .str (.cons .bool .nil)))
def lnkSh : Sh := .cons .str (.cons intSh .nil)
def rtrSh : Sh := .cons .str (.cons intSh (.cons intSh (.cons (.sl pfxSh true) (.cons (.sl nbrSh true) (.cons (.sl lnkSh true) .nil)))))
def cfgSh : Sh := .cons (.sl lstSh true) (.cons (.sl mapSh true) (.cons (.sl rtrSh true) .nil))
theorem chk_cfg : (cfgSh.chk Tryz.prog).1 26 = true := by kernel_rfl
theorem own : ownKnob Tryz.prog.godebug = none := by kernel_rfl
theorem laid : laidOutB Tryz.prog = true := by kernel_rfl
theorem types_cfg : Tryz.prog.readableRec 26 = true ∧ 26 < Tryz.prog.types.size := ⟨by kernel_rfl, of_decide_eq_true (by kernel_rfl)⟩

theorem sl_ofP {α : Type} {e : Sh} {ag : Bool} (f : α → AV) (Pr : α → Prop) (hf : ∀ y, e.ok y → ∃ a, wrapV ag y = f a ∧ Pr a) {l : List AV} (h : (Sh.sl e ag).ok l) : ∃ (k : SK) (zs : List α), l = [.sl k (encL f zs)] ∧ ∀ z, z ∈ zs → Pr z := by
  have gen : ∀ ys : List (List AV), (∀ y, y ∈ ys → e.ok y) → ∃ zs : List α, ys.map (wrapV ag) = zs.map f ∧ ∀ z, z ∈ zs → Pr z := by
    intro ys
    induction ys with
    | nil => exact fun _ => ⟨[], rfl, fun z hz => by simp at hz⟩
    | cons y ys ih =>
      intro h
      obtain ⟨a, ha, hp⟩ := hf y (h y List.mem_cons_self)
      obtain ⟨zs, h1, h2⟩ := ih fun y hy => h y (List.mem_cons_of_mem _ hy)
      exact ⟨a :: zs, by rw [List.map_cons, h1, ha]; rfl, fun z hz => by
        rcases List.mem_cons.1 hz with rfl | hz
        · exact hp
        · exact h2 z hz⟩
  obtain ⟨k, ys, rfl, h1, h2⟩ := h
  obtain ⟨zs, h3, h4⟩ := gen ys h2
  exact ⟨k, zs, by rw [h3]; rfl, h4⟩
theorem pfx_of {l : List AV} (h : pfxSh.ok l) : ∃ p : Pfx, AV.agg l = ePfx p ∧ p.Ok := by
  obtain ⟨x1, r1, rfl, ⟨a, rfl, wa⟩, x2, r2, rfl, ⟨b, rfl, _⟩, rfl⟩ := h
  refine ⟨⟨a, b⟩, rfl, ?_⟩
  simp [Lit.wf, IntKind.min, IntKind.max] at wa
  show 0 ≤ a ∧ a < 4294967296
  simp [IntKind.signed, IntKind.bits] at wa
  omega
theorem rng_of {l : List AV} (h : rngSh.ok l) : ∃ r : Rng, AV.agg l = eRng r ∧ r.p.Ok := by
  obtain ⟨x0, r0, rfl, h0, x1, r1, rfl, ⟨ge, rfl, _⟩, x2, r2, rfl, ⟨le, rfl, _⟩, x3, r3, rfl, ⟨b, rfl⟩, rfl⟩ := h
  obtain ⟨p, hp, ho⟩ := pfx_of h0
  simp only [ePfx, AV.agg.injEq] at hp
  subst hp
  exact ⟨⟨p, ge, le, b⟩, rfl, ho⟩
theorem com_of {l : List AV} (h : comSh.ok l) : ∃ c : Com, AV.agg l = eCom c ∧ True := by
  obtain ⟨x1, r1, rfl, ⟨a, rfl, _⟩, x2, r2, rfl, ⟨b, rfl, _⟩, rfl⟩ := h
  exact ⟨⟨a, b⟩, rfl, trivial⟩
theorem cls_ofA {l : List AV} (h : clsSh.ok l) : ∃ c : Cls, AV.agg l = eCls c ∧ True := by
  obtain ⟨x1, r1, rfl, ⟨n, rfl, _⟩, x2, r2, rfl, ⟨b, rfl⟩, x3, r3, rfl, ⟨m1, q1, rfl, ⟨ml, rfl, _⟩, m2, q2, rfl, ⟨mp, rfl, _⟩, m3, q3, rfl, h3, rfl⟩, x4, r4, rfl, hs, rfl⟩ := h
  obtain ⟨mc, hmc, _⟩ := com_of h3
  simp only [eCom, AV.agg.injEq] at hmc
  subst hmc
  obtain ⟨s1, t1, rfl, ⟨pref, rfl, _⟩, s2, t2, rfl, ⟨med, rfl, _⟩, s3, t3, rfl, ⟨org, rfl, _⟩, s4, t4, rfl, h4, s5, t5, rfl, h5, s6, t6, rfl, ⟨clr, rfl⟩, s7, t7, rfl, h7, rfl⟩ := hs
  obtain ⟨kA, add, rfl, _⟩ := sl_ofP (ag := true) (e := comSh) eCom (fun _ => True) (fun y hy => com_of hy) h4
  obtain ⟨kD, del, rfl, _⟩ := sl_ofP (ag := true) (e := comSh) eCom (fun _ => True) (fun y hy => com_of hy) h5
  obtain ⟨kP, pre, rfl, _⟩ := sl_ints h7
  exact ⟨⟨n, b, ⟨ml, mp, mc⟩, ⟨pref, med, org, kA, add, kD, del, clr, kP, pre⟩⟩, rfl, trivial⟩
theorem map_of {l : List AV} (h : mapSh.ok l) : ∃ m : MapD, AV.agg l = eMap m ∧ True := by
  obtain ⟨x1, r1, rfl, ⟨s, rfl, _⟩, x2, r2, rfl, h2, rfl⟩ := h
  obtain ⟨k, zs, rfl, _⟩ := sl_ofP (ag := true) (e := clsSh) eCls (fun _ => True) (fun y hy => cls_ofA hy) h2
  exact ⟨⟨s, k, zs⟩, rfl, trivial⟩
theorem lst_of {l : List AV} (h : lstSh.ok l) : ∃ m : LstD, AV.agg l = eLst m ∧ ∀ r, r ∈ m.l → r.p.Ok := by
  obtain ⟨x1, r1, rfl, ⟨s, rfl, _⟩, x2, r2, rfl, h2, rfl⟩ := h
  obtain ⟨k, zs, rfl, hz⟩ := sl_ofP (ag := true) (e := rngSh) eRng (fun r => r.p.Ok) (fun y hy => rng_of hy) h2
  exact ⟨⟨s, k, zs⟩, rfl, hz⟩
theorem nbr_of {l : List AV} (h : nbrSh.ok l) : ∃ n : Nbr, AV.agg l = eNbr n ∧ (n.name.size ≤ 9223372036854775807 ∧ n.imp.size ≤ 9223372036854775807 ∧ n.exp.size ≤ 9223372036854775807) := by
  obtain ⟨x1, r1, rfl, ⟨a, rfl, wa⟩, x2, r2, rfl, ⟨b, rfl, wb⟩, x3, r3, rfl, ⟨c, rfl, wc⟩, x4, r4, rfl, ⟨d, rfl⟩, rfl⟩ := h
  exact ⟨⟨a, b, c, d⟩, rfl, wa, wb, wc⟩
theorem lnk_of {l : List AV} (h : lnkSh.ok l) : ∃ n : Lnk, AV.agg l = eLnk n ∧ n.name.size ≤ 9223372036854775807 := by
  obtain ⟨x1, r1, rfl, ⟨a, rfl, wa⟩, x2, r2, rfl, ⟨b, rfl, _⟩, rfl⟩ := h
  exact ⟨⟨a, b⟩, rfl, wa⟩
structure Rtr.Wf (x : Rtr) : Prop where
  nets : ∀ p, p ∈ x.nets → p.Ok
  nbrs : ∀ n, n ∈ x.nbrs → n.name.size ≤ 9223372036854775807 ∧ n.imp.size ≤ 9223372036854775807 ∧ n.exp.size ≤ 9223372036854775807
  links : ∀ n, n ∈ x.links → n.name.size ≤ 9223372036854775807
theorem rtr_of {l : List AV} (h : rtrSh.ok l) : ∃ n : Rtr, AV.agg l = eRtr n ∧ n.Wf := by
  obtain ⟨x1, r1, rfl, ⟨a, rfl, wa⟩, x2, r2, rfl, ⟨b, rfl, _⟩, x3, r3, rfl, ⟨c, rfl, _⟩, x4, r4, rfl, h4, x5, r5, rfl, h5, x6, r6, rfl, h6, rfl⟩ := h
  obtain ⟨k4, z4, rfl, p4⟩ := sl_ofP (ag := true) (e := pfxSh) ePfx Pfx.Ok (fun y hy => pfx_of hy) h4
  obtain ⟨k5, z5, rfl, p5⟩ := sl_ofP (ag := true) (e := nbrSh) eNbr (fun n => n.name.size ≤ 9223372036854775807 ∧ n.imp.size ≤ 9223372036854775807 ∧ n.exp.size ≤ 9223372036854775807) (fun y hy => nbr_of hy) h5
  obtain ⟨k6, z6, rfl, p6⟩ := sl_ofP (ag := true) (e := lnkSh) eLnk (fun n => n.name.size ≤ 9223372036854775807) (fun y hy => lnk_of hy) h6
  exact ⟨⟨a, b, c, k4, z4, k5, z5, k6, z6⟩, rfl, p4, p5, p6⟩
theorem cfg_of {l : List AV} (h : cfgSh.ok l) : ∃ c : Cfg, AV.agg l = eCfg c ∧ c.Wf := by
  obtain ⟨x4, r4, rfl, h4, x5, r5, rfl, h5, x6, r6, rfl, h6, rfl⟩ := h
  obtain ⟨k4, z4, rfl, p4⟩ := sl_ofP (ag := true) (e := lstSh) eLst (fun m => ∀ r, r ∈ m.l → r.p.Ok) (fun y hy => lst_of hy) h4
  obtain ⟨k5, z5, rfl, _⟩ := sl_ofP (ag := true) (e := mapSh) eMap (fun _ => True) (fun y hy => map_of hy) h5
  obtain ⟨k6, z6, rfl, p6⟩ := sl_ofP (ag := true) (e := rtrSh) eRtr Rtr.Wf (fun y hy => rtr_of hy) h6
  exact ⟨⟨k4, z4, k5, z5, k6, z6⟩, rfl, p4, fun x hx => (p6 x hx).nets, fun x hx => (p6 x hx).nbrs, fun x hx => (p6 x hx).links⟩
theorem cfg_read {H : Type} {enc : TypeId × Value → H} {W : World} {v : Value} {d : DataW H} {p : List MemPlace} (h : DataW.Trod enc Tryz.prog W 0 (fun _ => true) true 26 v d p) :
    ∃ c : Cfg, c.Wf ∧ R (gh0 W) (eCfg c) v := by
  obtain ⟨fuel, hf⟩ := h
  obtain ⟨l, hl, hr⟩ := (cfgSh.read).1 _ _ _ _ chk_cfg hf
  obtain ⟨c, hc, hw⟩ := cfg_of hl
  refine ⟨c, hw, ?_⟩
  rw [← hc]
  have h3 : l.length = 3 := by have := cfgSh.ok_size hl; exact this
  rcases cells_one_agg (v := v) with ⟨cs, rfl⟩ | h1
  · exact .agg (by simpa [Value.cells] using hr.1) (by simpa [Value.cells] using hr.2)
  · have := hr.1
    rw [h1, h3] at this
    cases this
end Go.Proofs.YtaealcimocpnnaaGreat
