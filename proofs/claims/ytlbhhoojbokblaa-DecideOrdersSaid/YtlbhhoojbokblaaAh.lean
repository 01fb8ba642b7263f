/- What candidates are handed in as. Conditions: none. -/
import Derived.Test.YtlbhhoojbokblaaAg
import Derived.Test.YtlbhhoojbokblaaKnR
import Derived.Test.YtlbhhoojbokblaaRows
set_option linter.unusedVariables false
set_option linter.unusedSimpArgs false
namespace Go.Proofs.Ytlbhhoojbokblaa
open Go.Kern Go.RowKit Go.ChangeShapes

def commSh : Sh := .cons intSh (.cons intSh .nil)
def attrSh : Sh := .cons intSh (.cons intSh (.cons intSh (.cons (.sl intSh false) (.cons (.sl commSh true) (.cons intSh (.cons (.sl intSh false) .nil))))))
def candSh : Sh := .cons (.cons attrSh (.cons intSh .nil)) (.cons intSh (.cons .bool (.cons intSh .nil)))

theorem chk_cand : (candSh.chk Try.prog).1 29 = true := by kernel_rfl
theorem own : ownKnob Try.prog.godebug = none := by kernel_rfl
theorem laid : laidOutB Try.prog = true := by kernel_rfl
theorem types_cand : Try.prog.readableRec 29 = true ∧ 29 < Try.prog.types.size := ⟨by kernel_rfl, of_decide_eq_true (by kernel_rfl)⟩

theorem comms_of : ∀ (ys : List (List AV)), (∀ y, y ∈ ys → commSh.ok y) → ∃ zs : List (Int × Int), ys.map (wrapV true) = comms zs ∧ zs.length = ys.length
  | [], _ => ⟨[], rfl, rfl⟩
  | y :: ys, h => by
    obtain ⟨a, b, hy, ⟨n, ha, _⟩, c, d, hb, ⟨m, hc, _⟩, hd⟩ := h y List.mem_cons_self
    obtain ⟨zs, h1, h2⟩ := comms_of ys fun y hy => h y (List.mem_cons_of_mem _ hy)
    subst ha hc hd hb
    exact ⟨(n, m) :: zs, by rw [List.map_cons, h1, hy]; rfl, by simp [h2]⟩

theorem sl_comms {l : List AV} (h : (Sh.sl commSh true).ok l) : ∃ (k : SK) (zs : List (Int × Int)), l = [.sl k (comms zs)] ∧ zs.length ≤ maxLen := by
  obtain ⟨k, ys, rfl, h1, h2⟩ := h
  obtain ⟨zs, h3, h4⟩ := comms_of ys h2
  exact ⟨k, zs, by rw [h3], by omega⟩

theorem cand_of {l : List AV} (h : candSh.ok l) : ∃ c : Cand, l = c.cells := by
  obtain ⟨x, y, rfl, ⟨x1, x2, rfl, ha, x3, x4, rfl, ⟨from2, rfl, _⟩, rfl⟩, y1, y2, rfl, ⟨id, rfl, _⟩, y3, y4, rfl, ⟨outer, rfl⟩, y5, y6, rfl, ⟨far, rfl, _⟩, rfl⟩ := h
  obtain ⟨a1, r1, rfl, ⟨pref, rfl, _⟩, a2, r2, rfl, ⟨med, rfl, _⟩, a3, r3, rfl, ⟨origin, rfl, _⟩, a4, r4, rfl, h4, a5, r5, rfl, h5, a6, r6, rfl, ⟨from1, rfl, _⟩, a7, r7, rfl, h7, rfl⟩ := ha
  obtain ⟨k4, z4, rfl, l4⟩ := sl_ints h4
  obtain ⟨k5, z5, rfl, l5⟩ := sl_comms h5
  obtain ⟨k7, z7, rfl, l7⟩ := sl_ints h7
  exact ⟨⟨⟨pref, med, origin, k4, z4, k5, z5, from1, k7, z7⟩, from2, id, outer, far⟩, rfl⟩

theorem cand_read {H : Type} {enc : TypeId × Value → H} {W : World} {v : Value} {d : DataW H} {p : List MemPlace} (h : DataW.Trod enc Try.prog W 0 (fun _ => true) true 29 v d p) :
    ∃ c : Cand, R (gh0 W) (.agg c.cells) v := by
  obtain ⟨fuel, hf⟩ := h
  obtain ⟨l, hl, hr⟩ := (candSh.read).1 _ _ _ _ chk_cand hf
  obtain ⟨c, rfl⟩ := cand_of hl
  refine ⟨c, ?_⟩
  rcases cells_one_agg (v := v) with ⟨cs, rfl⟩ | h1
  · exact .agg (by simpa [Value.cells] using hr.1) (by simpa [Value.cells] using hr.2)
  · have := hr.1
    rw [h1] at this
    cases this

def zeroCand : Value := .agg #[.int .i64 0, .int .i64 0, .int .i64 0, .slice none 0 0, .slice none 0 0, .int .i64 0, .slice none 0 0, .int .i64 0, .int .i64 0, .bool false, .int .i64 0]

end Go.Proofs.Ytlbhhoojbokblaa
