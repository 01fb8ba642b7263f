/- The abstract layer, sixth part: operators, conversions, slicing, literals. Conditions: none. -/
import Derived.Test.YtaealcimocpnnaaGreatKnE
import Derived.Lib.Strings
set_option linter.unusedVariables false
set_option linter.unusedSimpArgs false
namespace Go.Kern
open Go.RowKit

theorem sk_isNil {g : Gh} {k : SK} {xs : List AV} {v : Value} (h : R g (.sl k xs) v) : ∃ a n c, v = .slice a n c ∧ a.isNone = k.isNil := by
  cases h with
  | slnil => exact ⟨_, _, _, rfl, rfl⟩
  | sl hk hs hu hi h =>
    refine ⟨_, _, _, rfl, ?_⟩
    cases k <;> first | rfl | exact hk.elim

theorem run_binOp_int {P : Program} {w : World} {op : BinOp} {i : IntKind} {a b : Int} {t : TypeId} (h1 : op ≠ .shl) (h2 : op ≠ .shr) :
    binOp op t (.int i a) (.int i b) = (match op with
    | .add | .sub | .mul => Op.intArith op i a b
    | .quo | .rem => Op.intDiv op i a b
    | .and | .or | .xor | .andNot => Op.intBits op i a b
    | _ => Op.intCmp op a b) := by
  cases op <;> first | exact (h1 rfl).elim | exact (h2 rfl).elim | simp [binOp]

theorem sound_int {P : Program} {w : World} {op : BinOp} {i : IntKind} {a b : Int} {k : AV → Prop} (hk : intOpA op i a b k) (h1 : op ≠ .shl) (h2 : op ≠ .shr) {t : TypeId} {g : Gh} :
    ∃ u r, (binOp op t (.int i a) (.int i b)).run P w = .ok u w ∧ R g r u ∧ k r := by
  rw [run_binOp_int (P := P) (w := w) h1 h2]
  cases op <;> simp only [intOpA] at hk
  case add => exact ⟨_, _, rfl, .int _ _, hk⟩
  case sub => exact ⟨_, _, rfl, .int _ _, hk⟩
  case mul => exact ⟨_, _, rfl, .int _ _, hk⟩
  case quo => exact ⟨.int i (i.wrap (a.tdiv b)), _, by simp [Op.intDiv, hk.1], .int _ _, hk.2⟩
  case rem => exact ⟨.int i (a.tmod b), _, by simp [Op.intDiv, hk.1], .int _ _, hk.2⟩
  case eql => exact ⟨.bool (decide (a = b)), _, by simp only [Op.intCmp, Sem.run_pure]; congr 2, .bool _, hk⟩
  case neq => exact ⟨.bool (!decide (a = b)), _, by simp only [Op.intCmp, Sem.run_pure]; congr 2, .bool _, hk⟩
  case lss => exact ⟨_, _, rfl, .bool _, hk⟩
  case leq => exact ⟨_, _, rfl, .bool _, hk⟩
  case gtr => exact ⟨_, _, rfl, .bool _, hk⟩
  case geq => exact ⟨_, _, rfl, .bool _, hk⟩
  case and => exact ⟨_, _, rfl, .int _ _, hk⟩
  case or => exact ⟨_, _, rfl, .int _ _, hk⟩
  case xor => exact ⟨_, _, rfl, .int _ _, hk⟩
  case andNot => exact ⟨_, _, rfl, .int _ _, hk⟩
  all_goals exact hk.elim

theorem toList_inj {a b : ByteArray} : a.toList = b.toList ↔ a = b := by
  constructor
  · intro h
    have e : ∀ x : ByteArray, x.toList = x.data.toList := fun x => Lib.toList_data x
    rw [e, e] at h
    cases a; cases b
    simp only at h
    congr 1
    exact Array.toList_inj.1 h
  · rintro rfl; rfl

theorem beq_toList (a b : ByteArray) : (a.toList == b.toList) = decide (a = b) := by
  by_cases h : a = b
  · subst h; simp
  · have : a.toList ≠ b.toList := fun e => h (toList_inj.1 e)
    rw [decide_eq_false h]
    exact beq_eq_false_iff_ne.2 this

theorem sound_str {P : Program} {w : World} {op : BinOp} {a b : ByteArray} {k : AV → Prop} (hk : strOpA op a b k) {t : TypeId} {g : Gh} :
    ∃ u r, (binOp op t (.string a) (.string b)).run P w = .ok u w ∧ R g r u ∧ k r := by
  have hmax : IntKind.i64.max = 9223372036854775807 := by decide
  have hb := beq_toList a b
  have e1 : ∀ o : BinOp, binOp o t (.string a) (.string b) = Op.stringOp o a b := fun o => by cases o <;> rfl
  cases op <;> simp only [strOpA] at hk <;> first
    | exact hk.elim
    | (refine ⟨.string (a ++ b), _, ?_, .str _, hk.2⟩
       rw [e1]
       simp only [Op.stringOp]
       rw [if_neg (by rw [hmax]; omega)]
       rfl)
    | (refine ⟨.bool _, _, ?_, .bool _, hk⟩
       rw [e1]
       simp only [Op.stringOp, hb]
       rfl)

def nilV (kind : TK) (v : Value) : Option Bool :=
  match kind, v with
  | .slice, .slice a _ _ => some a.isNone
  | .ptr, .pointer a => some a.isNone
  | .map, .map a => some a.isNone
  | .func, .func .. => some false
  | .func, .nilFunc => some true
  | _, _ => none

theorem nilSide_V {g : Gh} {kind : TK} {x : AV} {v : Value} (h : R g x v) {a : Bool} (ha : nilSide kind x = some a) : nilV kind v = some a := by
  cases kind <;> cases x <;> simp [nilSide] at ha <;> subst ha
  case slice.sl =>
    obtain ⟨a, n, c, rfl, h2⟩ := sk_isNil h
    simp [nilV, h2]
  all_goals (cases h; rfl)

theorem run_equal_nil {P : Program} {w : World} {t : TypeId} {u v : Value} {a b : Bool} (h1 : nilV (tyOf P t).kind u = some a) (h2 : nilV (tyOf P t).kind v = some b) (hab : a = true ∨ b = true) :
    (Op.equal t u v).run P w = .ok (a && b) w := by
  unfold Op.equal
  obtain ⟨d, hd⟩ : ∃ d, Op.maxDepth = d + 1 := ⟨9999, rfl⟩
  rw [hd]
  clear hd
  cases hkd : (tyOf P t).kind <;> rw [hkd] at h1 h2 <;> try (simp [nilV] at h1; done)
  all_goals
    obtain ⟨ti, td, i1, i2, i3⟩ := ty_kind hkd (by simp)
    cases td <;> simp [kindOf] at i3
    cases u <;> simp [nilV] at h1 <;> cases v <;> simp [nilV] at h2 <;> simp only [Op.equalIn, Sem.run_bind, run_underlying i2, Result.andThen_ok]
  · rename_i a1 _ _ b1 _ _
    cases a1 <;> cases b1 <;> simp at h1 h2 <;> subst h1 <;> subst h2 <;> simp at hab ⊢
  · rename_i a1 b1
    cases a1 <;> cases b1 <;> simp at h1 h2 <;> subst h1 <;> subst h2 <;> simp at hab ⊢
  · rename_i a1 b1
    cases a1 <;> cases b1 <;> simp at h1 h2 <;> subst h1 <;> subst h2 <;> simp at hab ⊢
  all_goals (subst h1; subst h2; simp at hab ⊢)

theorem sound_nil {P : Program} {w : World} {op : BinOp} {t : TypeId} {x y : AV} {u v : Value} {g : Gh} (hx : R g x u) (hy : R g y v) {k : AV → Prop} (hk : nilOpA (tyOf P t).kind op x y k) :
    ∃ z r, (binOp op t u v).run P w = .ok z w ∧ R g r z ∧ k r ∧ ∀ p q, eqGuard op t p q u v = pure () := by
  unfold nilOpA at hk
  cases hnx : nilSide (tyOf P t).kind x with
  | none => simp [hnx] at hk
  | some a =>
    cases hny : nilSide (tyOf P t).kind y with
    | none => simp [hnx, hny] at hk
    | some b =>
      simp only [hnx, hny] at hk
      obtain ⟨hab, hk⟩ := hk
      have h1 := nilSide_V hx hnx
      have h2 := nilSide_V hy hny
      have hrun := run_equal_nil (P := P) (w := w) h1 h2 hab
      have hg : ∀ o p q, eqGuard o t p q u v = pure () := by
        intro o p q
        cases hkd : (tyOf P t).kind <;> rw [hkd] at h1 h2 <;> cases u <;> simp [nilV] at h1 <;> cases o <;> rfl
      have hbo : ∀ o : BinOp, o = .eql ∨ o = .neq → (binOp o t u v).run P w = .ok (.bool (if o = .eql then (a && b) else !(a && b))) w := by
        intro o ho
        cases hkd : (tyOf P t).kind <;> rw [hkd] at h1 h2 <;> cases u <;> simp [nilV] at h1 <;> cases v <;> simp [nilV] at h2 <;> rcases ho with rfl | rfl <;> simp [binOp, hrun]
      cases op <;> simp only at hk <;> first | exact hk.elim | skip
      · exact ⟨_, _, hbo _ (.inl rfl), .bool _, by simpa using hk, hg _⟩
      · exact ⟨_, _, hbo _ (.inr rfl), .bool _, by simpa using hk, hg _⟩
end Go.Kern
