/- What the claim needs, part 4: Bo Bp Bq Br Bs Bn Bt Bu Bv Bw Bx Cb Cc Cd Da Db. Conditions: none. -/
import Derived.Test.YtaealcimocpnnaaGreatPdc
import Derived.Shelf.Strings.Repeat
import Derived.Laws.BitsAllLaws
import Derived.Shelf.SortM.Plain
import Derived.Shelf.SortM.SortNone
set_option linter.unusedVariables false
set_option linter.unusedSimpArgs false
set_option linter.unusedSectionVars false
namespace Go.Proofs
open Go.Shelf
def Tryz.lays156_ren : Go.Shelf.Ren := ⟨fun | 156 => 116 | 165 => 154 | 166 => 114 | 169 => 22 | 240 => 151 | 241 => 184 | 276 => 180 | 277 => 202 | n => n, fun | 31 => 33 | 9 => 9 | 3 => 3 | 4 => 4 | 0 => 0 | 20 => 20 | 72 => 68 | 76 => 167 | 70 => 65 | 37 => 66 | 75 => 166 | 127 => 114 | 164 => 230 | 5 => 5 | 80 => 75 | n => n, fun | n => n⟩
theorem Tryz.lays156 : Go.Proofs.Lays.n156 Tryz.prog Tryz.lays156_ren := {
  mixed := by kernel_rfl
  f156 := Tryz.func116.trans (congrArg some (by kernel_rfl))
  f165 := Tryz.func154.trans (congrArg some (by kernel_rfl))
  f166 := Tryz.func114.trans (congrArg some (by kernel_rfl))
  f169 := Tryz.func22.trans (congrArg some (by kernel_rfl))
  f240 := Tryz.func151.trans (congrArg some (by kernel_rfl))
  f241 := Tryz.func184.trans (congrArg some (by kernel_rfl))
  f276 := Tryz.func180.trans (congrArg some (by kernel_rfl))
  f277 := Tryz.func202.trans (congrArg some (by kernel_rfl))
  t0 := Tryz.underlying0
  a0 := Tryz.isAgg0
  z0 := Tryz.sizeOf0
  v0 := Tryz.zeroValue0
  t3 := Tryz.underlying3
  a3 := Tryz.isAgg3
  z3 := Tryz.sizeOf3
  v3 := Tryz.zeroValue3
  t4 := Tryz.underlying4
  a4 := Tryz.isAgg4
  z4 := Tryz.sizeOf4
  v4 := Tryz.zeroValue4
  t9 := Tryz.underlying9
  a9 := Tryz.isAgg9
  z9 := Tryz.sizeOf9
  v9 := Tryz.zeroValue9
  t20 := Tryz.underlying20
  a20 := Tryz.isAgg20
  z20 := Tryz.sizeOf20
  v20 := Tryz.zeroValue20
  t31 := Tryz.underlying33
  a31 := Tryz.isAgg33
  z31 := Tryz.sizeOf33
  v31 := Tryz.zeroValue33
  t37 := Tryz.underlying66
  a37 := Tryz.isAgg66
  z37 := Tryz.sizeOf66
  v37 := Tryz.zeroValue66
  t70 := Tryz.underlying65
  a70 := Tryz.isAgg65
  z70 := Tryz.sizeOf65
  v70 := Tryz.zeroValue65
  t72 := Tryz.underlying68
  a72 := Tryz.isAgg68
  z72 := Tryz.sizeOf68
  v72 := Tryz.zeroValue68
  t75 := Tryz.underlying166
  a75 := Tryz.isAgg166
  z75 := Tryz.sizeOf166
  v75 := Tryz.zeroValue166
  t76 := Tryz.underlying167
  a76 := Tryz.isAgg167
  z76 := Tryz.sizeOf167
  v76 := Tryz.zeroValue167
  t127 := Tryz.underlying114
  a127 := Tryz.isAgg114
  z127 := Tryz.sizeOf114
  v127 := Tryz.zeroValue114
  t164 := Tryz.underlying230
  a164 := Tryz.isAgg230
  z164 := Tryz.sizeOf230
  v164 := Tryz.zeroValue230 }
theorem Tryz.Builder_Extra_156 : Builder.Extra Tryz.prog Tryz.lays156_ren := {
  sizeBuilder := by kernel_rfl
  liesBuilder := by kernel_rfl
  t5 := Tryz.underlying5
  a5 := Tryz.isAgg5
  z5 := Tryz.sizeOf5
  v5 := Tryz.zeroValue5
  infoByte := by kernel_rfl
  cellsByte := by kernel_rfl
  sizeByte := by kernel_rfl
  neB5 := by decide }
open Go.RowKit in
theorem Tryz.strings_Join_none (a : Option Addr) (c : Nat) (sep : ByteArray) (w : World) :
    Calls Tryz.prog 116 #[.slice a 0 c, .string sep] w fun e w' => e = .returned (.string ⟨#[]⟩) ∧ w' = w := Any.strings_Join_none Tryz.lays156 Tryz.Builder_Extra_156 a c sep w
open Go.RowKit in
theorem Tryz.strings_Join (bk o c : Nat) (xs : List ByteArray) (sep : ByteArray) (w : World) (hcells : ∀ (j : Nat) x, xs[j]? = some x → w.cell? ⟨bk, o + j, none⟩ = some (.string x)) (hbk : bk < w.heap.size) (hN : xs.length ≤ 140737488355328) (hcap : xs.length ≤ c) (hlen : (Lib.join (xs.map (·.data.toList)) sep.data.toList).length ≤ 140737488355328) :
    Calls Tryz.prog 116 #[.slice (some ⟨bk, o, none⟩) xs.length c, .string sep] w fun e w' => e = .returned (.string ⟨(Lib.join (xs.map (·.data.toList)) sep.data.toList).toArray⟩) ∧ Below w.heap.size w w' := Any.strings_Join Tryz.lays156 Tryz.Builder_Extra_156 bk o c xs sep w hcells hbk hN hcap hlen
def Tryz.lays105_ren : Go.Shelf.Ren := ⟨fun | 105 => 115 | 212 => 152 | 99 => 153 | 165 => 154 | 166 => 114 | 170 => 21 | 169 => 22 | 263 => 181 | 264 => 182 | 206 => 183 | 240 => 151 | 241 => 184 | 276 => 180 | 277 => 202 | n => n, fun | 9 => 9 | 3 => 3 | 4 => 4 | 20 => 20 | 0 => 0 | 46 => 200 | 109 => 201 | 5 => 5 | 72 => 68 | 76 => 167 | 51 => 92 | 146 => 232 | 53 => 234 | 148 => 235 | 70 => 65 | 37 => 66 | 75 => 166 | 127 => 114 | 164 => 230 | 80 => 75 | n => n, fun | n => n⟩
theorem Tryz.lays105 : Go.Proofs.Lays.n105 Tryz.prog Tryz.lays105_ren := {
  mixed := by kernel_rfl
  f99 := Tryz.func153.trans (congrArg some (by kernel_rfl))
  f105 := Tryz.func115.trans (congrArg some (by kernel_rfl))
  f165 := Tryz.func154.trans (congrArg some (by kernel_rfl))
  f166 := Tryz.func114.trans (congrArg some (by kernel_rfl))
  f169 := Tryz.func22.trans (congrArg some (by kernel_rfl))
  f170 := Tryz.func21.trans (congrArg some (by kernel_rfl))
  f206 := Tryz.func183.trans (congrArg some (by kernel_rfl))
  f212 := Tryz.func152.trans (congrArg some (by kernel_rfl))
  f240 := Tryz.func151.trans (congrArg some (by kernel_rfl))
  f241 := Tryz.func184.trans (congrArg some (by kernel_rfl))
  f263 := Tryz.func181.trans (congrArg some (by kernel_rfl))
  f264 := Tryz.func182.trans (congrArg some (by kernel_rfl))
  f276 := Tryz.func180.trans (congrArg some (by kernel_rfl))
  f277 := Tryz.func202.trans (congrArg some (by kernel_rfl))
  t0 := Tryz.underlying0
  a0 := Tryz.isAgg0
  z0 := Tryz.sizeOf0
  v0 := Tryz.zeroValue0
  t3 := Tryz.underlying3
  a3 := Tryz.isAgg3
  z3 := Tryz.sizeOf3
  v3 := Tryz.zeroValue3
  t4 := Tryz.underlying4
  a4 := Tryz.isAgg4
  z4 := Tryz.sizeOf4
  v4 := Tryz.zeroValue4
  t5 := Tryz.underlying5
  a5 := Tryz.isAgg5
  z5 := Tryz.sizeOf5
  v5 := Tryz.zeroValue5
  t9 := Tryz.underlying9
  a9 := Tryz.isAgg9
  z9 := Tryz.sizeOf9
  v9 := Tryz.zeroValue9
  t20 := Tryz.underlying20
  a20 := Tryz.isAgg20
  z20 := Tryz.sizeOf20
  v20 := Tryz.zeroValue20
  t37 := Tryz.underlying66
  a37 := Tryz.isAgg66
  z37 := Tryz.sizeOf66
  v37 := Tryz.zeroValue66
  t46 := Tryz.underlying200
  a46 := Tryz.isAgg200
  z46 := Tryz.sizeOf200
  v46 := Tryz.zeroValue200
  t51 := Tryz.underlying92
  a51 := Tryz.isAgg92
  z51 := Tryz.sizeOf92
  v51 := Tryz.zeroValue92
  t53 := Tryz.underlying234
  a53 := Tryz.isAgg234
  z53 := Tryz.sizeOf234
  v53 := Tryz.zeroValue234
  t70 := Tryz.underlying65
  a70 := Tryz.isAgg65
  z70 := Tryz.sizeOf65
  v70 := Tryz.zeroValue65
  t72 := Tryz.underlying68
  a72 := Tryz.isAgg68
  z72 := Tryz.sizeOf68
  v72 := Tryz.zeroValue68
  t75 := Tryz.underlying166
  a75 := Tryz.isAgg166
  z75 := Tryz.sizeOf166
  v75 := Tryz.zeroValue166
  t76 := Tryz.underlying167
  a76 := Tryz.isAgg167
  z76 := Tryz.sizeOf167
  v76 := Tryz.zeroValue167
  t109 := Tryz.underlying201
  a109 := Tryz.isAgg201
  z109 := Tryz.sizeOf201
  v109 := Tryz.zeroValue201
  t127 := Tryz.underlying114
  a127 := Tryz.isAgg114
  z127 := Tryz.sizeOf114
  v127 := Tryz.zeroValue114
  t146 := Tryz.underlying232
  a146 := Tryz.isAgg232
  z146 := Tryz.sizeOf232
  v146 := Tryz.zeroValue232
  t148 := Tryz.underlying235
  a148 := Tryz.isAgg235
  z148 := Tryz.sizeOf235
  v148 := Tryz.zeroValue235
  t164 := Tryz.underlying230
  a164 := Tryz.isAgg230
  z164 := Tryz.sizeOf230
  v164 := Tryz.zeroValue230 }
theorem Tryz.Builder_Extra_105 : Builder.Extra Tryz.prog Tryz.lays105_ren := {
  sizeBuilder := by kernel_rfl
  liesBuilder := by kernel_rfl
  t5 := Tryz.underlying5
  a5 := Tryz.isAgg5
  z5 := Tryz.sizeOf5
  v5 := Tryz.zeroValue5
  infoByte := by kernel_rfl
  cellsByte := by kernel_rfl
  sizeByte := by kernel_rfl
  neB5 := by decide }
open Go.RowKit Go.Lib in
theorem Tryz.strings_Repeat (s : ByteArray) (c : Nat) (w : World) (hc : c ≤ 9223372036854775807) (hlen : s.size * c ≤ 140737488355328) :
    Calls Tryz.prog 115 #[.string s, .int .i64 c] w fun e w' => e = .returned (.string ⟨(Lib.repeatL s.data.toList c).toArray⟩) ∧ Below w.heap.size w w' := Any.strings_Repeat Tryz.lays105 Tryz.Builder_Extra_105 s c w hc hlen
end Go.Proofs
namespace Go.Proofs.YtaealcimocpnnaaGreat
open Go.Kern Go.RowKit
theorem joinOk : JoinOk Tryz.prog 116 where
  fn := ⟨_, Tryz.func116, rfl, rfl⟩
  none := fun a c sep w => Tryz.strings_Join_none a c sep w
  some := fun bk o c xs sep w h1 h2 h3 h4 h5 => Tryz.strings_Join bk o c xs sep w h1 h2 h3 h4 h5
theorem repeat_spec (s : ByteArray) (c : Nat) (hc : c ≤ 9223372036854775807) (hlen : s.size * c ≤ 140737488355328) : Pure Tryz.prog 115 [.str s, .int .i64 c] (.str ⟨(Lib.repeatL s.data.toList c).toArray⟩) := fun σ => by
  refine ⟨⟨_, Tryz.func115, rfl, rfl⟩, fun g w vs hl hr hcn => ?_⟩
  obtain ⟨l⟩ := vs
  match l, hl with
  | [u, x], _ =>
    have h0 := hr 0 _ _ rfl rfl
    have h1 := hr 1 _ _ rfl rfl
    cases h0
    cases h1
    exact (Tryz.strings_Repeat s c w hc hlen).mono fun e w' ⟨he, hw⟩ => ⟨_, he, g, _, σ, .refl g, hcn.grow hw, .str _, rfl, rfl⟩
end Go.Proofs.YtaealcimocpnnaaGreat

namespace Go.Proofs.YtaealcimocpnnaaGreat
open Go.Kern
theorem szA (a b : ByteArray) : (a ++ b).size = a.size + b.size := ByteArray.size_append
theorem asA (a b c : ByteArray) : (a ++ b) ++ c = a ++ (b ++ c) := ByteArray.append_assoc
theorem emA (a : ByteArray) : a ++ (⟨#[]⟩ : ByteArray) = a := ByteArray.append_empty
theorem eA (a : ByteArray) : (⟨#[]⟩ : ByteArray) ++ a = a := ByteArray.empty_append
theorem szL (l : List UInt8) : (⟨l.toArray⟩ : ByteArray).size = l.length := by simp [ByteArray.size]
theorem szE : (⟨#[]⟩ : ByteArray).size = 0 := rfl
def digN (n : Nat) : List UInt8 := if n < 10 then [UInt8.ofNat (48 + n)] else digN (n / 10) ++ [UInt8.ofNat (48 + n % 10)]
termination_by n
decreasing_by omega
theorem digN_len : ∀ (k n : Nat), n < 10 ^ (k + 1) → (digN n).length ≤ k + 1
  | 0, n, h => by
    rw [digN, if_pos (by omega)]; simp
  | k + 1, n, h => by
    rw [digN]
    split
    · simp
    · have := digN_len k (n / 10) (by rw [Nat.pow_succ] at h; omega)
      simp only [List.length_append, List.length_cons, List.length_nil]; omega
def digB (n : Int) : ByteArray := ⟨(digN n.toNat).toArray⟩
theorem digB_size (n : Int) (h : n < 18446744073709551616) : (digB n).size ≤ 20 := by
  rw [digB, szL]
  exact digN_len 19 n.toNat (by omega)
theorem digB_small (n : Int) (h1 : n < 10) : digB n = ⟨#[UInt8.ofNat (48 + n.toNat)]⟩ := by
  rw [digB, digN, if_pos (by omega)]
theorem digB_step (n : Int) (h0 : 0 ≤ n) (h1 : ¬ n < 10) : digB n = digB (n / 10) ++ ⟨#[UInt8.ofNat (48 + (n % 10).toNat)]⟩ := by
  rw [digB, digN, if_neg (by omega)]
  have e1 : n.toNat / 10 = (n / 10).toNat := by omega
  have e2 : n.toNat % 10 = (n % 10).toNat := by omega
  rw [e1, e2, digB]
  apply B_inj.1
  simp [B]
def catB : List ByteArray → ByteArray
  | [] => ⟨#[]⟩
  | x :: r => x ++ catB r
theorem joinT_size (m : Nat) (sep : ByteArray) : ∀ l : List ByteArray, (∀ x ∈ l, x.size ≤ m) → (joinT sep l).size ≤ l.length * (m + sep.size)
  | [], _ => by rw [joinT, szE]; exact Nat.zero_le _
  | x :: r, h => by
    have h1 := h x List.mem_cons_self
    have h2 := joinT_size m sep r fun y hy => h y (List.mem_cons_of_mem _ hy)
    rw [joinT, szA, szA, List.length_cons, Nat.succ_mul]; omega
theorem joinOf_size (m : Nat) (sep : ByteArray) (l : List ByteArray) (h : ∀ x ∈ l, x.size ≤ m) : (joinOf sep l).size ≤ l.length * (m + sep.size) := by
  cases l with
  | nil => rw [joinOf, szE]; exact Nat.zero_le _
  | cons x r =>
    have h1 := h x List.mem_cons_self
    have h2 := joinT_size m sep r fun y hy => h y (List.mem_cons_of_mem _ hy)
    rw [joinOf, szA, List.length_cons, Nat.succ_mul]; omega
theorem joinOf_map {α : Type} (f : α → ByteArray) (m : Nat) (sep : ByteArray) (l : List α) (h : ∀ x ∈ l, (f x).size ≤ m) : (joinOf sep (l.map f)).size ≤ l.length * (m + sep.size) := by
  have := joinOf_size m sep (l.map f) fun y hy => by
    obtain ⟨x, hx, rfl⟩ := List.mem_map.1 hy
    exact h x hx
  rwa [List.length_map] at this
def blk : ByteArray := (⟨#[32]⟩ : ByteArray)
def comText (c : Com) : ByteArray :=
  if comMay c = true then
    (if c.asn = 65535 ∧ c.n = 65281 then (⟨#[110, 111, 45, 101, 120, 112, 111, 114, 116]⟩ : ByteArray) else if c.asn = 65535 ∧ c.n = 65282 then (⟨#[110, 111, 45, 97, 100, 118, 101, 114, 116, 105, 115, 101]⟩ : ByteArray) else if c.asn = 65535 ∧ c.n = 65283 then (⟨#[108, 111, 99, 97, 108]⟩ : ByteArray) else digB c.asn ++ (⟨#[58]⟩ : ByteArray) ++ digB c.n)
  else ⟨#[]⟩
theorem comMay_iff (c : Com) : comMay c = true ↔ 1 ≤ c.asn ∧ c.asn ≤ 65535 ∧ 0 ≤ c.n ∧ c.n ≤ 65535 := by
  simp [comMay, withinZ]; omega
theorem comText_size (c : Com) : (comText c).size ≤ 50 := by
  unfold comText
  split
  · rename_i h
    have h := (comMay_iff c).1 h
    split
    · decide
    · split
      · decide
      · split
        · decide
        · have h1 := digB_size c.asn (by omega)
          have h2 := digB_size c.n (by omega)
          rw [szA, szA]
          have : ((⟨#[58]⟩ : ByteArray)).size = 1 := rfl
          omega
  · decide
def octZ (a : Int) (k : Nat) : Int := bits .and .u32 (a.fdiv (2 ^ k)) 255
def pfxText (p : Pfx) : ByteArray :=
  if pfxMay p = true then joinOf (⟨#[46]⟩ : ByteArray) [digB (octZ p.a 24), digB (octZ p.a 16), digB (octZ p.a 8), digB (octZ p.a 0)] ++ (⟨#[47]⟩ : ByteArray) ++ digB p.b else ⟨#[]⟩
def Pfx.Ok (p : Pfx) : Prop := 0 ≤ p.a ∧ p.a < 4294967296
theorem octZ_eq {a : Int} (h0 : 0 ≤ a) (h1 : a < 4294967296) (k : Nat) : octZ a k = a / 2 ^ k % 256 := by
  unfold octZ
  have hp : (0 : Int) < 2 ^ k := Int.pow_pos (by decide)
  rw [Int.fdiv_eq_ediv_of_nonneg _ (Int.le_of_lt hp)]
  have g0 : 0 ≤ a / 2 ^ k := Int.ediv_nonneg h0 (Int.le_of_lt hp)
  have g1 : a / 2 ^ k ≤ a := Int.ediv_le_self _ h0
  rw [u32_and _ _ g0 (by omega) (by decide) (by decide)]
  have e : (255 : Int).toNat = 2 ^ 8 - 1 := rfl
  rw [e, Nat.and_two_pow_sub_one_eq_mod]
  omega
theorem octZ_ok {a : Int} (h0 : 0 ≤ a) (h1 : a < 4294967296) (k : Nat) : 0 ≤ octZ a k ∧ octZ a k < 256 := by
  rw [octZ_eq h0 h1]; omega
theorem pfxText_size (p : Pfx) (hp : p.Ok) : (pfxText p).size ≤ 200 := by
  unfold pfxText
  split
  · rename_i hm
    have hb : 0 ≤ p.b ∧ p.b ≤ 32 := by
      simp only [pfxMay, Bool.and_eq_true, decide_eq_true_eq] at hm
      exact hm.1
    have h := joinOf_size 20 (⟨#[46]⟩ : ByteArray) [digB (octZ p.a 24), digB (octZ p.a 16), digB (octZ p.a 8), digB (octZ p.a 0)] (by
      intro x hx
      simp only [List.mem_cons, List.not_mem_nil, or_false] at hx
      rcases hx with rfl | rfl | rfl | rfl
      all_goals exact digB_size _ (by have := (octZ_ok hp.1 hp.2 24).2; have := (octZ_ok hp.1 hp.2 16).2; have := (octZ_ok hp.1 hp.2 8).2; have := (octZ_ok hp.1 hp.2 0).2; omega))
    have h2 := digB_size p.b (by omega)
    have y1 : ((⟨#[46]⟩ : ByteArray)).size = 1 := rfl
    have y2 : ((⟨#[47]⟩ : ByteArray)).size = 1 := rfl
    simp only [List.length_cons, List.length_nil, y1] at h
    rw [szA, szA, y2]
    omega
  · rw [szE]; omega
def rngText (r : Rng) : ByteArray :=
  if rngMay r = true then
    (let s := (if r.permit = true then (⟨#[112, 101, 114, 109, 105, 116, 32]⟩ : ByteArray) else (⟨#[100, 101, 110, 121, 32]⟩ : ByteArray)) ++ pfxText r.p
     let s := if r.ge = r.p.b then s else s ++ ((⟨#[32, 103, 101, 32]⟩ : ByteArray) ++ digB r.ge)
     if r.le = r.ge then s else s ++ ((⟨#[32, 108, 101, 32]⟩ : ByteArray) ++ digB r.le))
  else ⟨#[]⟩
theorem rngText_size (r : Rng) (hp : r.p.Ok) : (rngText r).size ≤ 400 := by
  unfold rngText
  split
  · rename_i hm
    have hb : r.ge ≤ 32 ∧ r.le ≤ 32 := by
      simp only [rngMay, Bool.and_eq_true, decide_eq_true_eq] at hm
      omega
    have h1 := pfxText_size r.p hp
    have h2 := digB_size r.ge (by omega)
    have h3 := digB_size r.le (by omega)
    have y1 : ((⟨#[112, 101, 114, 109, 105, 116, 32]⟩ : ByteArray)).size = 7 := rfl
    have y2 : ((⟨#[100, 101, 110, 121, 32]⟩ : ByteArray)).size = 5 := rfl
    have y3 : ((⟨#[32, 103, 101, 32]⟩ : ByteArray)).size = 4 := rfl
    have y4 : ((⟨#[32, 108, 101, 32]⟩ : ByteArray)).size = 4 := rfl
    simp only
    split <;> split <;> split <;> simp only [szA, y1, y2, y3, y4] <;> omega
  · rw [szE]; omega
def repB (n : Nat) : ByteArray := ⟨(List.replicate n 32).toArray⟩
def lineB (n : Nat) (ws : List ByteArray) : ByteArray := repB n ++ (joinOf blk ws ++ (⟨#[10]⟩ : ByteArray))
def semi : List ByteArray → List ByteArray
  | [] => []
  | [x] => [x ++ (⟨#[59]⟩ : ByteArray)]
  | x :: r => x :: semi r
def someB (is : Bool) (ws : List ByteArray) : ByteArray := if is = true then lineB 2 (semi ws) else ⟨#[]⟩
def origin (n : Int) : ByteArray := if n = 1 then (⟨#[101, 103, 112]⟩ : ByteArray) else if n = 2 then (⟨#[110, 111, 110, 101]⟩ : ByteArray) else (⟨#[105, 103, 112]⟩ : ByteArray)
def max0 (n : Int) : Int := if n < 0 then 0 else n
def quoted (s : ByteArray) : ByteArray := (⟨#[34]⟩ : ByteArray) ++ s ++ (⟨#[34]⟩ : ByteArray)
def clsLines (c : Cls) : List ByteArray :=
  [lineB 1 [if c.permit = true then (⟨#[112, 101, 114, 109, 105, 116]⟩ : ByteArray) else (⟨#[100, 101, 110, 121]⟩ : ByteArray), digB c.n, (⟨#[123]⟩ : ByteArray)],
   someB (!decide (c.m.list = ⟨#[]⟩)) [(⟨#[109, 97, 116, 99, 104, 32, 112, 114, 101, 102, 105, 120]⟩ : ByteArray), c.m.list],
   someB (!decide (c.m.path = ⟨#[]⟩)) [(⟨#[109, 97, 116, 99, 104, 32, 112, 97, 116, 104]⟩ : ByteArray), quoted c.m.path],
   someB (!(decide (c.m.c.asn = 0) && decide (c.m.c.n = 0))) [(⟨#[109, 97, 116, 99, 104, 32, 99, 111, 109, 109, 117, 110, 105, 116, 121]⟩ : ByteArray), comText c.m.c],
   someB (decide ((0 : Int) ≤ c.s.pref)) [(⟨#[115, 101, 116, 32, 112, 114, 101, 102]⟩ : ByteArray), digB (max0 c.s.pref)],
   someB (decide ((0 : Int) ≤ c.s.med)) [(⟨#[115, 101, 116, 32, 109, 101, 100]⟩ : ByteArray), digB (max0 c.s.med)],
   someB (decide ((0 : Int) ≤ c.s.origin)) [(⟨#[115, 101, 116, 32, 111, 114, 105, 103, 105, 110]⟩ : ByteArray), origin (max0 c.s.origin)],
   someB c.s.clear [(⟨#[115, 101, 116, 32, 99, 111, 109, 109, 117, 110, 105, 116, 121, 32, 99, 108, 101, 97, 114]⟩ : ByteArray)],
   someB (decide ((0 : Int) < (c.s.del.length : Int))) [(⟨#[115, 101, 116, 32, 99, 111, 109, 109, 117, 110, 105, 116, 121, 32, 100, 101, 108]⟩ : ByteArray), joinOf blk (c.s.del.map comText)],
   someB (decide ((0 : Int) < (c.s.add.length : Int))) [(⟨#[115, 101, 116, 32, 99, 111, 109, 109, 117, 110, 105, 116, 121, 32, 97, 100, 100]⟩ : ByteArray), joinOf blk (c.s.add.map comText)],
   someB (decide ((0 : Int) < (c.s.pre.length : Int))) [(⟨#[115, 101, 116, 32, 112, 114, 101, 112, 101, 110, 100]⟩ : ByteArray), joinOf blk (c.s.pre.map digB)],
   lineB 1 [(⟨#[125]⟩ : ByteArray)]]
def clsText (c : Cls) : ByteArray := catB (clsLines c)
def lstText (x : LstD) : ByteArray := lineB 0 [(⟨#[112, 114, 101, 102, 105, 120, 45, 108, 105, 115, 116]⟩ : ByteArray), x.name, (⟨#[123]⟩ : ByteArray)] ++ (catB (x.l.map fun r => lineB 1 [rngText r ++ (⟨#[59]⟩ : ByteArray)]) ++ lineB 0 [(⟨#[125]⟩ : ByteArray)])
def mapText (x : MapD) : ByteArray := lineB 0 [(⟨#[114, 111, 117, 116, 101, 45, 109, 97, 112]⟩ : ByteArray), x.name, (⟨#[123]⟩ : ByteArray)] ++ (catB (x.l.map clsText) ++ lineB 0 [(⟨#[125]⟩ : ByteArray)])
def nw1 (n : Nbr) : ByteArray := if n.imp = ⟨#[]⟩ then n.name else n.name ++ ((⟨#[32, 105, 109, 112, 111, 114, 116, 32]⟩ : ByteArray) ++ n.imp)
def nw2 (n : Nbr) : ByteArray := if n.exp = ⟨#[]⟩ then nw1 n else nw1 n ++ ((⟨#[32, 101, 120, 112, 111, 114, 116, 32]⟩ : ByteArray) ++ n.exp)
def nbrWord (n : Nbr) : ByteArray := if n.client = true then nw2 n ++ (⟨#[32, 99, 108, 105, 101, 110, 116]⟩ : ByteArray) else nw2 n
def rtrText (x : Rtr) : ByteArray :=
  lineB 0 [(⟨#[114, 111, 117, 116, 101, 114]⟩ : ByteArray), x.name, (⟨#[123]⟩ : ByteArray)] ++ (lineB 1 [(⟨#[97, 115]⟩ : ByteArray), digB x.asn ++ (⟨#[59]⟩ : ByteArray)] ++ (lineB 1 [(⟨#[105, 100]⟩ : ByteArray), digB x.id ++ (⟨#[59]⟩ : ByteArray)] ++
    (catB (x.nets.map fun p => lineB 1 [(⟨#[110, 101, 116, 119, 111, 114, 107]⟩ : ByteArray), pfxText p ++ (⟨#[59]⟩ : ByteArray)]) ++ (catB (x.nbrs.map fun n => lineB 1 [(⟨#[110, 101, 105, 103, 104, 98, 111, 114]⟩ : ByteArray), nbrWord n ++ (⟨#[59]⟩ : ByteArray)]) ++
      (catB (x.links.map fun l => lineB 1 [(⟨#[108, 105, 110, 107]⟩ : ByteArray), l.name, (⟨#[99, 111, 115, 116]⟩ : ByteArray), digB l.cost ++ (⟨#[59]⟩ : ByteArray)]) ++ lineB 0 [(⟨#[125]⟩ : ByteArray)])))))
def cfgText (c : Cfg) : ByteArray := catB (c.lists.map lstText) ++ (catB (c.maps.map mapText) ++ catB (c.routers.map rtrText))
end Go.Proofs.YtaealcimocpnnaaGreat

namespace Go.Proofs.YtaealcimocpnnaaGreat
open Go.Kern Go.RowKit
theorem ck {P : Program} {f : FuncId} {args : List AV} {σ : Store} {K0 k : KK} {t : Tag k} (h : PCall P f args σ K0) (hk : ∀ r s, K0 r s → k r s) : PCall P f args σ (Hold k t) := h.mono hk
theorem ct {P : Program} {f : FuncId} {args : List AV} {v : AV} {k : AV → Prop} {σ : Store} (h : PCall P f args σ (fun r s' => r = v ∧ s' = σ)) (hk : k v) : ∃ v, PCall P f args σ (Hold (fun r s' => r = v ∧ s' = σ) .mk) ∧ k v := ⟨v, h, hk⟩
theorem liesW : LiesIn Tryz.prog 70 68 = true := by kernel_rfl
theorem xidE : XId Tryz.prog 180 := fun v w => by
  rw [run_callFunc_extern Tryz.func180 (by kernel_rfl) (by kernel_rfl) (by kernel_rfl) (e := Extern.AbiNoEscape.same) (by kernel_rfl)]
  rfl
set_option maxRecDepth 100000
set_option maxHeartbeats 4000000
attribute [local irreducible] PCall W
abbrev bldO (p buf : AV) : Ob := .arr 70 [.agg [p, buf]]
theorem copy_new (w : Nat) (buf : AV) (t : Store) (h : t w = some (bldO .nilp buf)) :
    PCall Tryz.prog 151 [.ptr w 0 0] t (fun r s => r = .tup [] ∧ s = t.put w (bldO (.ptr w 0 0) buf)) := by
  have hx := xidE
  have hl := liesW
  refine PCall_w [] 20 Tryz.func151 (by rfl) rfl rfl rfl rfl ?_
  repeat' first |refine s1 ?_|refine gS ?_|refine wT rfl ?_|refine wF rfl ?_|refine wt rfl ?_|refine wf rfl ?_|(refine wC rfl (fun h=>?_) (fun h=>?_)<;>(try contradiction))|((first|refine s3 (mu:=[1000010]) ?_|refine rd ?_|refine ry [1000010] c0 fun nu _ _=>?_);simp -dsimp (disch:=omega) only[go_sem,h, hx, hl])|refine e0 (by decide) ?_|(refine zA ?_ ?_;omega)|refine zA (of_eq_true PutAt_put) ?_|refine gT ?_|refine gF ?_|(refine gI (fun h=>?_) (fun h=>?_)<;>(try contradiction)<;>(try refine rd ?_)<;>(try simp -dsimp (disch:=omega) only[go_sem,h,h, hx, hl]))|refine zX _ (zX _ (zA (zA rfl rfl) ?_)) |fail
theorem copy_old (w : Nat) (buf : AV) (t : Store) (h : t w = some (bldO (.ptr w 0 0) buf)) :
    PCall Tryz.prog 151 [.ptr w 0 0] t (fun r s => r = .tup [] ∧ s = t) := by
  refine PCall_w [] 20 Tryz.func151 (by rfl) rfl rfl rfl rfl ?_
  repeat' first |refine s1 ?_|refine gS ?_|refine wT rfl ?_|refine wF rfl ?_|refine wt rfl ?_|refine wf rfl ?_|(refine wC rfl (fun h=>?_) (fun h=>?_)<;>(try contradiction))|((first|refine rd ?_|refine ry [] c0 fun nu _ _=>?_);simp -dsimp (disch:=omega) only[go_sem,h])|refine e0 (by decide) ?_|(refine zA ?_ ?_;omega)|refine zA (of_eq_true PutAt_put) ?_|refine gT ?_|refine gF ?_|(refine gI (fun h=>?_) (fun h=>?_)<;>(try contradiction)<;>(try refine rd ?_)<;>(try simp -dsimp (disch:=omega) only[go_sem,h,h]))|refine zX _ (zX _ (zA (zA rfl rfl) ?_)) |fail
def WS (σ : Store) (w : Nat) (s : ByteArray) (t : Store) : Prop :=
  σ.Sub t ∧ σ w = none ∧ ((s = ⟨#[]⟩ ∧ (t w = some (bldO .nilp (.sl .nil [])) ∨ t w = some (bldO (.ptr w 0 0) (.sl .nil [])))) ∨
    (0 < s.size ∧ ∃ o, o ≠ w ∧ σ o = none ∧ t w = some (bldO (.ptr w 0 0) (.ms o 1 0 s.size)) ∧ t o = some (.arr 5 (encL eB (B s)))))
theorem WS_put {σ t : Store} {w nu : Nat} {s : ByteArray} {x : Ob} (h : WS σ w s t) (hn : t nu = none) : WS σ w s (t.put nu x) := by
  obtain ⟨h1, h2, h3⟩ := h
  have hp : ∀ p y, t p = some y → (t.put nu x) p = some y := fun p y hy => by
    simp only [Store.put]
    rw [if_neg (fun e => by rw [e, hn] at hy; cases hy)]; exact hy
  refine ⟨fun p y hy => hp p y (h1 p y hy), h2, ?_⟩
  rcases h3 with ⟨h4, h5 | h5⟩ | ⟨h8, o, h4, h5, h6, h7⟩
  · exact .inl ⟨h4, .inl (hp _ _ h5)⟩
  · exact .inl ⟨h4, .inr (hp _ _ h5)⟩
  · exact .inr ⟨h8, o, h4, h5, hp _ _ h6, hp _ _ h7⟩
theorem WS_sub {σ σ' t : Store} {w : Nat} {s : ByteArray} (h : WS σ' w s t) (hs : σ.Sub σ') : WS σ w s t := by
  obtain ⟨h1, h2, h3⟩ := h
  have hn : ∀ p, σ' p = none → σ p = none := fun p hp => by
    cases hq : σ p with
    | none => rfl
    | some y => rw [hs p y hq] at hp; cases hp
  refine ⟨fun p y hy => h1 p y (hs p y hy), hn _ h2, ?_⟩
  rcases h3 with h3 | ⟨h8, o, h4, h5, h6⟩
  · exact .inl h3
  · exact .inr ⟨h8, o, h4, hn _ h5, h6⟩
theorem WS_ne {σ t : Store} {w nu : Nat} {s : ByteArray} (h : WS σ w s t) (hn : t nu = none) : nu ≠ w := fun e => by
  obtain ⟨_, _, h3⟩ := h
  rcases h3 with ⟨_, h3 | h3⟩ | ⟨_, _, _, _, h3, _⟩ <;> (rw [e, h3] at hn; cases hn)
theorem WS_put2 {σ t : Store} {w nu : Nat} {s : ByteArray} {x : Ob} (h : WS σ w s t) (hn : t nu = none) : WS (σ.put nu x) w s (t.put nu x) := by
  have hne := WS_ne h hn
  obtain ⟨h1, h2, h3⟩ := h
  have hp : ∀ p y, t p = some y → (t.put nu x) p = some y := fun p y hy => by
    simp only [Store.put]
    rw [if_neg (fun e => by rw [e, hn] at hy; cases hy)]; exact hy
  refine ⟨fun p y hy => ?_, by rw [put_ne (Ne.symm hne)]; exact h2, ?_⟩
  · simp only [Store.put] at hy ⊢
    split
    · rename_i e; rw [if_pos e] at hy; exact hy
    · rename_i e; rw [if_neg e] at hy; exact h1 p y hy
  rcases h3 with ⟨h4, h5 | h5⟩ | ⟨h8, o, h4, h5, h6, h7⟩
  · exact .inl ⟨h4, .inl (hp _ _ h5)⟩
  · exact .inl ⟨h4, .inr (hp _ _ h5)⟩
  · exact .inr ⟨h8, o, h4, by rw [put_ne (fun e => by rw [e, hn] at h7; cases h7)]; exact h5, hp _ _ h6, hp _ _ h7⟩
theorem Sub_none {σ t : Store} {o : Nat} (h : σ.Sub t) (ho : t o = none) : σ o = none := by
  cases hq : σ o with
  | none => rfl
  | some y => rw [h o y hq] at ho; cases ho
theorem B_app (a b : ByteArray) : B (a ++ b) = B a ++ B b := by simp [B]
theorem str_spec {σ t : Store} {w : Nat} {s : ByteArray} (x : ByteArray) (h : WS σ w s t) (hb : s.size + x.size ≤ 140737488355328) :
    PCall Tryz.prog 114 [.ptr w 0 0, .str x] t (fun r t' => r = .tup [.int .i64 x.size, .nilifc] ∧ WS σ w (s ++ x) t') := by
  obtain ⟨h1, h2, h3⟩ := h
  have hsub : ∀ (y : Ob), σ.Sub (t.put w y) := fun y => Sub_put h1 h2 y
  have hlx : (bytesA x).length = x.size := length_bytesA x
  rcases h3 with ⟨rfl, h5⟩ | ⟨h8, o, h4, h5, h6, h7⟩
  · have hc : PCall Tryz.prog 151 [.ptr w 0 0] t (fun r s => r = .tup [] ∧ s = t.put w (bldO (.ptr w 0 0) (.sl .nil []))) := by
      rcases h5 with h5 | h5
      · exact copy_new w _ t h5
      · rw [put_self h5]; exact copy_old w _ t h5
    by_cases hx : x.size = 0
    · skip
      refine PCall_w [.tmp 4, .tmp 5] 19 Tryz.func114 (by rfl) rfl rfl rfl rfl ?_
      repeat' first |refine s1 ?_|refine gS ?_|refine wT rfl ?_|refine wF rfl ?_|refine wt rfl ?_|refine wf rfl ?_|(refine wC rfl (fun h=>?_) (fun h=>?_)<;>(try contradiction))|((first|refine rd ?_|refine ry [] c0 fun nu _ _=>?_);simp -dsimp (disch:=omega) only[go_sem,hx])|refine e0 (by decide) ?_|(refine zA ?_ ?_;omega)|refine zA (of_eq_true PutAt_put) ?_|refine gT ?_|refine gF ?_|(refine gI (fun h=>?_) (fun h=>?_)<;>(try contradiction)<;>(try refine rd ?_)<;>(try simp -dsimp (disch:=omega) only[go_sem,h,hx]))|refine zX _ (zX _ (zA (zA rfl rfl) ?_)) |refine uw (hc) ?_ |fail
      refine ⟨_, Store.Sub.refl _, hsub _, h2, .inl ⟨?_, .inr (put_same ..)⟩⟩
      rw [(empty_iff x).2 hx]; rfl
    · skip
      refine PCall_w [.tmp 4, .tmp 5] 19 Tryz.func114 (by rfl) rfl rfl rfl rfl ?_
      repeat' first |refine s1 ?_|refine gS ?_|refine wT rfl ?_|refine wF rfl ?_|refine wt rfl ?_|refine wf rfl ?_|(refine wC rfl (fun h=>?_) (fun h=>?_)<;>(try contradiction))|((first|refine rd ?_|refine ry [] c0 fun nu _ _=>?_);simp -dsimp (disch:=omega) only[go_sem,hx])|refine e0 (by decide) ?_|(refine zA ?_ ?_;omega)|refine zA (of_eq_true PutAt_put) ?_|refine gT ?_|refine gF ?_|(refine gI (fun h=>?_) (fun h=>?_)<;>(try contradiction)<;>(try refine rd ?_)<;>(try simp -dsimp (disch:=omega) only[go_sem,h,hx]))|refine zX _ (zX _ (zA (zA rfl rfl) ?_)) |refine uw (hc) ?_ |fail
      intro o' ho'
      have hne := alloc_ne ho'
      have hot : t o' = none := by rw [← put_oth hne t]; exact ho'
      have hpn : ∀ (s : Store) (x : Ob), (s.put o' x) w = s w := fun s x => put_ne (Ne.symm hne)
      simp -dsimp (disch:=omega) only[go_sem,hpn]
      repeat' first |refine s1 ?_|refine gS ?_|refine wT rfl ?_|refine wF rfl ?_|refine wt rfl ?_|refine wf rfl ?_|(refine wC rfl (fun h=>?_) (fun h=>?_)<;>(try contradiction))|((first|refine rd ?_|refine ry [] c0 fun nu _ _=>?_);simp -dsimp (disch:=omega) only[go_sem,hpn])|refine e0 (by decide) ?_|(refine zA ?_ ?_;omega)|refine zA (of_eq_true PutAt_put) ?_|refine gT ?_|refine gF ?_|(refine gI (fun h=>?_) (fun h=>?_)<;>(try contradiction)<;>(try refine rd ?_)<;>(try simp -dsimp (disch:=omega) only[go_sem,h,hpn]))|refine zX _ (zX _ (zA (zA rfl rfl) ?_)) |fail
      have hem : (⟨#[]⟩ : ByteArray) ++ x = x := eA x
      refine ⟨_, Store.Sub.refl _, ?_, h2, .inr ⟨by rw [szA]; omega, o', hne, ?_, ?_, ?_⟩⟩
      · exact Sub_put (Sub_put (hsub _) (Sub_none h1 hot) _) h2 _
      · exact Sub_none h1 hot
      · rw [put_same, hem]
      · rw [put_ne hne, put_same, hem]
  · have hlb := length_B s
    have htk : (encL eB (B s)).take s.size = encL eB (B s) := by rw [take_encL, ← hlb, List.take_length]
    by_cases hx : x.size = 0
    · skip
      refine PCall_w [.tmp 4, .tmp 5] 19 Tryz.func114 (by rfl) rfl rfl rfl rfl ?_
      repeat' first |refine s1 ?_|refine gS ?_|refine wT rfl ?_|refine wF rfl ?_|refine wt rfl ?_|refine wf rfl ?_|(refine wC rfl (fun h=>?_) (fun h=>?_)<;>(try contradiction))|((first|refine rd ?_|refine ry [] c0 fun nu _ _=>?_);simp -dsimp (disch:=omega) only[go_sem,hx, h6, h7, hlb])|refine e0 (by decide) ?_|(refine zA ?_ ?_;omega)|refine zA (of_eq_true PutAt_put) ?_|refine gT ?_|refine gF ?_|(refine gI (fun h=>?_) (fun h=>?_)<;>(try contradiction)<;>(try refine rd ?_)<;>(try simp -dsimp (disch:=omega) only[go_sem,h,hx, h6, h7, hlb]))|refine zX _ (zX _ (zA (zA rfl rfl) ?_)) |refine uw (copy_old w _ t h6) ?_ |fail
      refine ⟨_, Store.Sub.refl _, ?_⟩
      rw [put_self h6, (empty_iff x).2 hx, emA]
      exact ⟨h1, h2, .inr ⟨h8, o, h4, h5, h6, h7⟩⟩
    · skip
      refine PCall_w [.tmp 4, .tmp 5] 19 Tryz.func114 (by rfl) rfl rfl rfl rfl ?_
      repeat' first |refine s1 ?_|refine gS ?_|refine wT rfl ?_|refine wF rfl ?_|refine wt rfl ?_|refine wf rfl ?_|(refine wC rfl (fun h=>?_) (fun h=>?_)<;>(try contradiction))|((first|refine rd ?_|refine ry [] c0 fun nu _ _=>?_);simp -dsimp (disch:=omega) only[go_sem,hx, h6, h7, hlb, htk, app_encL])|refine e0 (by decide) ?_|(refine zA ?_ ?_;omega)|refine zA (of_eq_true PutAt_put) ?_|refine gT ?_|refine gF ?_|(refine gI (fun h=>?_) (fun h=>?_)<;>(try contradiction)<;>(try refine rd ?_)<;>(try simp -dsimp (disch:=omega) only[go_sem,h,hx, h6, h7, hlb, htk, app_encL]))|refine zX _ (zX _ (zA (zA rfl rfl) ?_)) |refine uw (copy_old w _ t h6) ?_ |fail
      intro o' ho'
      have hne : o' ≠ w := fun e => by rw [e, h6] at ho'; cases ho'
      have hpn : ∀ (s : Store) (x : Ob), (s.put o' x) w = s w := fun s x => put_ne (Ne.symm hne)
      have hdr : (t.drop o) w = t w := by simp only [Store.drop]; rw [if_neg (Ne.symm h4)]
      simp -dsimp (disch:=omega) only[go_sem,hpn, hdr, h6]
      repeat' first |refine s1 ?_|refine gS ?_|refine wT rfl ?_|refine wF rfl ?_|refine wt rfl ?_|refine wf rfl ?_|(refine wC rfl (fun h=>?_) (fun h=>?_)<;>(try contradiction))|((first|refine rd ?_|refine ry [] c0 fun nu _ _=>?_);simp -dsimp (disch:=omega) only[go_sem,hpn, hdr, h6])|refine e0 (by decide) ?_|(refine zA ?_ ?_;omega)|refine zA (of_eq_true PutAt_put) ?_|refine gT ?_|refine gF ?_|(refine gI (fun h=>?_) (fun h=>?_)<;>(try contradiction)<;>(try refine rd ?_)<;>(try simp -dsimp (disch:=omega) only[go_sem,h,hpn, hdr, h6]))|refine zX _ (zX _ (zA (zA rfl rfl) ?_)) |fail
      refine ⟨_, Store.Sub.refl _, ?_, h2, .inr ⟨by rw [szA]; omega, o', hne, ?_, ?_, ?_⟩⟩
      · refine Sub_put (Sub_put (fun p y hp => ?_) (Sub_none h1 ho') _) h2 _
        simp only [Store.drop]
        rw [if_neg (fun e => by rw [e, h5] at hp; cases hp)]
        exact h1 p y hp
      · exact Sub_none h1 ho'
      · rw [put_same, szA]
      · rw [put_ne hne, put_same, B_app]
theorem rep_spec (n : Nat) (h : n ≤ 2) : Pure Tryz.prog 115 [.str ⟨#[32]⟩, .int .i64 n] (.str (repB n)) := by
  have h1 := repeat_spec ⟨#[32]⟩ n (by omega) (by simp [ByteArray.size]; omega)
  have e : (⟨(Lib.repeatL (⟨#[32]⟩ : ByteArray).data.toList n).toArray⟩ : ByteArray) = repB n := by
    match n, h with
    | 0, _ => rfl
    | 1, _ => rfl
    | 2, _ => rfl
  rw [e] at h1
  exact h1
theorem line_any {σ t : Store} {w : Nat} {s : ByteArray} (n : Nat) (ws : AV) (j : ByteArray) (h : WS σ w s t) (hn : n ≤ 2) (hj : ∀ t', σ.Sub t' → PCall Tryz.prog 116 [ws, .str ⟨#[32]⟩] t' (fun r s => r = .str j ∧ s = t'))
    (hb : s.size + (repB n ++ (j ++ (⟨#[10]⟩ : ByteArray))).size ≤ 140737488355328) :
    PCall Tryz.prog 56 [.ptr w 0 0, .int .i64 n, ws] t (fun r t' => r = .tup [] ∧ WS σ w (s ++ (repB n ++ (j ++ (⟨#[10]⟩ : ByteArray)))) t') := by
  have h1 := rep_spec n hn
  simp only [szA] at hb
  refine PCall_w [] 22 Tryz.func56 (by rfl) rfl rfl rfl rfl ?_
  repeat' first |refine s1 ?_|refine gS ?_|refine wT rfl ?_|refine wF rfl ?_|refine wt rfl ?_|refine wf rfl ?_|(refine wC rfl (fun h=>?_) (fun h=>?_)<;>(try contradiction))|((first|refine rd ?_|refine ry (id:=0) [] (cw [] [5] [] [] [5]) fun nu _ _=>?_|refine ry (id:=1) [] (cw [4] [5] [] [] [5]) fun nu _ _=>?_|refine ry [] c0 fun nu _ _=>?_);simp -dsimp (disch:=omega) only[go_sem])|refine e0 (by decide) ?_|(refine zA ?_ ?_;omega)|refine zA (of_eq_true PutAt_put) ?_|refine gT ?_|refine gF ?_|(refine gI (fun h=>?_) (fun h=>?_)<;>(try contradiction)<;>(try refine rd ?_)<;>(try simp -dsimp (disch:=omega) only[go_sem,h]))|refine zX _ (zX _ (zA (zA rfl rfl) ?_)) |refine us (h1) ?_ |fail
  refine ck (str_spec _ h (by omega)) ?_
  rintro _ t1 ⟨rfl, hw⟩
  repeat' first |refine s1 ?_|refine gS ?_|refine wT rfl ?_|refine wF rfl ?_|refine wt rfl ?_|refine wf rfl ?_|(refine wC rfl (fun h=>?_) (fun h=>?_)<;>(try contradiction))|((first|refine rd ?_|refine ry (id:=1) [] (cw [4] [5] [] [] [5]) fun nu _ _=>?_|refine ry [] c0 fun nu _ _=>?_);simp -dsimp (disch:=omega) only[go_sem])|refine e0 (by decide) ?_|(refine zA ?_ ?_;omega)|refine zA (of_eq_true PutAt_put) ?_|refine gT ?_|refine gF ?_|(refine gI (fun h=>?_) (fun h=>?_)<;>(try contradiction)<;>(try refine rd ?_)<;>(try simp -dsimp (disch:=omega) only[go_sem,h]))|refine zX _ (zX _ (zA (zA rfl rfl) ?_)) |refine ct (hj _ hw.1) ?_ |fail
  refine ck (str_spec _ hw (by simp only [szA]; omega)) ?_
  rintro _ t2 ⟨rfl, hw2⟩
  repeat' first |refine s1 ?_|refine gS ?_|refine wT rfl ?_|refine wF rfl ?_|refine wt rfl ?_|refine wf rfl ?_|(refine wC rfl (fun h=>?_) (fun h=>?_)<;>(try contradiction))|((first|refine rd ?_|refine ry [] c0 fun nu _ _=>?_);simp -dsimp (disch:=omega) only[go_sem])|refine e0 (by decide) ?_|(refine zA ?_ ?_;omega)|refine zA (of_eq_true PutAt_put) ?_|refine gT ?_|refine gF ?_|(refine gI (fun h=>?_) (fun h=>?_)<;>(try contradiction)<;>(try refine rd ?_)<;>(try simp -dsimp (disch:=omega) only[go_sem,h]))|refine zX _ (zX _ (zA (zA rfl rfl) ?_)) |fail
  refine ck (str_spec _ hw2 (by simp only [szA]; omega)) ?_
  rintro _ t3 ⟨rfl, hw3⟩
  repeat' first |refine s1 ?_|refine gS ?_|refine wT rfl ?_|refine wF rfl ?_|refine wt rfl ?_|refine wf rfl ?_|(refine wC rfl (fun h=>?_) (fun h=>?_)<;>(try contradiction))|((first|refine rd ?_|refine ry [] c0 fun nu _ _=>?_);simp -dsimp (disch:=omega) only[go_sem])|refine e0 (by decide) ?_|(refine zA ?_ ?_;omega)|refine zA (of_eq_true PutAt_put) ?_|refine gT ?_|refine gF ?_|(refine gI (fun h=>?_) (fun h=>?_)<;>(try contradiction)<;>(try refine rd ?_)<;>(try simp -dsimp (disch:=omega) only[go_sem,h]))|refine zX _ (zX _ (zA (zA rfl rfl) ?_)) |fail
  refine ⟨_, Store.Sub.refl _, ?_⟩
  simp only [asA] at hw3
  exact hw3
theorem line_sl {σ t : Store} {w : Nat} {s : ByteArray} (n : Nat) (k : SK) (ws : List ByteArray) (h : WS σ w s t) (hn : n ≤ 2) (hl : ws.length ≤ 10) (hb : s.size + (lineB n ws).size ≤ 140737488355328) :
    PCall Tryz.prog 56 [.ptr w 0 0, .int .i64 n, .sl k (ws.map AV.str)] t (fun r t' => r = .tup [] ∧ WS σ w (s ++ lineB n ws) t') :=
  line_any n _ _ h hn (fun t' _ => join_sl joinOk k ws blk (by omega) (by unfold lineB at hb; simp only [szA] at hb; omega) t') hb
theorem line_ms {σ t : Store} {w o : Nat} {e : TypeId} {s : ByteArray} (n : Nat) (ws : List ByteArray) (h : WS σ w s t) (ho : σ o = some (.arr e (ws.map AV.str))) (hne : ws ≠ []) (hn : n ≤ 2) (hl : ws.length ≤ 10) (hb : s.size + (lineB n ws).size ≤ 140737488355328) :
    PCall Tryz.prog 56 [.ptr w 0 0, .int .i64 n, .ms o 1 0 ws.length] t (fun r t' => r = .tup [] ∧ WS σ w (s ++ lineB n ws) t') :=
  line_any n _ _ h hn (fun t' ht => join_ms joinOk o e ws blk (by omega) (by unfold lineB at hb; simp only [szA] at hb; omega) hne t' (ht o _ ho)) hb
theorem line1 {σ t : Store} {w : Nat} {s : ByteArray} (n : Nat) (k : SK) (a : ByteArray) (h : WS σ w s t) (hn : n ≤ 2) (hb : s.size + (lineB n [a]).size ≤ 140737488355328) :
    PCall Tryz.prog 56 [.ptr w 0 0, .int .i64 n, .sl k [.str a]] t (fun r t' => r = .tup [] ∧ WS σ w (s ++ lineB n [a]) t') := line_sl n k [a] h hn (by simp) hb
theorem line2 {σ t : Store} {w : Nat} {s : ByteArray} (n : Nat) (k : SK) (a b : ByteArray) (h : WS σ w s t) (hn : n ≤ 2) (hb : s.size + (lineB n [a, b]).size ≤ 140737488355328) :
    PCall Tryz.prog 56 [.ptr w 0 0, .int .i64 n, .sl k [.str a, .str b]] t (fun r t' => r = .tup [] ∧ WS σ w (s ++ lineB n [a, b]) t') := line_sl n k [a, b] h hn (by simp) hb
theorem line3 {σ t : Store} {w : Nat} {s : ByteArray} (n : Nat) (k : SK) (a b c : ByteArray) (h : WS σ w s t) (hn : n ≤ 2) (hb : s.size + (lineB n [a, b, c]).size ≤ 140737488355328) :
    PCall Tryz.prog 56 [.ptr w 0 0, .int .i64 n, .sl k [.str a, .str b, .str c]] t (fun r t' => r = .tup [] ∧ WS σ w (s ++ lineB n [a, b, c]) t') := line_sl n k [a, b, c] h hn (by simp) hb
theorem line4 {σ t : Store} {w : Nat} {s : ByteArray} (n : Nat) (k : SK) (a b c d : ByteArray) (h : WS σ w s t) (hn : n ≤ 2) (hb : s.size + (lineB n [a, b, c, d]).size ≤ 140737488355328) :
    PCall Tryz.prog 56 [.ptr w 0 0, .int .i64 n, .sl k [.str a, .str b, .str c, .str d]] t (fun r t' => r = .tup [] ∧ WS σ w (s ++ lineB n [a, b, c, d]) t') := line_sl n k [a, b, c, d] h hn (by simp) hb
theorem some1 {σ t : Store} {w o : Nat} {e : TypeId} {s : ByteArray} (is : Bool) (a : ByteArray) (h : WS σ w s t) (hn : t o = none) (hb : s.size + (someB is [a]).size ≤ 140737488355328) (hb1 : a.size ≤ 140737488355328) :
    PCall Tryz.prog 118 [.ptr w 0 0, .bool is, .ms o 1 0 1] (t.put o (.arr e [.str a])) (fun r t' => r = .tup [] ∧ WS σ w (s ++ someB is [a]) t') := by
  have hσo := Sub_none h.1 hn
  refine PCall_w [] 18 Tryz.func118 (by rfl) rfl rfl rfl rfl ?_
  rcases Bool.eq_false_or_eq_true is with rfl | rfl
  · have hs1 : (⟨#[59]⟩ : ByteArray).size = 1 := rfl
    have hi1 : (((1 : Nat) : Int) - 1).toNat = 0 := rfl
    repeat' first |refine s1 ?_|refine gS ?_|refine wT rfl ?_|refine wF rfl ?_|refine wt rfl ?_|refine wf rfl ?_|(refine wC rfl (fun h=>?_) (fun h=>?_)<;>(try contradiction))|((first|refine rd ?_|refine ry [] c0 fun nu _ _=>?_);simp -dsimp (disch:=omega) only[go_sem,szA, hs1, hi1])|refine e0 (by decide) ?_|(refine zA ?_ ?_;omega)|refine zA (of_eq_true PutAt_put) ?_|refine gT ?_|refine gF ?_|(refine gI (fun h=>?_) (fun h=>?_)<;>(try contradiction)<;>(try refine rd ?_)<;>(try simp -dsimp (disch:=omega) only[go_sem,h,szA, hs1, hi1]))|refine zX _ (zX _ (zA (zA rfl rfl) ?_)) |fail
    have hw1 : WS (σ.put o (.arr e [.str (a ++ (⟨#[59]⟩ : ByteArray))])) w s (t.put o (.arr e [.str (a ++ (⟨#[59]⟩ : ByteArray))])) := WS_put2 h hn
    refine ck (line_ms 2 [a ++ (⟨#[59]⟩ : ByteArray)] hw1 (put_same ..) (by simp) (by omega) (by simp) hb) ?_
    rintro _ t1 ⟨rfl, hw⟩
    repeat' first |refine s1 ?_|refine gS ?_|refine wT rfl ?_|refine wF rfl ?_|refine wt rfl ?_|refine wf rfl ?_|(refine wC rfl (fun h=>?_) (fun h=>?_)<;>(try contradiction))|((first|refine rd ?_|refine ry [] c0 fun nu _ _=>?_);simp -dsimp (disch:=omega) only[go_sem])|refine e0 (by decide) ?_|(refine zA ?_ ?_;omega)|refine zA (of_eq_true PutAt_put) ?_|refine gT ?_|refine gF ?_|(refine gI (fun h=>?_) (fun h=>?_)<;>(try contradiction)<;>(try refine rd ?_)<;>(try simp -dsimp (disch:=omega) only[go_sem,h]))|refine zX _ (zX _ (zA (zA rfl rfl) ?_)) |fail
    exact ⟨_, Store.Sub.refl _, WS_sub hw (Sub_new hσo)⟩
  · skip
    repeat' first |refine s1 ?_|refine gS ?_|refine wT rfl ?_|refine wF rfl ?_|refine wt rfl ?_|refine wf rfl ?_|(refine wC rfl (fun h=>?_) (fun h=>?_)<;>(try contradiction))|((first|refine rd ?_|refine ry [] c0 fun nu _ _=>?_);simp -dsimp (disch:=omega) only[go_sem])|refine e0 (by decide) ?_|(refine zA ?_ ?_;omega)|refine zA (of_eq_true PutAt_put) ?_|refine gT ?_|refine gF ?_|(refine gI (fun h=>?_) (fun h=>?_)<;>(try contradiction)<;>(try refine rd ?_)<;>(try simp -dsimp (disch:=omega) only[go_sem,h]))|refine zX _ (zX _ (zA (zA rfl rfl) ?_)) |fail
    refine ⟨_, Store.Sub.refl _, ?_⟩
    rw [show someB false [a] = ⟨#[]⟩ from rfl, emA]
    exact WS_put h hn
theorem some2 {σ t : Store} {w o : Nat} {e : TypeId} {s : ByteArray} (is : Bool) (a b : ByteArray) (h : WS σ w s t) (hn : t o = none) (hb : s.size + (someB is [a, b]).size ≤ 140737488355328) (hb1 : b.size ≤ 140737488355328) :
    PCall Tryz.prog 118 [.ptr w 0 0, .bool is, .ms o 1 0 2] (t.put o (.arr e [.str a, .str b])) (fun r t' => r = .tup [] ∧ WS σ w (s ++ someB is [a, b]) t') := by
  have hσo := Sub_none h.1 hn
  refine PCall_w [] 18 Tryz.func118 (by rfl) rfl rfl rfl rfl ?_
  rcases Bool.eq_false_or_eq_true is with rfl | rfl
  · have hs1 : (⟨#[59]⟩ : ByteArray).size = 1 := rfl
    have hi1 : (((2 : Nat) : Int) - 1).toNat = 1 := rfl
    repeat' first |refine s1 ?_|refine gS ?_|refine wT rfl ?_|refine wF rfl ?_|refine wt rfl ?_|refine wf rfl ?_|(refine wC rfl (fun h=>?_) (fun h=>?_)<;>(try contradiction))|((first|refine rd ?_|refine ry [] c0 fun nu _ _=>?_);simp -dsimp (disch:=omega) only[go_sem,szA, hs1, hi1])|refine e0 (by decide) ?_|(refine zA ?_ ?_;omega)|refine zA (of_eq_true PutAt_put) ?_|refine gT ?_|refine gF ?_|(refine gI (fun h=>?_) (fun h=>?_)<;>(try contradiction)<;>(try refine rd ?_)<;>(try simp -dsimp (disch:=omega) only[go_sem,h,szA, hs1, hi1]))|refine zX _ (zX _ (zA (zA rfl rfl) ?_)) |fail
    have hw1 : WS (σ.put o (.arr e [.str a, .str (b ++ (⟨#[59]⟩ : ByteArray))])) w s (t.put o (.arr e [.str a, .str (b ++ (⟨#[59]⟩ : ByteArray))])) := WS_put2 h hn
    refine ck (line_ms 2 [a, b ++ (⟨#[59]⟩ : ByteArray)] hw1 (put_same ..) (by simp) (by omega) (by simp) hb) ?_
    rintro _ t1 ⟨rfl, hw⟩
    repeat' first |refine s1 ?_|refine gS ?_|refine wT rfl ?_|refine wF rfl ?_|refine wt rfl ?_|refine wf rfl ?_|(refine wC rfl (fun h=>?_) (fun h=>?_)<;>(try contradiction))|((first|refine rd ?_|refine ry [] c0 fun nu _ _=>?_);simp -dsimp (disch:=omega) only[go_sem])|refine e0 (by decide) ?_|(refine zA ?_ ?_;omega)|refine zA (of_eq_true PutAt_put) ?_|refine gT ?_|refine gF ?_|(refine gI (fun h=>?_) (fun h=>?_)<;>(try contradiction)<;>(try refine rd ?_)<;>(try simp -dsimp (disch:=omega) only[go_sem,h]))|refine zX _ (zX _ (zA (zA rfl rfl) ?_)) |fail
    exact ⟨_, Store.Sub.refl _, WS_sub hw (Sub_new hσo)⟩
  · skip
    repeat' first |refine s1 ?_|refine gS ?_|refine wT rfl ?_|refine wF rfl ?_|refine wt rfl ?_|refine wf rfl ?_|(refine wC rfl (fun h=>?_) (fun h=>?_)<;>(try contradiction))|((first|refine rd ?_|refine ry [] c0 fun nu _ _=>?_);simp -dsimp (disch:=omega) only[go_sem])|refine e0 (by decide) ?_|(refine zA ?_ ?_;omega)|refine zA (of_eq_true PutAt_put) ?_|refine gT ?_|refine gF ?_|(refine gI (fun h=>?_) (fun h=>?_)<;>(try contradiction)<;>(try refine rd ?_)<;>(try simp -dsimp (disch:=omega) only[go_sem,h]))|refine zX _ (zX _ (zA (zA rfl rfl) ?_)) |fail
    refine ⟨_, Store.Sub.refl _, ?_⟩
    rw [show someB false [a, b] = ⟨#[]⟩ from rfl, emA]
    exact WS_put h hn
end Go.Proofs.YtaealcimocpnnaaGreat

namespace Go.Proofs.YtaealcimocpnnaaGreat
open Go.Kern Go.RowKit
theorem wr32 {x : Int} (h1 : 0 ≤ x) (h2 : x ≤ 4294967295) : IntKind.u32.wrap x = x := IntWalk.u32_in _ ⟨h1, h2⟩
theorem sz1 (x : UInt8) : (⟨#[x]⟩ : ByteArray).size = 1 := rfl
theorem wr8' {x : Int} (h1 : 0 ≤ x) (h2 : x < 10) : IntKind.u8.wrap (48 + x) = 48 + x := wr8 (by omega) (by omega)
theorem toN {x : Int} (h1 : 0 ≤ x) : (48 + x).toNat = 48 + x.toNat := by omega
theorem t10 : ((10 : Int) = 0) = False := eq_false (by decide)
theorem un1 (x : UInt8) : ({ data := #[x] ++ ByteArray.empty.data } : ByteArray) = ⟨#[x]⟩ := rfl
theorem un2 (x y : UInt8) : ({ data := #[x] ++ #[y] } : ByteArray) = ⟨#[x, y]⟩ := rfl
set_option maxRecDepth 100000
set_option maxHeartbeats 4000000
attribute [local irreducible] PCall W
theorem digS_spec : ∀ (m : Nat) (n : Int), 0 ≤ n → n.toNat < m → n ≤ 9223372036854775807 → Pure Tryz.prog 59 [.int .i64 n] (.str (digB n))
  | 0, n, h0, hm, hb => absurd hm (Nat.not_lt_zero _)
  | m + 1, n, h0, hm, hb => by
    intro σ
    have w1 : IntKind.i64.wrap (48 + n % 10) = 48 + n % 10 := wrI (by omega) (by omega)
    have hr : n.tmod 10 = n % 10 := Int.tmod_eq_emod_of_nonneg h0
    have hq : n.tdiv 10 = n / 10 := Int.tdiv_eq_ediv_of_nonneg h0
    have w2 : IntKind.i64.wrap (n / 10) = n / 10 := wrI (by omega) (by omega)
    by_cases h : n < 10
    · have w3 : IntKind.i64.wrap (48 + n) = 48 + n := wrI (by omega) (by omega)
      rw [digB_small n h, ← toN h0]
      refine PCall_q [.tmp 2] 20 Tryz.func59 (by rfl) rfl rfl rfl rfl ?_
      repeat' first |refine s1 ?_|refine gS ?_|refine wT rfl ?_|refine wF rfl ?_|refine wt rfl ?_|refine wf rfl ?_|(refine wC rfl (fun h=>?_) (fun h=>?_)<;>(try contradiction))|((first|refine rd ?_|refine ry [] c0 fun nu _ _=>?_);simp -dsimp (disch:=omega) only[go_sem,w3, wr8' h0 h, un1])|refine e0 (by decide) ?_|(refine zA ?_ ?_;omega)|refine zA (of_eq_true PutAt_put) ?_|refine gT ?_|refine gF ?_|(refine gI (fun h=>?_) (fun h=>?_)<;>(try contradiction)<;>(try refine rd ?_)<;>(try simp -dsimp (disch:=omega) only[go_sem,h,w3, wr8' h0 h, un1]))|refine zX _ (zX _ (zA (zA rfl rfl) ?_)) |fail
    · have ih := digS_spec m (n / 10) (by omega) (by omega) (by omega)
      have z := digB_size (n / 10) (by omega)
      have h2 := wr8' (x := n % 10) (by omega) (by omega)
      rw [digB_step n h0 h, ← toN (x := n % 10) (by omega)]
      refine PCall_q [.tmp 2] 20 Tryz.func59 (by rfl) rfl rfl rfl rfl ?_
      repeat' first |refine s1 ?_|refine gS ?_|refine wT rfl ?_|refine wF rfl ?_|refine wt rfl ?_|refine wf rfl ?_|(refine wC rfl (fun h=>?_) (fun h=>?_)<;>(try contradiction))|((first|refine rd ?_|refine ry [] c0 fun nu _ _=>?_);simp -dsimp (disch:=omega) only[go_sem,hq, hr, w1, w2, h2, sz1, t10, un1, c0])|refine e0 (by decide) ?_|(refine zA ?_ ?_;omega)|refine zA (of_eq_true PutAt_put) ?_|refine gT ?_|refine gF ?_|(refine gI (fun h=>?_) (fun h=>?_)<;>(try contradiction)<;>(try refine rd ?_)<;>(try simp -dsimp (disch:=omega) only[go_sem,h,hq, hr, w1, w2, h2, sz1, t10, un1, c0]))|refine zX _ (zX _ (zA (zA rfl rfl) ?_)) |refine us (ih) ?_ |fail
theorem digC_spec : ∀ (m : Nat) (n : Int), 0 ≤ n → n.toNat < m → n ≤ 9223372036854775807 → Pure Tryz.prog 158 [.int .i64 n] (.str (digB n))
  | 0, n, h0, hm, hb => absurd hm (Nat.not_lt_zero _)
  | m + 1, n, h0, hm, hb => by
    intro σ
    have w1 : IntKind.i64.wrap (48 + n % 10) = 48 + n % 10 := wrI (by omega) (by omega)
    have hr : n.tmod 10 = n % 10 := Int.tmod_eq_emod_of_nonneg h0
    have hq : n.tdiv 10 = n / 10 := Int.tdiv_eq_ediv_of_nonneg h0
    have w2 : IntKind.i64.wrap (n / 10) = n / 10 := wrI (by omega) (by omega)
    by_cases h : n < 10
    · have w3 : IntKind.i64.wrap (48 + n) = 48 + n := wrI (by omega) (by omega)
      rw [digB_small n h, ← toN h0]
      refine PCall_q [.tmp 2] 20 Tryz.func158 (by rfl) rfl rfl rfl rfl ?_
      repeat' first |refine s1 ?_|refine gS ?_|refine wT rfl ?_|refine wF rfl ?_|refine wt rfl ?_|refine wf rfl ?_|(refine wC rfl (fun h=>?_) (fun h=>?_)<;>(try contradiction))|((first|refine rd ?_|refine ry [] c0 fun nu _ _=>?_);simp -dsimp (disch:=omega) only[go_sem,w3, wr8' h0 h, un1])|refine e0 (by decide) ?_|(refine zA ?_ ?_;omega)|refine zA (of_eq_true PutAt_put) ?_|refine gT ?_|refine gF ?_|(refine gI (fun h=>?_) (fun h=>?_)<;>(try contradiction)<;>(try refine rd ?_)<;>(try simp -dsimp (disch:=omega) only[go_sem,h,w3, wr8' h0 h, un1]))|refine zX _ (zX _ (zA (zA rfl rfl) ?_)) |fail
    · have ih := digC_spec m (n / 10) (by omega) (by omega) (by omega)
      have z := digB_size (n / 10) (by omega)
      have h2 := wr8' (x := n % 10) (by omega) (by omega)
      rw [digB_step n h0 h, ← toN (x := n % 10) (by omega)]
      refine PCall_q [.tmp 2] 20 Tryz.func158 (by rfl) rfl rfl rfl rfl ?_
      repeat' first |refine s1 ?_|refine gS ?_|refine wT rfl ?_|refine wF rfl ?_|refine wt rfl ?_|refine wf rfl ?_|(refine wC rfl (fun h=>?_) (fun h=>?_)<;>(try contradiction))|((first|refine rd ?_|refine ry [] c0 fun nu _ _=>?_);simp -dsimp (disch:=omega) only[go_sem,hq, hr, w1, w2, h2, sz1, t10, un1, c0])|refine e0 (by decide) ?_|(refine zA ?_ ?_;omega)|refine zA (of_eq_true PutAt_put) ?_|refine gT ?_|refine gF ?_|(refine gI (fun h=>?_) (fun h=>?_)<;>(try contradiction)<;>(try refine rd ?_)<;>(try simp -dsimp (disch:=omega) only[go_sem,h,hq, hr, w1, w2, h2, sz1, t10, un1, c0]))|refine zX _ (zX _ (zA (zA rfl rfl) ?_)) |refine us (ih) ?_ |fail
theorem digA_spec : ∀ (m : Nat) (n : Int), 0 ≤ n → n.toNat < m → n ≤ 4294967295 → Pure Tryz.prog 122 [.int .u32 n] (.str (digB n))
  | 0, n, h0, hm, hb => absurd hm (Nat.not_lt_zero _)
  | m + 1, n, h0, hm, hb => by
    intro σ
    have w1 : IntKind.u32.wrap (48 + n % 10) = 48 + n % 10 := wr32 (by omega) (by omega)
    have hr : n.tmod 10 = n % 10 := Int.tmod_eq_emod_of_nonneg h0
    have hq : n.tdiv 10 = n / 10 := Int.tdiv_eq_ediv_of_nonneg h0
    have w2 : IntKind.u32.wrap (n / 10) = n / 10 := wr32 (by omega) (by omega)
    by_cases h : n < 10
    · have w3 : IntKind.u32.wrap (48 + n) = 48 + n := wr32 (by omega) (by omega)
      rw [digB_small n h, ← toN h0]
      refine PCall_q [.tmp 2] 20 Tryz.func122 (by rfl) rfl rfl rfl rfl ?_
      repeat' first |refine s1 ?_|refine gS ?_|refine wT rfl ?_|refine wF rfl ?_|refine wt rfl ?_|refine wf rfl ?_|(refine wC rfl (fun h=>?_) (fun h=>?_)<;>(try contradiction))|((first|refine rd ?_|refine ry [] c0 fun nu _ _=>?_);simp -dsimp (disch:=omega) only[go_sem,w3, wr8' h0 h, un1])|refine e0 (by decide) ?_|(refine zA ?_ ?_;omega)|refine zA (of_eq_true PutAt_put) ?_|refine gT ?_|refine gF ?_|(refine gI (fun h=>?_) (fun h=>?_)<;>(try contradiction)<;>(try refine rd ?_)<;>(try simp -dsimp (disch:=omega) only[go_sem,h,w3, wr8' h0 h, un1]))|refine zX _ (zX _ (zA (zA rfl rfl) ?_)) |fail
    · have ih := digA_spec m (n / 10) (by omega) (by omega) (by omega)
      have z := digB_size (n / 10) (by omega)
      have h2 := wr8' (x := n % 10) (by omega) (by omega)
      rw [digB_step n h0 h, ← toN (x := n % 10) (by omega)]
      refine PCall_q [.tmp 2] 20 Tryz.func122 (by rfl) rfl rfl rfl rfl ?_
      repeat' first |refine s1 ?_|refine gS ?_|refine wT rfl ?_|refine wF rfl ?_|refine wt rfl ?_|refine wf rfl ?_|(refine wC rfl (fun h=>?_) (fun h=>?_)<;>(try contradiction))|((first|refine rd ?_|refine ry [] c0 fun nu _ _=>?_);simp -dsimp (disch:=omega) only[go_sem,hq, hr, w1, w2, h2, sz1, t10, un1, c0])|refine e0 (by decide) ?_|(refine zA ?_ ?_;omega)|refine zA (of_eq_true PutAt_put) ?_|refine gT ?_|refine gF ?_|(refine gI (fun h=>?_) (fun h=>?_)<;>(try contradiction)<;>(try refine rd ?_)<;>(try simp -dsimp (disch:=omega) only[go_sem,h,hq, hr, w1, w2, h2, sz1, t10, un1, c0]))|refine zX _ (zX _ (zA (zA rfl rfl) ?_)) |refine us (ih) ?_ |fail
theorem digP_spec (n : Int) (h0 : 0 ≤ n) (h1 : n < 100) : Pure Tryz.prog 117 [.int .i64 n] (.str (digB n)) := by
  intro σ
  have hr : n.tmod 10 = n % 10 := Int.tmod_eq_emod_of_nonneg h0
  have hq : n.tdiv 10 = n / 10 := Int.tdiv_eq_ediv_of_nonneg h0
  by_cases h : n < 10
  · rw [digB_small n h, ← toN h0]
    refine PCall_q [.tmp 2] 20 Tryz.func117 (by rfl) rfl rfl rfl rfl ?_
    repeat' first |refine s1 ?_|refine gS ?_|refine wT rfl ?_|refine wF rfl ?_|refine wt rfl ?_|refine wf rfl ?_|(refine wC rfl (fun h=>?_) (fun h=>?_)<;>(try contradiction))|((first|refine rd ?_|refine ry [] c0 fun nu _ _=>?_);simp -dsimp (disch:=omega) only[go_sem,wr8' h0 h, un1])|refine e0 (by decide) ?_|(refine zA ?_ ?_;omega)|refine zA (of_eq_true PutAt_put) ?_|refine gT ?_|refine gF ?_|(refine gI (fun h=>?_) (fun h=>?_)<;>(try contradiction)<;>(try refine rd ?_)<;>(try simp -dsimp (disch:=omega) only[go_sem,h,wr8' h0 h, un1]))|refine zX _ (zX _ (zA (zA rfl rfl) ?_)) |fail
  · have h2 := wr8' (x := n % 10) (by omega) (by omega)
    have h3 := wr8' (x := n / 10) (by omega) (by omega)
    have e : digB n = ⟨#[UInt8.ofNat (48 + n / 10).toNat, UInt8.ofNat (48 + n % 10).toNat]⟩ := by
      rw [digB_step n h0 h, digB_small (n / 10) (by omega), ← toN (x := n % 10) (by omega), ← toN (x := n / 10) (by omega)]
      rfl
    rw [e]
    refine PCall_q [.tmp 2] 20 Tryz.func117 (by rfl) rfl rfl rfl rfl ?_
    repeat' first |refine s1 ?_|refine gS ?_|refine wT rfl ?_|refine wF rfl ?_|refine wt rfl ?_|refine wf rfl ?_|(refine wC rfl (fun h=>?_) (fun h=>?_)<;>(try contradiction))|((first|refine rd ?_|refine ry [] c0 fun nu _ _=>?_);simp -dsimp (disch:=omega) only[go_sem,hq, hr, h2, h3, t10, un1, un2, c0])|refine e0 (by decide) ?_|(refine zA ?_ ?_;omega)|refine zA (of_eq_true PutAt_put) ?_|refine gT ?_|refine gF ?_|(refine gI (fun h=>?_) (fun h=>?_)<;>(try contradiction)<;>(try refine rd ?_)<;>(try simp -dsimp (disch:=omega) only[go_sem,h,hq, hr, h2, h3, t10, un1, un2, c0]))|refine zX _ (zX _ (zA (zA rfl rfl) ?_)) |fail
theorem noExport_spec : Pure Tryz.prog 155 [] (.agg [.int .i64 65535, .int .i64 65281]) := by
  intro σ
  refine PCall_q [.cell 0 46] 2 Tryz.func155 (by rfl) rfl rfl rfl rfl ?_
  repeat' first |refine s1 ?_|refine gS ?_|refine wT rfl ?_|refine wF rfl ?_|refine wt rfl ?_|refine wf rfl ?_|(refine wC rfl (fun h=>?_) (fun h=>?_)<;>(try contradiction))|((first|refine rd ?_|refine ry [] c0 fun nu _ _=>?_);simp -dsimp (disch:=omega) only[go_sem])|refine e0 (by decide) ?_|(refine zA ?_ ?_;omega)|refine zA (of_eq_true PutAt_put) ?_|refine gT ?_|refine gF ?_|(refine gI (fun h=>?_) (fun h=>?_)<;>(try contradiction)<;>(try refine rd ?_)<;>(try simp -dsimp (disch:=omega) only[go_sem,h]))|refine zX _ (zX _ (zA (zA rfl rfl) ?_)) |fail
  intro o ho
  repeat' first |refine s1 ?_|refine gS ?_|refine wT rfl ?_|refine wF rfl ?_|refine wt rfl ?_|refine wf rfl ?_|(refine wC rfl (fun h=>?_) (fun h=>?_)<;>(try contradiction))|((first|refine rd ?_|refine ry [] c0 fun nu _ _=>?_);simp -dsimp (disch:=omega) only[go_sem])|refine e0 (by decide) ?_|(refine zA ?_ ?_;omega)|refine zA (of_eq_true PutAt_put) ?_|refine gT ?_|refine gF ?_|(refine gI (fun h=>?_) (fun h=>?_)<;>(try contradiction)<;>(try refine rd ?_)<;>(try simp -dsimp (disch:=omega) only[go_sem,h]))|refine zX _ (zX _ (zA (zA rfl rfl) ?_)) |fail
  all_goals exact Sub_put (Store.Sub.refl _) ho _
theorem noAdv_spec : Pure Tryz.prog 156 [] (.agg [.int .i64 65535, .int .i64 65282]) := by
  intro σ
  refine PCall_q [.cell 0 46] 2 Tryz.func156 (by rfl) rfl rfl rfl rfl ?_
  repeat' first |refine s1 ?_|refine gS ?_|refine wT rfl ?_|refine wF rfl ?_|refine wt rfl ?_|refine wf rfl ?_|(refine wC rfl (fun h=>?_) (fun h=>?_)<;>(try contradiction))|((first|refine rd ?_|refine ry [] c0 fun nu _ _=>?_);simp -dsimp (disch:=omega) only[go_sem])|refine e0 (by decide) ?_|(refine zA ?_ ?_;omega)|refine zA (of_eq_true PutAt_put) ?_|refine gT ?_|refine gF ?_|(refine gI (fun h=>?_) (fun h=>?_)<;>(try contradiction)<;>(try refine rd ?_)<;>(try simp -dsimp (disch:=omega) only[go_sem,h]))|refine zX _ (zX _ (zA (zA rfl rfl) ?_)) |fail
  intro o ho
  repeat' first |refine s1 ?_|refine gS ?_|refine wT rfl ?_|refine wF rfl ?_|refine wt rfl ?_|refine wf rfl ?_|(refine wC rfl (fun h=>?_) (fun h=>?_)<;>(try contradiction))|((first|refine rd ?_|refine ry [] c0 fun nu _ _=>?_);simp -dsimp (disch:=omega) only[go_sem])|refine e0 (by decide) ?_|(refine zA ?_ ?_;omega)|refine zA (of_eq_true PutAt_put) ?_|refine gT ?_|refine gF ?_|(refine gI (fun h=>?_) (fun h=>?_)<;>(try contradiction)<;>(try refine rd ?_)<;>(try simp -dsimp (disch:=omega) only[go_sem,h]))|refine zX _ (zX _ (zA (zA rfl rfl) ?_)) |fail
  all_goals exact Sub_put (Store.Sub.refl _) ho _
theorem local_spec : Pure Tryz.prog 157 [] (.agg [.int .i64 65535, .int .i64 65283]) := by
  intro σ
  refine PCall_q [.cell 0 46] 2 Tryz.func157 (by rfl) rfl rfl rfl rfl ?_
  repeat' first |refine s1 ?_|refine gS ?_|refine wT rfl ?_|refine wF rfl ?_|refine wt rfl ?_|refine wf rfl ?_|(refine wC rfl (fun h=>?_) (fun h=>?_)<;>(try contradiction))|((first|refine rd ?_|refine ry [] c0 fun nu _ _=>?_);simp -dsimp (disch:=omega) only[go_sem])|refine e0 (by decide) ?_|(refine zA ?_ ?_;omega)|refine zA (of_eq_true PutAt_put) ?_|refine gT ?_|refine gF ?_|(refine gI (fun h=>?_) (fun h=>?_)<;>(try contradiction)<;>(try refine rd ?_)<;>(try simp -dsimp (disch:=omega) only[go_sem,h]))|refine zX _ (zX _ (zA (zA rfl rfl) ?_)) |fail
  intro o ho
  repeat' first |refine s1 ?_|refine gS ?_|refine wT rfl ?_|refine wF rfl ?_|refine wt rfl ?_|refine wf rfl ?_|(refine wC rfl (fun h=>?_) (fun h=>?_)<;>(try contradiction))|((first|refine rd ?_|refine ry [] c0 fun nu _ _=>?_);simp -dsimp (disch:=omega) only[go_sem])|refine e0 (by decide) ?_|(refine zA ?_ ?_;omega)|refine zA (of_eq_true PutAt_put) ?_|refine gT ?_|refine gF ?_|(refine gI (fun h=>?_) (fun h=>?_)<;>(try contradiction)<;>(try refine rd ?_)<;>(try simp -dsimp (disch:=omega) only[go_sem,h]))|refine zX _ (zX _ (zA (zA rfl rfl) ?_)) |fail
  all_goals exact Sub_put (Store.Sub.refl _) ho _
theorem comText_spec (c : Com) : Pure Tryz.prog 119 [eCom c] (.str (comText c)) := by
  intro σ
  have h1 := comMay_spec c
  have h2 := noExport_spec
  have h3 := noAdv_spec
  have h4 := local_spec
  by_cases hm : comMay c = true
  · have hb := (comMay_iff c).1 hm
    have d1 := digC_spec _ c.asn (by omega) (Nat.lt_succ_self _) (by omega)
    have d2 := digC_spec _ c.n (by omega) (Nat.lt_succ_self _) (by omega)
    have z1 := digB_size c.asn (by omega)
    have z2 := digB_size c.n (by omega)
    rw [hm] at h1
    refine PCall_q [.tmp 2] 27 Tryz.func119 (by rfl) rfl rfl rfl rfl ?_
    repeat' first |refine s1 ?_|refine gS ?_|refine wT rfl ?_|refine wF rfl ?_|refine wt rfl ?_|refine wf rfl ?_|(refine wC rfl (fun h=>?_) (fun h=>?_)<;>(try contradiction))|((first|refine rd ?_|refine ry [] c0 fun nu _ _=>?_);simp -dsimp (disch:=omega) only[go_sem,szA, sz1, c0])|refine e0 (by decide) ?_|(refine zA ?_ ?_;omega)|refine zA (of_eq_true PutAt_put) ?_|refine gT ?_|refine gF ?_|(refine gI (fun h=>?_) (fun h=>?_)<;>(try contradiction)<;>(try refine rd ?_)<;>(try simp -dsimp (disch:=omega) only[go_sem,h,szA, sz1, c0]))|refine zX _ (zX _ (zA (zA rfl rfl) ?_)) |refine us (h1) ?_ |refine us (h2) ?_ |refine us (h3) ?_ |refine us (h4) ?_ |refine us (d1) ?_ |refine us (d2) ?_ |fail
    all_goals (simp_all [comText, cellsB, cellB])
    repeat' split
    all_goals first | rfl | (exfalso; rename_i q; obtain ⟨q1, q2⟩ := q; simp_all)
  · have hm' : comMay c = false := by simpa using hm
    rw [hm'] at h1
    refine PCall_q [.tmp 2] 27 Tryz.func119 (by rfl) rfl rfl rfl rfl ?_
    repeat' first |refine s1 ?_|refine gS ?_|refine wT rfl ?_|refine wF rfl ?_|refine wt rfl ?_|refine wf rfl ?_|(refine wC rfl (fun h=>?_) (fun h=>?_)<;>(try contradiction))|((first|refine rd ?_|refine ry [] c0 fun nu _ _=>?_);simp -dsimp (disch:=omega) only[go_sem])|refine e0 (by decide) ?_|(refine zA ?_ ?_;omega)|refine zA (of_eq_true PutAt_put) ?_|refine gT ?_|refine gF ?_|(refine gI (fun h=>?_) (fun h=>?_)<;>(try contradiction)<;>(try refine rd ?_)<;>(try simp -dsimp (disch:=omega) only[go_sem,h]))|refine zX _ (zX _ (zA (zA rfl rfl) ?_)) |refine us (h1) ?_ |fail
    simp [comText, hm']
def outK (i o : Nat) : SK := if i = 0 then .nil else .tip o
def outS (σ : Store) (t : TypeId) (i o : Nat) : Store := if i = 0 then σ else σ.put o (.tip i t 1)
theorem out_step {α : Type} [Inhabited α] (f : α → ByteArray) {l : List α} {i : Nat} (h : i < l.length) : encL AV.str ((l.map f).take (i + 1)) = encL AV.str ((l.map f).take i) ++ [AV.str (f (l.getD i default))] := by
  rw [List.take_succ_eq_append_getElem (by simpa using h)]
  simp [encL, List.getD_eq_getElem?_getD, h]
theorem Sub_put3 {s : Store} {o o1 : Nat} {m x : Ob} (hs : s o1 = none) : (s.put o m).Sub ((s.put o1 x).put o m) := by
  intro p y hp
  simp only [Store.put] at hp ⊢
  split at hp
  · rename_i e; rw [if_pos e]; exact hp
  · rename_i e
    rw [if_neg e]
    split
    · rename_i e2; rw [e2, hs] at hp; cases hp
    · exact hp
theorem textsC {fi : Nat} (f : Com → ByteArray) (k : SK) (l : List Com) (hl : l.length ≤ 1000) (hf : ∀ x, x ∈ l → Pure Tryz.prog fi [eCom x] (.str (f x))) (hs : (joinOf blk (l.map f)).size ≤ 140737488355328) :
    Pure Tryz.prog 120 [.sl k (encL eCom l), .fn fi []] (.str (joinOf blk (l.map f))) := by
  intro σ
  refine PCall_q [.tmp 4] 23 Tryz.func120 (by rfl) rfl rfl rfl rfl ?_
  repeat' first |refine s1 ?_|refine gS ?_|refine wT rfl ?_|refine wF rfl ?_|refine wt rfl ?_|refine wf rfl ?_|(refine wC rfl (fun h=>?_) (fun h=>?_)<;>(try contradiction))|((first|refine rd ?_|refine ry [] c0 fun nu _ _=>?_);simp -dsimp (disch:=omega) only[go_sem])|refine e0 (by decide) ?_|(refine zA ?_ ?_;omega)|refine zA (of_eq_true PutAt_put) ?_|refine gT ?_|refine gF ?_|(refine gI (fun h=>?_) (fun h=>?_)<;>(try contradiction)<;>(try refine rd ?_)<;>(try simp -dsimp (disch:=omega) only[go_sem,h]))|refine zX _ (zX _ (zA (zA rfl rfl) ?_)) |fail
  refine W_loop_st (fun x : Nat × Nat => [(1, .fn fi []), (5, .sl (outK x.1 x.2) (encL AV.str ((l.map f).take x.1))), (8, .sl k (encL eCom l)), (9, .int .i64 l.length), (10, .int .i64 x.1)]) (fun x => outS σ 9 x.1 x.2) (fun x => x.1 ≤ l.length ∧ (x.1 = 0 ∨ σ x.2 = none)) (fun x => l.length - x.1) (0, 0) ⟨Nat.zero_le _, .inl rfl⟩ (Env.Sub_of_has (by simp [Env.Has, Env.get, outK, encL])) (Store.Sub.refl _) ?_
  rintro ⟨i, o⟩ ⟨hi, ho⟩
  simp only at hi ho
  by_cases hlt : i < l.length
  · have hfx := hf (l.getD i default) (by rw [List.getD_eq_getElem?_getD, List.getElem?_eq_getElem hlt]; exact List.getElem_mem hlt)
    have hstep := out_step f hlt
    have hlen : (encL AV.str ((l.map f).take i)).length = i := by rw [length_encL, List.length_take, List.length_map]; omega
    have hrow : rowsOk 1 (encL AV.str ((l.map f).take i)) = true := ok_encL 1 AV.str (fun _ => rfl) _
    by_cases h0 : i = 0
    · subst h0
      have q0 : encL AV.str ((l.map f).take 0) = [] := rfl
      simp only [outK, outS, if_pos, q0] at hstep ⊢
      repeat' first |refine s1 ?_|refine gS ?_|refine wT rfl ?_|refine wF rfl ?_|refine wt rfl ?_|refine wf rfl ?_|(refine wC rfl (fun h=>?_) (fun h=>?_)<;>(try contradiction))|((first|refine rd ?_|refine ry [] c0 fun nu _ _=>?_);simp -dsimp (disch:=omega) only[go_sem])|refine e0 (by decide) ?_|(refine zA ?_ ?_;omega)|refine zA (of_eq_true PutAt_put) ?_|refine gT ?_|refine gF ?_|(refine gI (fun h=>?_) (fun h=>?_)<;>(try contradiction)<;>(try refine rd ?_)<;>(try simp -dsimp (disch:=omega) only[go_sem,h]))|refine zX _ (zX _ (zA (zA rfl rfl) ?_)) |fail
      intro o1 ho1
      repeat' first |refine s1 ?_|refine gS ?_|refine wT rfl ?_|refine wF rfl ?_|refine wt rfl ?_|refine wf rfl ?_|(refine wC rfl (fun h=>?_) (fun h=>?_)<;>(try contradiction))|((first|refine rd ?_|refine ry [] c0 fun nu _ _=>?_);simp -dsimp (disch:=omega) only[go_sem])|refine e0 (by decide) ?_|(refine zA ?_ ?_;omega)|refine zA (of_eq_true PutAt_put) ?_|refine gT ?_|refine gF ?_|(refine gI (fun h=>?_) (fun h=>?_)<;>(try contradiction)<;>(try refine rd ?_)<;>(try simp -dsimp (disch:=omega) only[go_sem,h]))|refine zX _ (zX _ (zA (zA rfl rfl) ?_)) |refine us (hfx) ?_ |fail
      intro o' ho'
      repeat' first |refine s1 ?_|refine gS ?_|refine wT rfl ?_|refine wF rfl ?_|refine wt rfl ?_|refine wf rfl ?_|(refine wC rfl (fun h=>?_) (fun h=>?_)<;>(try contradiction))|((first|refine rd ?_|refine ry [] c0 fun nu _ _=>?_);simp -dsimp (disch:=omega) only[go_sem])|refine e0 (by decide) ?_|(refine zA ?_ ?_;omega)|refine zA (of_eq_true PutAt_put) ?_|refine gT ?_|refine gF ?_|(refine gI (fun h=>?_) (fun h=>?_)<;>(try contradiction)<;>(try refine rd ?_)<;>(try simp -dsimp (disch:=omega) only[go_sem,h]))|refine zX _ (zX _ (zA (zA rfl rfl) ?_)) |fail
      exact ⟨(1, o'), by simp only; omega, ⟨by simp only; omega, .inr (fresh_old ho')⟩, Env.Sub_of_has (by simp only [Env.Has, Env.get, outK]; simp [hstep]), Sub_put3 ho1⟩
    · have hs1 : outS σ 9 i o = σ.put o (.tip i 9 1) := by simp [outS, h0]
      have hk1 : outK i o = .tip o := by simp [outK, h0]
      have hs2 : outS σ 9 (i + 1) o = σ.put o (.tip (i + 1) 9 1) := by simp [outS]
      have hk2 : outK (i + 1) o = .tip o := by simp [outK]
      rw [hs1, hk1]
      repeat' first |refine s1 ?_|refine gS ?_|refine wT rfl ?_|refine wF rfl ?_|refine wt rfl ?_|refine wf rfl ?_|(refine wC rfl (fun h=>?_) (fun h=>?_)<;>(try contradiction))|((first|refine rd ?_|refine ry [] c0 fun nu _ _=>?_);simp -dsimp (disch:=omega) only[go_sem])|refine e0 (by decide) ?_|(refine zA ?_ ?_;omega)|refine zA (of_eq_true PutAt_put) ?_|refine gT ?_|refine gF ?_|(refine gI (fun h=>?_) (fun h=>?_)<;>(try contradiction)<;>(try refine rd ?_)<;>(try simp -dsimp (disch:=omega) only[go_sem,h]))|refine zX _ (zX _ (zA (zA rfl rfl) ?_)) |fail
      intro o1 ho1
      have hpn : ∀ (s : Store) (x : Ob), (s.put o1 x) o = s o := fun s x => put_ne (fresh_ne ho1)
      repeat' first |refine s1 ?_|refine gS ?_|refine wT rfl ?_|refine wF rfl ?_|refine wt rfl ?_|refine wf rfl ?_|(refine wC rfl (fun h=>?_) (fun h=>?_)<;>(try contradiction))|((first|refine rd ?_|refine ry [] c0 fun nu _ _=>?_);simp -dsimp (disch:=omega) only[go_sem,hlen, hrow, hpn])|refine e0 (by decide) ?_|(refine zA ?_ ?_;omega)|refine zA (of_eq_true PutAt_put) ?_|refine gT ?_|refine gF ?_|(refine gI (fun h=>?_) (fun h=>?_)<;>(try contradiction)<;>(try refine rd ?_)<;>(try simp -dsimp (disch:=omega) only[go_sem,h,hlen, hrow, hpn]))|refine zX _ (zX _ (zA (zA rfl rfl) ?_)) |refine us (hfx) ?_ |fail
      refine ⟨(i + 1, o), by simp only; omega, ⟨by simp only; omega, .inr (ho.resolve_left h0)⟩, Env.Sub_of_has ?_, ?_⟩
      · simp only [Env.Has, Env.get, hk2, hstep]; simp
      · simp only [hs2, List.length_append, hlen, List.length_cons, List.length_nil, Nat.zero_add]; exact Sub_put2 (fresh_old ho1)
  · have hi' : i = l.length := by omega
    subst hi'
    have hjn := join_sl joinOk (outK l.length o) ((l.map f).take l.length) blk (by rw [List.length_take, List.length_map]; omega) (by rw [List.take_of_length_le (by simp)]; exact hs)
    rw [List.take_of_length_le (by simp)] at hjn
    simp only [List.take_of_length_le (show (l.map f).length ≤ l.length by simp)]
    repeat' first |refine s1 ?_|refine gS ?_|refine wT rfl ?_|refine wF rfl ?_|refine wt rfl ?_|refine wf rfl ?_|(refine wC rfl (fun h=>?_) (fun h=>?_)<;>(try contradiction))|((first|refine rd ?_|refine ry [] c0 fun nu _ _=>?_);simp -dsimp (disch:=omega) only[go_sem])|refine e0 (by decide) ?_|(refine zA ?_ ?_;omega)|refine zA (of_eq_true PutAt_put) ?_|refine gT ?_|refine gF ?_|(refine gI (fun h=>?_) (fun h=>?_)<;>(try contradiction)<;>(try refine rd ?_)<;>(try simp -dsimp (disch:=omega) only[go_sem,h]))|refine zX _ (zX _ (zA (zA rfl rfl) ?_)) |refine us (hjn) ?_ |fail
    simp only [outS]
    split
    · exact Store.Sub.refl _
    · rename_i hne
      exact Sub_put (Store.Sub.refl _) (ho.resolve_left hne) _
theorem textsI {fi : Nat} (f : Int → ByteArray) (k : SK) (l : List Int) (hl : l.length ≤ 1000) (hf : ∀ x, x ∈ l → Pure Tryz.prog fi [eI x] (.str (f x))) (hs : (joinOf blk (l.map f)).size ≤ 140737488355328) :
    Pure Tryz.prog 121 [.sl k (ints l), .fn fi []] (.str (joinOf blk (l.map f))) := by
  intro σ
  refine PCall_q [.tmp 4] 23 Tryz.func121 (by rfl) rfl rfl rfl rfl ?_
  repeat' first |refine s1 ?_|refine gS ?_|refine wT rfl ?_|refine wF rfl ?_|refine wt rfl ?_|refine wf rfl ?_|(refine wC rfl (fun h=>?_) (fun h=>?_)<;>(try contradiction))|((first|refine rd ?_|refine ry [] c0 fun nu _ _=>?_);simp -dsimp (disch:=omega) only[go_sem])|refine e0 (by decide) ?_|(refine zA ?_ ?_;omega)|refine zA (of_eq_true PutAt_put) ?_|refine gT ?_|refine gF ?_|(refine gI (fun h=>?_) (fun h=>?_)<;>(try contradiction)<;>(try refine rd ?_)<;>(try simp -dsimp (disch:=omega) only[go_sem,h]))|refine zX _ (zX _ (zA (zA rfl rfl) ?_)) |fail
  refine W_loop_st (fun x : Nat × Nat => [(1, .fn fi []), (5, .sl (outK x.1 x.2) (encL AV.str ((l.map f).take x.1))), (8, .sl k (ints l)), (9, .int .i64 l.length), (10, .int .i64 x.1)]) (fun x => outS σ 9 x.1 x.2) (fun x => x.1 ≤ l.length ∧ (x.1 = 0 ∨ σ x.2 = none)) (fun x => l.length - x.1) (0, 0) ⟨Nat.zero_le _, .inl rfl⟩ (Env.Sub_of_has (by simp [Env.Has, Env.get, outK, encL])) (Store.Sub.refl _) ?_
  rintro ⟨i, o⟩ ⟨hi, ho⟩
  simp only at hi ho
  by_cases hlt : i < l.length
  · have hfx := hf (l.getD i default) (by rw [List.getD_eq_getElem?_getD, List.getElem?_eq_getElem hlt]; exact List.getElem_mem hlt)
    have hstep := out_step f hlt
    have hlen : (encL AV.str ((l.map f).take i)).length = i := by rw [length_encL, List.length_take, List.length_map]; omega
    have hrow : rowsOk 1 (encL AV.str ((l.map f).take i)) = true := ok_encL 1 AV.str (fun _ => rfl) _
    by_cases h0 : i = 0
    · subst h0
      have q0 : encL AV.str ((l.map f).take 0) = [] := rfl
      simp only [outK, outS, if_pos, q0] at hstep ⊢
      repeat' first |refine s1 ?_|refine gS ?_|refine wT rfl ?_|refine wF rfl ?_|refine wt rfl ?_|refine wf rfl ?_|(refine wC rfl (fun h=>?_) (fun h=>?_)<;>(try contradiction))|((first|refine rd ?_|refine ry [] c0 fun nu _ _=>?_);simp -dsimp (disch:=omega) only[go_sem])|refine e0 (by decide) ?_|(refine zA ?_ ?_;omega)|refine zA (of_eq_true PutAt_put) ?_|refine gT ?_|refine gF ?_|(refine gI (fun h=>?_) (fun h=>?_)<;>(try contradiction)<;>(try refine rd ?_)<;>(try simp -dsimp (disch:=omega) only[go_sem,h]))|refine zX _ (zX _ (zA (zA rfl rfl) ?_)) |refine us (hfx) ?_ |fail
      intro o' ho'
      repeat' first |refine s1 ?_|refine gS ?_|refine wT rfl ?_|refine wF rfl ?_|refine wt rfl ?_|refine wf rfl ?_|(refine wC rfl (fun h=>?_) (fun h=>?_)<;>(try contradiction))|((first|refine rd ?_|refine ry [] c0 fun nu _ _=>?_);simp -dsimp (disch:=omega) only[go_sem])|refine e0 (by decide) ?_|(refine zA ?_ ?_;omega)|refine zA (of_eq_true PutAt_put) ?_|refine gT ?_|refine gF ?_|(refine gI (fun h=>?_) (fun h=>?_)<;>(try contradiction)<;>(try refine rd ?_)<;>(try simp -dsimp (disch:=omega) only[go_sem,h]))|refine zX _ (zX _ (zA (zA rfl rfl) ?_)) |fail
      exact ⟨(1, o'), by simp only; omega, ⟨by simp only; omega, .inr ho'⟩, Env.Sub_of_has (by simp only [Env.Has, Env.get, outK]; simp [hstep]), Store.Sub.refl _⟩
    · have hs1 : outS σ 9 i o = σ.put o (.tip i 9 1) := by simp [outS, h0]
      have hk1 : outK i o = .tip o := by simp [outK, h0]
      have hs2 : outS σ 9 (i + 1) o = σ.put o (.tip (i + 1) 9 1) := by simp [outS]
      have hk2 : outK (i + 1) o = .tip o := by simp [outK]
      rw [hs1, hk1]
      repeat' first |refine s1 ?_|refine gS ?_|refine wT rfl ?_|refine wF rfl ?_|refine wt rfl ?_|refine wf rfl ?_|(refine wC rfl (fun h=>?_) (fun h=>?_)<;>(try contradiction))|((first|refine rd ?_|refine ry [] c0 fun nu _ _=>?_);simp -dsimp (disch:=omega) only[go_sem,hlen, hrow])|refine e0 (by decide) ?_|(refine zA ?_ ?_;omega)|refine zA (of_eq_true PutAt_put) ?_|refine gT ?_|refine gF ?_|(refine gI (fun h=>?_) (fun h=>?_)<;>(try contradiction)<;>(try refine rd ?_)<;>(try simp -dsimp (disch:=omega) only[go_sem,h,hlen, hrow]))|refine zX _ (zX _ (zA (zA rfl rfl) ?_)) |refine us (hfx) ?_ |fail
      refine ⟨(i + 1, o), by simp only; omega, ⟨by simp only; omega, .inr (ho.resolve_left h0)⟩, Env.Sub_of_has ?_, ?_⟩
      · simp only [Env.Has, Env.get, hk2, hstep]; simp
      · simp only [hs2, List.length_append, hlen, List.length_cons, List.length_nil, Nat.zero_add]; exact Store.Sub.refl _
  · have hi' : i = l.length := by omega
    subst hi'
    have hjn := join_sl joinOk (outK l.length o) ((l.map f).take l.length) blk (by rw [List.length_take, List.length_map]; omega) (by rw [List.take_of_length_le (by simp)]; exact hs)
    rw [List.take_of_length_le (by simp)] at hjn
    simp only [List.take_of_length_le (show (l.map f).length ≤ l.length by simp)]
    repeat' first |refine s1 ?_|refine gS ?_|refine wT rfl ?_|refine wF rfl ?_|refine wt rfl ?_|refine wf rfl ?_|(refine wC rfl (fun h=>?_) (fun h=>?_)<;>(try contradiction))|((first|refine rd ?_|refine ry [] c0 fun nu _ _=>?_);simp -dsimp (disch:=omega) only[go_sem])|refine e0 (by decide) ?_|(refine zA ?_ ?_;omega)|refine zA (of_eq_true PutAt_put) ?_|refine gT ?_|refine gF ?_|(refine gI (fun h=>?_) (fun h=>?_)<;>(try contradiction)<;>(try refine rd ?_)<;>(try simp -dsimp (disch:=omega) only[go_sem,h]))|refine zX _ (zX _ (zA (zA rfl rfl) ?_)) |refine us (hjn) ?_ |fail
    simp only [outS]
    split
    · exact Store.Sub.refl _
    · rename_i hne
      exact Sub_put (Store.Sub.refl _) (ho.resolve_left hne) _
theorem pfxText_spec (p : Pfx) (hp : p.Ok) : Pure Tryz.prog 60 [ePfx p] (.str (pfxText p)) := by
  intro σ
  have h1 := pfxMay_spec p
  by_cases hm : pfxMay p = true
  · rw [hm] at h1
    have hb : 0 ≤ p.b ∧ p.b ≤ 32 := by
      simp only [pfxMay, Bool.and_eq_true, decide_eq_true_eq] at hm
      exact hm.1
    have hb32 : IntKind.u32.wrap p.b = p.b := wr32 hb.1 (by omega)
    have hbd := digA_spec _ p.b hb.1 (Nat.lt_succ_self _) (by omega)
    have hzb := digB_size p.b (by omega)
    obtain ⟨l, hl⟩ : ∃ l : List Nat, l = [24, 16, 8, 0] := ⟨_, rfl⟩
    obtain ⟨f, hf⟩ : ∃ f : Nat → ByteArray, f = fun k => digB (octZ p.a k) := ⟨_, rfl⟩
    have hl4 : l.length = 4 := by rw [hl]; rfl
    have hres : pfxText p = joinOf (⟨#[46]⟩ : ByteArray) (l.map f) ++ (⟨#[47]⟩ : ByteArray) ++ digB p.b := by
      rw [pfxText, if_pos hm, hl, hf]; rfl
    have hjs : (joinOf (⟨#[46]⟩ : ByteArray) (l.map f)).size ≤ 4 * (20 + 1) := by
      have := joinOf_map f 20 (⟨#[46]⟩ : ByteArray) l (fun k _ => by rw [hf]; exact digB_size _ (by have := (octZ_ok hp.1 hp.2 k).2; omega))
      rw [hl4] at this
      exact this
    rw [hres]
    refine PCall_q [.tmp 2] 31 Tryz.func60 (by rfl) rfl rfl rfl rfl ?_
    repeat' first |refine s1 ?_|refine gS ?_|refine wT rfl ?_|refine wF rfl ?_|refine wt rfl ?_|refine wf rfl ?_|(refine wC rfl (fun h=>?_) (fun h=>?_)<;>(try contradiction))|((first|refine rd ?_|refine ry [] c0 fun nu _ _=>?_);simp -dsimp (disch:=omega) only[go_sem])|refine e0 (by decide) ?_|(refine zA ?_ ?_;omega)|refine zA (of_eq_true PutAt_put) ?_|refine gT ?_|refine gF ?_|(refine gI (fun h=>?_) (fun h=>?_)<;>(try contradiction)<;>(try refine rd ?_)<;>(try simp -dsimp (disch:=omega) only[go_sem,h]))|refine zX _ (zX _ (zA (zA rfl rfl) ?_)) |refine us (h1) ?_ |fail
    refine W_loop_st (fun x : Nat × Nat => [(1, .ip (ePfx p) 0), (3, .sl (outK x.1 x.2) (encL AV.str ((l.map f).take x.1))), (8, .int .i64 x.1)]) (fun x => outS σ 9 x.1 x.2) (fun x => x.1 ≤ 4 ∧ (x.1 = 0 ∨ σ x.2 = none)) (fun x => 4 - x.1) (0, 0) ⟨Nat.zero_le _, .inl rfl⟩ (Env.Sub_of_has (by simp [Env.Has, Env.get, outK, encL, ePfx])) (Store.Sub.refl _) ?_
    rintro ⟨i, o⟩ ⟨hi, ho⟩
    simp only at hi ho
    by_cases hlt : i < 4
    · have hoc := octZ_ok hp.1 hp.2 (l.getD i default)
      have hfx : Pure Tryz.prog 122 [.int .u32 (bits .and .u32 (p.a.fdiv (2 ^ (min (24 - 8 * (i : Int)).toNat 32))) 255)] (.str (f (l.getD i default))) := by
        have e : min (24 - 8 * (i : Int)).toNat 32 = l.getD i default := by
          rw [hl]
          match i, hlt with
          | 0, _ => rfl
          | 1, _ => rfl
          | 2, _ => rfl
          | 3, _ => rfl
        rw [e, hf]
        exact digA_spec _ _ hoc.1 (Nat.lt_succ_self _) (by simp only [octZ] at hoc; omega)
      have hstep := out_step f (l := l) (i := i) (by omega)
      have hlen : (encL AV.str ((l.map f).take i)).length = i := by rw [length_encL, List.length_take, List.length_map]; omega
      have hrow : rowsOk 1 (encL AV.str ((l.map f).take i)) = true := ok_encL 1 AV.str (fun _ => rfl) _
      have hbt : IntKind.u32.bits = 32 := rfl
      by_cases h0 : i = 0
      · subst h0
        have q0 : encL AV.str ((l.map f).take 0) = [] := rfl
        simp only [outK, outS, if_pos, q0] at hstep ⊢
        repeat' first |refine s1 ?_|refine gS ?_|refine wT rfl ?_|refine wF rfl ?_|refine wt rfl ?_|refine wf rfl ?_|(refine wC rfl (fun h=>?_) (fun h=>?_)<;>(try contradiction))|((first|refine rd ?_|refine ry [] c0 fun nu _ _=>?_);simp -dsimp (disch:=omega) only[go_sem,hbt])|refine e0 (by decide) ?_|(refine zA ?_ ?_;omega)|refine zA (of_eq_true PutAt_put) ?_|refine gT ?_|refine gF ?_|(refine gI (fun h=>?_) (fun h=>?_)<;>(try contradiction)<;>(try refine rd ?_)<;>(try simp -dsimp (disch:=omega) only[go_sem,h,hbt]))|refine zX _ (zX _ (zA (zA rfl rfl) ?_)) |refine us (hfx) ?_ |fail
        intro o' ho'
        repeat' first |refine s1 ?_|refine gS ?_|refine wT rfl ?_|refine wF rfl ?_|refine wt rfl ?_|refine wf rfl ?_|(refine wC rfl (fun h=>?_) (fun h=>?_)<;>(try contradiction))|((first|refine rd ?_|refine ry [] c0 fun nu _ _=>?_);simp -dsimp (disch:=omega) only[go_sem])|refine e0 (by decide) ?_|(refine zA ?_ ?_;omega)|refine zA (of_eq_true PutAt_put) ?_|refine gT ?_|refine gF ?_|(refine gI (fun h=>?_) (fun h=>?_)<;>(try contradiction)<;>(try refine rd ?_)<;>(try simp -dsimp (disch:=omega) only[go_sem,h]))|refine zX _ (zX _ (zA (zA rfl rfl) ?_)) |fail
        exact ⟨(1, o'), by simp only; omega, ⟨by simp only; omega, .inr ho'⟩, Env.Sub_of_has (by simp only [Env.Has, Env.get, outK]; simp [hstep, ePfx]), Store.Sub.refl _⟩
      · have hs1 : outS σ 9 i o = σ.put o (.tip i 9 1) := by simp [outS, h0]
        have hk1 : outK i o = .tip o := by simp [outK, h0]
        have hs2 : outS σ 9 (i + 1) o = σ.put o (.tip (i + 1) 9 1) := by simp [outS]
        have hk2 : outK (i + 1) o = .tip o := by simp [outK]
        rw [hs1, hk1]
        repeat' first |refine s1 ?_|refine gS ?_|refine wT rfl ?_|refine wF rfl ?_|refine wt rfl ?_|refine wf rfl ?_|(refine wC rfl (fun h=>?_) (fun h=>?_)<;>(try contradiction))|((first|refine rd ?_|refine ry [] c0 fun nu _ _=>?_);simp -dsimp (disch:=omega) only[go_sem,hlen, hrow, hbt])|refine e0 (by decide) ?_|(refine zA ?_ ?_;omega)|refine zA (of_eq_true PutAt_put) ?_|refine gT ?_|refine gF ?_|(refine gI (fun h=>?_) (fun h=>?_)<;>(try contradiction)<;>(try refine rd ?_)<;>(try simp -dsimp (disch:=omega) only[go_sem,h,hlen, hrow, hbt]))|refine zX _ (zX _ (zA (zA rfl rfl) ?_)) |refine us (hfx) ?_ |fail
        refine ⟨(i + 1, o), by simp only; omega, ⟨by simp only; omega, .inr (ho.resolve_left h0)⟩, Env.Sub_of_has ?_, ?_⟩
        · simp only [Env.Has, Env.get, hk2, hstep]; simp [ePfx]
        · simp only [hs2, List.length_append, hlen, List.length_cons, List.length_nil, Nat.zero_add]; exact Store.Sub.refl _
    · have hi' : i = 4 := by omega
      subst hi'
      have htk : (l.map f).take 4 = l.map f := List.take_of_length_le (by simp [hl4])
      have hjn := join_sl joinOk (outK 4 o) (l.map f) (⟨#[46]⟩ : ByteArray) (by simp [hl4]) (by omega)
      have y1 : ((⟨#[47]⟩ : ByteArray)).size = 1 := rfl
      simp only [htk]
      repeat' first |refine s1 ?_|refine gS ?_|refine wT rfl ?_|refine wF rfl ?_|refine wt rfl ?_|refine wf rfl ?_|(refine wC rfl (fun h=>?_) (fun h=>?_)<;>(try contradiction))|((first|refine rd ?_|refine ry [] c0 fun nu _ _=>?_);simp -dsimp (disch:=omega) only[go_sem,szA, y1, hb32, c0])|refine e0 (by decide) ?_|(refine zA ?_ ?_;omega)|refine zA (of_eq_true PutAt_put) ?_|refine gT ?_|refine gF ?_|(refine gI (fun h=>?_) (fun h=>?_)<;>(try contradiction)<;>(try refine rd ?_)<;>(try simp -dsimp (disch:=omega) only[go_sem,h,szA, y1, hb32, c0]))|refine zX _ (zX _ (zA (zA rfl rfl) ?_)) |refine us (hjn) ?_ |refine us (hbd) ?_ |fail
      simp only [outS]
      exact Sub_put (Store.Sub.refl _) (ho.resolve_left (by omega)) _
  · have hm' : pfxMay p = false := by simpa using hm
    rw [hm'] at h1
    refine PCall_q [.tmp 2] 31 Tryz.func60 (by rfl) rfl rfl rfl rfl ?_
    repeat' first |refine s1 ?_|refine gS ?_|refine wT rfl ?_|refine wF rfl ?_|refine wt rfl ?_|refine wf rfl ?_|(refine wC rfl (fun h=>?_) (fun h=>?_)<;>(try contradiction))|((first|refine rd ?_|refine ry [] c0 fun nu _ _=>?_);simp -dsimp (disch:=omega) only[go_sem])|refine e0 (by decide) ?_|(refine zA ?_ ?_;omega)|refine zA (of_eq_true PutAt_put) ?_|refine gT ?_|refine gF ?_|(refine gI (fun h=>?_) (fun h=>?_)<;>(try contradiction)<;>(try refine rd ?_)<;>(try simp -dsimp (disch:=omega) only[go_sem,h]))|refine zX _ (zX _ (zA (zA rfl rfl) ?_)) |refine us (h1) ?_ |fail
    simp [pfxText, hm']
theorem rngText_spec (r : Rng) (hp : r.p.Ok) : Pure Tryz.prog 57 [eRng r] (.str (rngText r)) := by
  intro σ
  have h1 := rngMay_spec r
  by_cases hm : rngMay r = true
  · rw [hm] at h1
    have hb : 0 ≤ r.p.b ∧ r.p.b ≤ r.ge ∧ r.ge ≤ r.le ∧ r.le ≤ 32 := by
      simp only [rngMay, pfxMay, Bool.and_eq_true, decide_eq_true_eq] at hm
      exact ⟨hm.1.1.1.1.1, hm.1.1.2, hm.1.2, hm.2⟩
    have h2 := pfxText_spec r.p hp
    have d1 := digP_spec r.ge (by omega) (by omega)
    have d2 := digP_spec r.le (by omega) (by omega)
    have z1 := digB_size r.ge (by omega)
    have z2 := digB_size r.le (by omega)
    have z3 := pfxText_size r.p hp
    have y1 : ((⟨#[112, 101, 114, 109, 105, 116, 32]⟩ : ByteArray)).size = 7 := rfl
    have y2 : ((⟨#[100, 101, 110, 121, 32]⟩ : ByteArray)).size = 5 := rfl
    have y3 : ((⟨#[32, 103, 101, 32]⟩ : ByteArray)).size = 4 := rfl
    have y4 : ((⟨#[32, 108, 101, 32]⟩ : ByteArray)).size = 4 := rfl
    refine PCall_q [.tmp 2] 38 Tryz.func57 (by rfl) rfl rfl rfl rfl ?_
    repeat' first |refine s1 ?_|refine gS ?_|refine wT rfl ?_|refine wF rfl ?_|refine wt rfl ?_|refine wf rfl ?_|(refine wC rfl (fun h=>?_) (fun h=>?_)<;>(try contradiction))|((first|refine rd ?_|refine ry [] c0 fun nu _ _=>?_);simp -dsimp (disch:=omega) only[go_sem,szA, y1, y2, y3, y4])|refine e0 (by decide) ?_|(refine zA ?_ ?_;omega)|refine zA (of_eq_true PutAt_put) ?_|refine gT ?_|refine gF ?_|(refine gI (fun h=>?_) (fun h=>?_)<;>(try contradiction)<;>(try refine rd ?_)<;>(try simp -dsimp (disch:=omega) only[go_sem,h,szA, y1, y2, y3, y4]))|refine zX _ (zX _ (zA (zA rfl rfl) ?_)) |refine us (h1) ?_ |refine us (h2) ?_ |refine us (d1) ?_ |refine us (d2) ?_ |fail
    all_goals (simp_all [rngText])
  · have hm' : rngMay r = false := by simpa using hm
    rw [hm'] at h1
    refine PCall_q [.tmp 2] 38 Tryz.func57 (by rfl) rfl rfl rfl rfl ?_
    repeat' first |refine s1 ?_|refine gS ?_|refine wT rfl ?_|refine wF rfl ?_|refine wt rfl ?_|refine wf rfl ?_|(refine wC rfl (fun h=>?_) (fun h=>?_)<;>(try contradiction))|((first|refine rd ?_|refine ry [] c0 fun nu _ _=>?_);simp -dsimp (disch:=omega) only[go_sem])|refine e0 (by decide) ?_|(refine zA ?_ ?_;omega)|refine zA (of_eq_true PutAt_put) ?_|refine gT ?_|refine gF ?_|(refine gI (fun h=>?_) (fun h=>?_)<;>(try contradiction)<;>(try refine rd ?_)<;>(try simp -dsimp (disch:=omega) only[go_sem,h]))|refine zX _ (zX _ (zA (zA rfl rfl) ?_)) |refine us (h1) ?_ |fail
    simp [rngText, hm']
end Go.Proofs.YtaealcimocpnnaaGreat

namespace Go.Proofs.YtaealcimocpnnaaGreat
open Go.Kern Go.RowKit
structure Cls.Good (c : Cls) : Prop where
  n0 : 0 ≤ c.n
  n1 : c.n ≤ 1000000000000
  pref : c.s.pref ≤ 1000000000000
  med : c.s.med ≤ 1000000000000
  origin : c.s.origin ≤ 2
  add : c.s.add.length ≤ 1000
  del : c.s.del.length ≤ 1000
  pre : c.s.pre.length ≤ 1000
  each : ∀ n, n ∈ c.s.pre → 0 ≤ n ∧ n ≤ 1000000000000
  list : c.m.list.size ≤ 1000
  path : c.m.path.size ≤ 1000
theorem max0_ok {n : Int} (h : n ≤ 1000000000000) : 0 ≤ max0 n ∧ max0 n ≤ 1000000000000 := by unfold max0; split <;> omega
set_option maxRecDepth 100000
set_option maxHeartbeats 4000000
attribute [local irreducible] PCall W
structure Hid (p : Prop) : Prop where
  out : p
theorem cls_spec {σ t : Store} {w : Nat} {s : ByteArray} (h : WS σ w s t) (c : Cls) (hc : c.Good) (hb : s.size + (clsText c).size ≤ 140737488355328) :
    PCall Tryz.prog 58 [.ptr w 0 0, eCls c] t (fun r t' => r = .tup [] ∧ WS σ w (s ++ clsText c) t') := by
  obtain ⟨wd, hwd⟩ : ∃ wd, (if c.permit = true then (⟨#[112, 101, 114, 109, 105, 116]⟩ : ByteArray) else (⟨#[100, 101, 110, 121]⟩ : ByteArray)) = wd := ⟨_, rfl⟩
  replace hb : Hid _ := ⟨hb⟩
  refine PCall_w [] 118 Tryz.func58 (by rfl) rfl rfl rfl rfl ?_
  repeat' first |((fail_if_success (first|show W _ _ (Code.seq (Code.region 2 _ _) _) _ _ _|show W _ _ (Code.seq (Code.seq (Code.region 2 _ _) _) _) _ _ _));refine s1 ?_)|refine gS ?_|refine wT rfl ?_|refine wF rfl ?_|refine wt rfl ?_|refine wf rfl ?_|(refine wC rfl (fun h=>?_) (fun h=>?_)<;>(try contradiction))|((fail_if_success (first|show W _ _ (Code.region 2 _ _) _ _ _));(first|refine rd ?_|refine ry [] c0 fun nu _ _=>?_);simp -dsimp (disch:=omega) only[go_sem])|refine e0 (by decide) ?_|(refine zA ?_ ?_;omega)|refine zA (of_eq_true PutAt_put) ?_|refine gT ?_|refine gF ?_|(refine gI (fun h=>?_) (fun h=>?_)<;>(try contradiction)<;>(try refine rd ?_)<;>(try simp -dsimp (disch:=omega) only[go_sem,h]))|refine zX _ (zX _ (zA (zA rfl rfl) ?_)) |fail
  refine W_mid [(0, .ptr w 0 0), (3, .ip (eCls c) 0), (4, .str wd)] t ?_ ?_
  · skip
    repeat' first |refine s1 ?_|refine gS ?_|refine wT rfl ?_|refine wF rfl ?_|refine wt rfl ?_|refine wf rfl ?_|(refine wC rfl (fun h=>?_) (fun h=>?_)<;>(try contradiction))|((first|refine rd ?_|refine ry [] c0 fun nu _ _=>?_);simp -dsimp (disch:=omega) only[go_sem])|refine e0 (by decide) ?_|(refine zA ?_ ?_;omega)|refine zA (of_eq_true PutAt_put) ?_|refine gT ?_|refine gF ?_|(refine gI (fun h=>?_) (fun h=>?_)<;>(try contradiction)<;>(try refine rd ?_)<;>(try simp -dsimp (disch:=omega) only[go_sem,h]))|refine zX _ (zX _ (zA (zA rfl rfl) ?_)) |fail
    · exact ⟨Env.Sub_of_has (by simp [Env.Has, Env.get, eCls, ← hwd, h]), Store.Sub.refl _⟩
    · exact ⟨Env.Sub_of_has (by simp [Env.Has, Env.get, eCls, ← hwd, h]), Store.Sub.refl _⟩
  have hb := hb.out
  have m1 := max0_ok hc.pref
  have m2 := max0_ok hc.med
  have d1 := digS_spec _ c.n hc.n0 (Nat.lt_succ_self _) (by have := hc.n1; omega)
  have d2 := digS_spec _ (max0 c.s.pref) m1.1 (Nat.lt_succ_self _) (by omega)
  have d3 := digS_spec _ (max0 c.s.med) m2.1 (Nat.lt_succ_self _) (by omega)
  have d4 := comText_spec c.m.c
  have yb : blk.size = 1 := rfl
  have x1 : (joinOf blk (c.s.del.map comText)).size ≤ 60000 := by
    have x := joinOf_map comText 50 blk c.s.del (fun x _ => comText_size x); rw [yb] at x; have := hc.del; omega
  have x2 : (joinOf blk (c.s.add.map comText)).size ≤ 60000 := by
    have x := joinOf_map comText 50 blk c.s.add (fun x _ => comText_size x); rw [yb] at x; have := hc.add; omega
  have x3 : (joinOf blk (c.s.pre.map digB)).size ≤ 60000 := by
    have x := joinOf_map digB 20 blk c.s.pre (fun x hx => digB_size x (by have := hc.each x hx; omega)); rw [yb] at x; have := hc.pre; omega
  have d5 := textsC comText c.s.kD c.s.del hc.del (fun x _ => comText_spec x) (by omega)
  have d6 := textsC comText c.s.kA c.s.add hc.add (fun x _ => comText_spec x) (by omega)
  have d7 := textsI digB c.s.kP c.s.pre hc.pre (fun x hx => digS_spec _ x (hc.each x hx).1 (Nat.lt_succ_self _) (by have := hc.each x hx; omega)) (by omega)
  have z4 := comText_size c.m.c
  have z2 := digB_size (max0 c.s.pref) (by omega)
  have z3 := digB_size (max0 c.s.med) (by omega)
  have l1 : c.s.del.length < 4611686018427387904 := by have := hc.del; omega
  have l2 : c.s.add.length < 4611686018427387904 := by have := hc.add; omega
  have l3 : c.s.pre.length < 4611686018427387904 := by have := hc.pre; omega
  have l4 := hc.list
  have l5 := hc.path
  have z5 : (origin (max0 c.s.origin)).size ≤ 4 := by unfold origin; split; · decide
                                                      · split <;> decide
  have m3 : 0 ≤ max0 c.s.origin ∧ max0 c.s.origin ≤ 2 := by have := hc.origin; unfold max0; split <;> omega
  have hori : [AV.str (⟨#[105, 103, 112]⟩ : ByteArray), AV.str (⟨#[101, 103, 112]⟩ : ByteArray), AV.str (⟨#[110, 111, 110, 101]⟩ : ByteArray)].getD (if c.s.origin < 0 then 0 else c.s.origin).toNat .any = .str (origin (max0 c.s.origin)) := by
    rw [show (if c.s.origin < 0 then 0 else c.s.origin) = max0 c.s.origin from rfl]
    obtain ⟨k, hk⟩ : ∃ k, max0 c.s.origin = k := ⟨_, rfl⟩
    rw [hk] at m3 ⊢
    obtain rfl | rfl | rfl : k = 0 ∨ k = 1 ∨ k = 2 := by omega
    · rfl
    · rfl
    · rfl
  simp only [max0] at m3
  have y1 : ((⟨#[34]⟩ : ByteArray)).size = 1 := rfl
  simp only [clsText, clsLines, catB, szA, szE, quoted] at hb
  rw [hwd] at hb
  replace hb : Hid _ := ⟨hb⟩
  clear m1 m2
  repeat' first |((fail_if_success (first|show W _ _ (Code.seq (Code.region 5 _ _) _) _ _ _|show W _ _ (Code.seq (Code.seq (Code.region 5 _ _) _) _) _ _ _));refine s1 ?_)|refine gS ?_|refine wT rfl ?_|refine wF rfl ?_|refine wt rfl ?_|refine wf rfl ?_|(refine wC rfl (fun h=>?_) (fun h=>?_)<;>(try contradiction))|((fail_if_success (first|show W _ _ (Code.region 5 _ _) _ _ _));(first|refine rd ?_|refine ry [] c0 fun nu _ _=>?_);simp -dsimp (disch:=omega) only[go_sem])|refine e0 (by decide) ?_|(refine zA ?_ ?_;omega)|refine zA (of_eq_true PutAt_put) ?_|refine gT ?_|refine gF ?_|(refine gI (fun h=>?_) (fun h=>?_)<;>(try contradiction)<;>(try refine rd ?_)<;>(try simp -dsimp (disch:=omega) only[go_sem,h]))|refine zX _ (zX _ (zA (zA rfl rfl) ?_)) |refine us (d1) ?_ |(refine ck (line3 1 .full _ _ _ h (by omega) (by have hb := hb.out;omega)) ?_;rintro _ _ ⟨rfl,hw⟩) |fail
  rename_i t1
  refine s1 ?_
  refine W_region_any (id := 5) [] ⟨[], [6, 7], [4, 5], [], [], [], 0⟩ mx (by kernel_rfl) ?_
  intro nu hA hB
  have n4 : t1 (nu 4) = none := hA 4 (by simp)
  have n5 : t1 (nu 5) = none := hA 5 (by simp)
  have hne : nu 5 ≠ nu 4 := fun e => absurd (hB 5 4 (by simp) (by simp) e) (by decide)
  have hp1 : ∀ (s : Store) (x : Ob), (s.put (nu 5) x) (nu 4) = s (nu 4) := fun s x => put_ne (Ne.symm hne)
  have hp2 : ∀ (s : Store) (x : Ob), (s.put (nu 4) x) (nu 5) = s (nu 5) := fun s x => put_ne hne
  simp -dsimp (disch:=omega) only[go_sem,hp1, hp2]
  repeat' first |((fail_if_success (first|show W _ _ (Code.seq (Code.region 6 _ _) _) _ _ _|show W _ _ (Code.seq (Code.seq (Code.region 6 _ _) _) _) _ _ _));refine s1 ?_)|refine gS ?_|refine wT rfl ?_|refine wF rfl ?_|refine wt rfl ?_|refine wf rfl ?_|(refine wC rfl (fun h=>?_) (fun h=>?_)<;>(try contradiction))|((fail_if_success (first|show W _ _ (Code.region 6 _ _) _ _ _));(first|refine rd ?_|refine ry [] c0 fun nu _ _=>?_);simp -dsimp (disch:=omega) only[go_sem,hp1, hp2])|refine e0 (by decide) ?_|(refine zA ?_ ?_;omega)|refine zA (of_eq_true PutAt_put) ?_|refine gT ?_|refine gF ?_|(refine gI (fun h=>?_) (fun h=>?_)<;>(try contradiction)<;>(try refine rd ?_)<;>(try simp -dsimp (disch:=omega) only[go_sem,h,hp1, hp2]))|refine zX _ (zX _ (zA (zA rfl rfl) ?_)) |fail
  refine W_freeze (o := nu 5) (e := 52) (rows := [eChg c.s]) (by simp only [put_same, hp1, hp2, eChg]) ?_
  refine W_freeze (o := nu 4) (e := 48) (rows := [eMat c.m]) (by simp only [Store.drop, if_neg (Ne.symm hne), put_same, hp1, hp2, eMat]) ?_
  have w4 := WS_ne hw n4
  have w5 := WS_ne hw n5
  refine W_weaken (ρ' := [(0, .ptr w 0 0), (5, .ip (eMat c.m) 0), (6, .ip (eChg c.s) 0)]) (σ' := t1) (Env.Sub_of_has ?_) ?_ ?_
  · simp only [Env.Has, Env.frz_get, Env.get]
    simp [frz, hne, Ne.symm hne, Ne.symm w4, Ne.symm w5, eMat, eChg]
  · repeat' first | exact Store.Sub.refl _ | refine Sub_drop ?_ (by assumption) | refine Sub_put ?_ (by assumption) _
  clear hA hB n4 n5 hne hp1 hp2 w4 w5
  repeat' first |((fail_if_success (first|show W _ _ (Code.seq (Code.region 7 _ _) _) _ _ _|show W _ _ (Code.seq (Code.seq (Code.region 7 _ _) _) _) _ _ _));refine s1 ?_)|refine gS ?_|refine wT rfl ?_|refine wF rfl ?_|refine wt rfl ?_|refine wf rfl ?_|(refine wC rfl (fun h=>?_) (fun h=>?_)<;>(try contradiction))|((fail_if_success (first|show W _ _ (Code.region 7 _ _) _ _ _));(first|refine s3 (mu:=[26]) ?_|refine rd ?_|refine ry [26] c0 fun nu _ _=>?_);simp -dsimp (disch:=omega) only[go_sem])|refine e0 (by decide) ?_|(refine zA ?_ ?_;omega)|refine zA (of_eq_true PutAt_put) ?_|refine gT ?_|refine gF ?_|(refine gI (fun h=>?_) (fun h=>?_)<;>(try contradiction)<;>(try refine rd ?_)<;>(try simp -dsimp (disch:=omega) only[go_sem,h]))|refine zX _ (zX _ (zA (zA rfl rfl) ?_)) |fail
  intro o ho
  repeat' first |((fail_if_success (first|show W _ _ (Code.seq (Code.region 7 _ _) _) _ _ _|show W _ _ (Code.seq (Code.seq (Code.region 7 _ _) _) _) _ _ _));refine s1 ?_)|refine gS ?_|refine wT rfl ?_|refine wF rfl ?_|refine wt rfl ?_|refine wf rfl ?_|(refine wC rfl (fun h=>?_) (fun h=>?_)<;>(try contradiction))|((fail_if_success (first|show W _ _ (Code.region 7 _ _) _ _ _));(first|refine s3 (mu:=[26]) ?_|refine rd ?_|refine ry [26] c0 fun nu _ _=>?_);simp -dsimp (disch:=omega) only[go_sem])|refine e0 (by decide) ?_|(refine zA ?_ ?_;omega)|refine zA (of_eq_true PutAt_put) ?_|refine gT ?_|refine gF ?_|(refine gI (fun h=>?_) (fun h=>?_)<;>(try contradiction)<;>(try refine rd ?_)<;>(try simp -dsimp (disch:=omega) only[go_sem,h]))|refine zX _ (zX _ (zA (zA rfl rfl) ?_)) |(refine ck (some2 _ _ _  hw ho (by have hb := hb.out;first | omega | decide | (simp only [szA];omega)) (by have hb := hb.out;first | omega | decide | (simp only [szA];omega))) ?_;rintro _ _ ⟨rfl,hw⟩) |fail
  repeat' first |((fail_if_success (first|show W _ _ (Code.seq (Code.region 8 _ _) _) _ _ _|show W _ _ (Code.seq (Code.seq (Code.region 8 _ _) _) _) _ _ _));refine s1 ?_)|refine gS ?_|refine wT rfl ?_|refine wF rfl ?_|refine wt rfl ?_|refine wf rfl ?_|(refine wC rfl (fun h=>?_) (fun h=>?_)<;>(try contradiction))|((fail_if_success (first|show W _ _ (Code.region 8 _ _) _ _ _));(first|refine s3 (mu:=[36]) ?_|refine rd ?_|refine ry [36] c0 fun nu _ _=>?_);simp -dsimp (disch:=omega) only[go_sem,szA, y1])|refine e0 (by decide) ?_|(refine zA ?_ ?_;omega)|refine zA (of_eq_true PutAt_put) ?_|refine gT ?_|refine gF ?_|(refine gI (fun h=>?_) (fun h=>?_)<;>(try contradiction)<;>(try refine rd ?_)<;>(try simp -dsimp (disch:=omega) only[go_sem,h,szA, y1]))|refine zX _ (zX _ (zA (zA rfl rfl) ?_)) |fail
  intro o ho
  repeat' first |((fail_if_success (first|show W _ _ (Code.seq (Code.region 8 _ _) _) _ _ _|show W _ _ (Code.seq (Code.seq (Code.region 8 _ _) _) _) _ _ _));refine s1 ?_)|refine gS ?_|refine wT rfl ?_|refine wF rfl ?_|refine wt rfl ?_|refine wf rfl ?_|(refine wC rfl (fun h=>?_) (fun h=>?_)<;>(try contradiction))|((fail_if_success (first|show W _ _ (Code.region 8 _ _) _ _ _));(first|refine s3 (mu:=[36]) ?_|refine rd ?_|refine ry [36] c0 fun nu _ _=>?_);simp -dsimp (disch:=omega) only[go_sem,szA, y1])|refine e0 (by decide) ?_|(refine zA ?_ ?_;omega)|refine zA (of_eq_true PutAt_put) ?_|refine gT ?_|refine gF ?_|(refine gI (fun h=>?_) (fun h=>?_)<;>(try contradiction)<;>(try refine rd ?_)<;>(try simp -dsimp (disch:=omega) only[go_sem,h,szA, y1]))|refine zX _ (zX _ (zA (zA rfl rfl) ?_)) |(refine ck (some2 _ _ _  hw ho (by have hb := hb.out;first | omega | decide | (simp only [szA];omega)) (by have hb := hb.out;first | omega | decide | (simp only [szA];omega))) ?_;rintro _ _ ⟨rfl,hw⟩) |fail
  refine s1 ?_
  refine W_region_any (id := 8) [] ⟨[], [8, 9], [], [8], [9], [], 0⟩ mx (by kernel_rfl) ?_
  intro nu hA _
  have ho := hA 8 (by simp)
  clear hA
  simp -dsimp (disch:=omega) only[go_sem]
  repeat' first |((fail_if_success (first|show W _ _ (Code.seq (Code.region 9 _ _) _) _ _ _|show W _ _ (Code.seq (Code.seq (Code.region 9 _ _) _) _) _ _ _));refine s1 ?_)|refine gS ?_|refine wT rfl ?_|refine wF rfl ?_|refine wt rfl ?_|refine wf rfl ?_|(refine wC rfl (fun h=>?_) (fun h=>?_)<;>(try contradiction))|((fail_if_success (first|show W _ _ (Code.region 9 _ _) _ _ _));(first|refine rd ?_|refine ry [] c0 fun nu _ _=>?_);simp -dsimp (disch:=omega) only[go_sem])|refine e0 (by decide) ?_|(refine zA ?_ ?_;omega)|refine zA (of_eq_true PutAt_put) ?_|refine gT ?_|refine gF ?_|(refine gI (fun h=>?_) (fun h=>?_)<;>(try contradiction)<;>(try refine rd ?_)<;>(try simp -dsimp (disch:=omega) only[go_sem,h]))|refine zX _ (zX _ (zA (zA rfl rfl) ?_)) |refine us (d4) ?_ |(refine ck (some2 _ _ _ hw ho (by have hb := hb.out;first | omega | decide | (simp only [szA];omega)) (by have hb := hb.out;first | omega | decide | (simp only [szA];omega))) ?_;rintro _ _ ⟨rfl,hw⟩) |fail
  clear ho
  refine s1 ?_
  refine W_region_any (id := 9) [] ⟨[], [8, 9], [], [8], [9], [], 0⟩ mx (by kernel_rfl) ?_
  intro nu hA _
  have ho := hA 8 (by simp)
  clear hA
  simp -dsimp (disch:=omega) only[go_sem]
  repeat' first |((fail_if_success (first|show W _ _ (Code.seq (Code.region 10 _ _) _) _ _ _|show W _ _ (Code.seq (Code.seq (Code.region 10 _ _) _) _) _ _ _));refine s1 ?_)|refine gS ?_|refine wT rfl ?_|refine wF rfl ?_|refine wt rfl ?_|refine wf rfl ?_|(refine wC rfl (fun h=>?_) (fun h=>?_)<;>(try contradiction))|((fail_if_success (first|show W _ _ (Code.region 10 _ _) _ _ _));(first|refine rd ?_|refine ry [] c0 fun nu _ _=>?_);simp -dsimp (disch:=omega) only[go_sem])|refine e0 (by decide) ?_|(refine zA ?_ ?_;omega)|refine zA (of_eq_true PutAt_put) ?_|refine gT ?_|refine gF ?_|(refine gI (fun h=>?_) (fun h=>?_)<;>(try contradiction)<;>(try refine rd ?_)<;>(try simp -dsimp (disch:=omega) only[go_sem,h]))|refine zX _ (zX _ (zA (zA rfl rfl) ?_)) |refine us (d2) ?_ |(refine ck (some2 _ _ _ hw ho (by have hb := hb.out;first | omega | decide | (simp only [szA];omega)) (by have hb := hb.out;first | omega | decide | (simp only [szA];omega))) ?_;rintro _ _ ⟨rfl,hw⟩) |fail
  clear ho
  refine s1 ?_
  refine W_region_any (id := 10) [] ⟨[], [8, 9], [], [8], [9], [], 0⟩ mx (by kernel_rfl) ?_
  intro nu hA _
  have ho := hA 8 (by simp)
  clear hA
  simp -dsimp (disch:=omega) only[go_sem]
  repeat' first |((fail_if_success (first|show W _ _ (Code.seq (Code.region 11 _ _) _) _ _ _|show W _ _ (Code.seq (Code.seq (Code.region 11 _ _) _) _) _ _ _));refine s1 ?_)|refine gS ?_|refine wT rfl ?_|refine wF rfl ?_|refine wt rfl ?_|refine wf rfl ?_|(refine wC rfl (fun h=>?_) (fun h=>?_)<;>(try contradiction))|((fail_if_success (first|show W _ _ (Code.region 11 _ _) _ _ _));(first|refine rd ?_|refine ry [] c0 fun nu _ _=>?_);simp -dsimp (disch:=omega) only[go_sem])|refine e0 (by decide) ?_|(refine zA ?_ ?_;omega)|refine zA (of_eq_true PutAt_put) ?_|refine gT ?_|refine gF ?_|(refine gI (fun h=>?_) (fun h=>?_)<;>(try contradiction)<;>(try refine rd ?_)<;>(try simp -dsimp (disch:=omega) only[go_sem,h]))|refine zX _ (zX _ (zA (zA rfl rfl) ?_)) |refine us (d3) ?_ |(refine ck (some2 _ _ _ hw ho (by have hb := hb.out;first | omega | decide | (simp only [szA];omega)) (by have hb := hb.out;first | omega | decide | (simp only [szA];omega))) ?_;rintro _ _ ⟨rfl,hw⟩) |fail
  clear ho
  refine s1 ?_
  refine W_region_any (id := 11) [] ⟨[], [10, 11], [], [10], [11], [], 0⟩ mx (by kernel_rfl) ?_
  intro nu hA _
  have ho := hA 10 (by simp)
  clear hA
  simp -dsimp (disch:=omega) only[go_sem,hori]
  repeat' first |((fail_if_success (first|show W _ _ (Code.seq (Code.region 12 _ _) _) _ _ _|show W _ _ (Code.seq (Code.seq (Code.region 12 _ _) _) _) _ _ _));refine s1 ?_)|refine gS ?_|refine wT rfl ?_|refine wF rfl ?_|refine wt rfl ?_|refine wf rfl ?_|(refine wC rfl (fun h=>?_) (fun h=>?_)<;>(try contradiction))|((fail_if_success (first|show W _ _ (Code.region 12 _ _) _ _ _));(first|refine rd ?_|refine ry [] c0 fun nu _ _=>?_);simp -dsimp (disch:=omega) only[go_sem,hori])|refine e0 (by decide) ?_|(refine zA ?_ ?_;omega)|refine zA (of_eq_true PutAt_put) ?_|refine gT ?_|refine gF ?_|(refine gI (fun h=>?_) (fun h=>?_)<;>(try contradiction)<;>(try refine rd ?_)<;>(try simp -dsimp (disch:=omega) only[go_sem,h,hori]))|refine zX _ (zX _ (zA (zA rfl rfl) ?_)) |(refine ck (some2 _ _ _ hw ho (by have hb := hb.out;first | omega | decide | (simp only [szA];omega)) (by have hb := hb.out;first | omega | decide | (simp only [szA];omega))) ?_;rintro _ _ ⟨rfl,hw⟩) |fail
  clear ho
  repeat' first |((fail_if_success (first|show W _ _ (Code.seq (Code.region 13 _ _) _) _ _ _|show W _ _ (Code.seq (Code.seq (Code.region 13 _ _) _) _) _ _ _));refine s1 ?_)|refine gS ?_|refine wT rfl ?_|refine wF rfl ?_|refine wt rfl ?_|refine wf rfl ?_|(refine wC rfl (fun h=>?_) (fun h=>?_)<;>(try contradiction))|((fail_if_success (first|show W _ _ (Code.region 13 _ _) _ _ _));(first|refine s3 (mu:=[83]) ?_|refine rd ?_|refine ry [83] c0 fun nu _ _=>?_);simp -dsimp (disch:=omega) only[go_sem])|refine e0 (by decide) ?_|(refine zA ?_ ?_;omega)|refine zA (of_eq_true PutAt_put) ?_|refine gT ?_|refine gF ?_|(refine gI (fun h=>?_) (fun h=>?_)<;>(try contradiction)<;>(try refine rd ?_)<;>(try simp -dsimp (disch:=omega) only[go_sem,h]))|refine zX _ (zX _ (zA (zA rfl rfl) ?_)) |fail
  intro o ho
  repeat' first |((fail_if_success (first|show W _ _ (Code.seq (Code.region 13 _ _) _) _ _ _|show W _ _ (Code.seq (Code.seq (Code.region 13 _ _) _) _) _ _ _));refine s1 ?_)|refine gS ?_|refine wT rfl ?_|refine wF rfl ?_|refine wt rfl ?_|refine wf rfl ?_|(refine wC rfl (fun h=>?_) (fun h=>?_)<;>(try contradiction))|((fail_if_success (first|show W _ _ (Code.region 13 _ _) _ _ _));(first|refine s3 (mu:=[83]) ?_|refine rd ?_|refine ry [83] c0 fun nu _ _=>?_);simp -dsimp (disch:=omega) only[go_sem])|refine e0 (by decide) ?_|(refine zA ?_ ?_;omega)|refine zA (of_eq_true PutAt_put) ?_|refine gT ?_|refine gF ?_|(refine gI (fun h=>?_) (fun h=>?_)<;>(try contradiction)<;>(try refine rd ?_)<;>(try simp -dsimp (disch:=omega) only[go_sem,h]))|refine zX _ (zX _ (zA (zA rfl rfl) ?_)) |(refine ck (some1 _ _  hw ho (by have hb := hb.out;first | omega | decide | (simp only [szA];omega)) (by have hb := hb.out;first | omega | decide | (simp only [szA];omega))) ?_;rintro _ _ ⟨rfl,hw⟩) |fail
  refine s1 ?_
  refine W_region_any (id := 13) [] ⟨[], [8, 9], [], [8], [9], [], 0⟩ mx (by kernel_rfl) ?_
  intro nu hA _
  have ho := hA 8 (by simp)
  clear hA
  simp -dsimp (disch:=omega) only[go_sem]
  repeat' first |((fail_if_success (first|show W _ _ (Code.seq (Code.region 14 _ _) _) _ _ _|show W _ _ (Code.seq (Code.seq (Code.region 14 _ _) _) _) _ _ _));refine s1 ?_)|refine gS ?_|refine wT rfl ?_|refine wF rfl ?_|refine wt rfl ?_|refine wf rfl ?_|(refine wC rfl (fun h=>?_) (fun h=>?_)<;>(try contradiction))|((fail_if_success (first|show W _ _ (Code.region 14 _ _) _ _ _));(first|refine rd ?_|refine ry [] c0 fun nu _ _=>?_);simp -dsimp (disch:=omega) only[go_sem])|refine e0 (by decide) ?_|(refine zA ?_ ?_;omega)|refine zA (of_eq_true PutAt_put) ?_|refine gT ?_|refine gF ?_|(refine gI (fun h=>?_) (fun h=>?_)<;>(try contradiction)<;>(try refine rd ?_)<;>(try simp -dsimp (disch:=omega) only[go_sem,h]))|refine zX _ (zX _ (zA (zA rfl rfl) ?_)) |refine us (d5) ?_ |(refine ck (some2 _ _ _ hw ho (by have hb := hb.out;first | omega | decide | (simp only [szA];omega)) (by have hb := hb.out;first | omega | decide | (simp only [szA];omega))) ?_;rintro _ _ ⟨rfl,hw⟩) |fail
  clear ho
  refine s1 ?_
  refine W_region_any (id := 14) [] ⟨[], [8, 9], [], [8], [9], [], 0⟩ mx (by kernel_rfl) ?_
  intro nu hA _
  have ho := hA 8 (by simp)
  clear hA
  simp -dsimp (disch:=omega) only[go_sem]
  repeat' first |((fail_if_success (first|show W _ _ (Code.seq (Code.region 15 _ _) _) _ _ _|show W _ _ (Code.seq (Code.seq (Code.region 15 _ _) _) _) _ _ _));refine s1 ?_)|refine gS ?_|refine wT rfl ?_|refine wF rfl ?_|refine wt rfl ?_|refine wf rfl ?_|(refine wC rfl (fun h=>?_) (fun h=>?_)<;>(try contradiction))|((fail_if_success (first|show W _ _ (Code.region 15 _ _) _ _ _));(first|refine rd ?_|refine ry [] c0 fun nu _ _=>?_);simp -dsimp (disch:=omega) only[go_sem])|refine e0 (by decide) ?_|(refine zA ?_ ?_;omega)|refine zA (of_eq_true PutAt_put) ?_|refine gT ?_|refine gF ?_|(refine gI (fun h=>?_) (fun h=>?_)<;>(try contradiction)<;>(try refine rd ?_)<;>(try simp -dsimp (disch:=omega) only[go_sem,h]))|refine zX _ (zX _ (zA (zA rfl rfl) ?_)) |refine us (d6) ?_ |(refine ck (some2 _ _ _ hw ho (by have hb := hb.out;first | omega | decide | (simp only [szA];omega)) (by have hb := hb.out;first | omega | decide | (simp only [szA];omega))) ?_;rintro _ _ ⟨rfl,hw⟩) |fail
  clear ho
  refine s1 ?_
  refine W_region_any (id := 15) [] ⟨[], [8, 9], [], [8], [9], [], 0⟩ mx (by kernel_rfl) ?_
  intro nu hA _
  have ho := hA 8 (by simp)
  clear hA
  simp -dsimp (disch:=omega) only[go_sem]
  repeat' first |((fail_if_success (first|show W _ _ (Code.seq (Code.region 16 _ _) _) _ _ _|show W _ _ (Code.seq (Code.seq (Code.region 16 _ _) _) _) _ _ _));refine s1 ?_)|refine gS ?_|refine wT rfl ?_|refine wF rfl ?_|refine wt rfl ?_|refine wf rfl ?_|(refine wC rfl (fun h=>?_) (fun h=>?_)<;>(try contradiction))|((fail_if_success (first|show W _ _ (Code.region 16 _ _) _ _ _));(first|refine rd ?_|refine ry [] c0 fun nu _ _=>?_);simp -dsimp (disch:=omega) only[go_sem])|refine e0 (by decide) ?_|(refine zA ?_ ?_;omega)|refine zA (of_eq_true PutAt_put) ?_|refine gT ?_|refine gF ?_|(refine gI (fun h=>?_) (fun h=>?_)<;>(try contradiction)<;>(try refine rd ?_)<;>(try simp -dsimp (disch:=omega) only[go_sem,h]))|refine zX _ (zX _ (zA (zA rfl rfl) ?_)) |refine us (d7) ?_ |(refine ck (some2 _ _ _ hw ho (by have hb := hb.out;first | omega | decide | (simp only [szA];omega)) (by have hb := hb.out;first | omega | decide | (simp only [szA];omega))) ?_;rintro _ _ ⟨rfl,hw⟩) |fail
  clear ho
  repeat' first |refine s1 ?_|refine gS ?_|refine wT rfl ?_|refine wF rfl ?_|refine wt rfl ?_|refine wf rfl ?_|(refine wC rfl (fun h=>?_) (fun h=>?_)<;>(try contradiction))|((first|refine rd ?_|refine ry [] c0 fun nu _ _=>?_);simp -dsimp (disch:=omega) only[go_sem])|refine e0 (by decide) ?_|(refine zA ?_ ?_;omega)|refine zA (of_eq_true PutAt_put) ?_|refine gT ?_|refine gF ?_|(refine gI (fun h=>?_) (fun h=>?_)<;>(try contradiction)<;>(try refine rd ?_)<;>(try simp -dsimp (disch:=omega) only[go_sem,h]))|refine zX _ (zX _ (zA (zA rfl rfl) ?_)) |(refine ck (line1 1 .full _ hw (by omega) (by have hb := hb.out;first | omega | decide | (simp only [szA];omega))) ?_;rintro _ _ ⟨rfl,hw⟩) |fail
  refine ⟨_, Store.Sub.refl _, ?_⟩
  simp only [asA] at hw
  simp only [clsText, clsLines, catB, emA, hwd, quoted]
  exact hw
end Go.Proofs.YtaealcimocpnnaaGreat

namespace Go.Proofs.YtaealcimocpnnaaGreat
open Go.Kern
set_option maxRecDepth 100000
set_option maxHeartbeats 4000000
attribute [local irreducible] PCall W
def LastT : Type := { n : Int // 0 ≤ n ∧ n ≤ 65535 }
theorem lastN_ok {n m : Int} (h : 0 ≤ n ∧ n ≤ 65535) : 0 ≤ lastN n m ∧ lastN n m ≤ 65535 := by
  unfold lastN; split <;> split <;> omega
def clsStep (st : LastT) (c : Cls) : Bool × LastT := (clsMay st.1 c, ⟨lastN st.1 c.n, lastN_ok st.2⟩)
def mapMayB (m : MapD) : Bool := (eachS 16 clsStep ⟨0, by omega⟩ m.l).1
structure MapD.Fits (m : MapD) : Prop where
  len : m.l.length < 4611686018427387904
  cls : ∀ c, c ∈ m.l → c.s.Fits ∧ c.m.path.size ≤ 1000 ∧ c.m.list.size ≤ 1000
  name : m.name.size ≤ 9223372036854775807
theorem mapMay_spec (m : MapD) (hm : m.Fits) : Pure Tryz.prog 31 [eMap m] (.bool (mapMayB m)) := by
  intro σ
  refine PCall_q [.tmp 2] 8 Tryz.func31 (by rfl) rfl rfl rfl rfl ?_
  repeat' first |((fail_if_success (first|show W _ _ (Code.seq (Code.region 2 _ _) _) _ _ _|show W _ _ (Code.seq (Code.seq (Code.region 2 _ _) _) _) _ _ _));refine s1 ?_)|refine gS ?_|refine wT rfl ?_|refine wF rfl ?_|refine wt rfl ?_|refine wf rfl ?_|(refine wC rfl (fun h=>?_) (fun h=>?_)<;>(try contradiction))|((fail_if_success (first|show W _ _ (Code.region 2 _ _) _ _ _));(first|refine rd ?_|refine ry [] c0 fun nu _ _=>?_);simp -dsimp (disch:=omega) only[go_sem])|refine e0 (by decide) ?_|(refine zA ?_ ?_;omega)|refine zA (of_eq_true PutAt_put) ?_|refine gT ?_|refine gF ?_|(refine gI (fun h=>?_) (fun h=>?_)<;>(try contradiction)<;>(try refine rd ?_)<;>(try simp -dsimp (disch:=omega) only[go_sem,h]))|refine zX _ (zX _ (zA (zA rfl rfl) ?_)) |fail
  intro o ho
  have hc := eachCls 76 [.ptr o 0 0] (fun st : LastT => σ.put o (lastO st.1)) clsStep m.k m.l 16 hm.len (fun st c hx => mapMay1_spec c (hm.cls c hx).1 (hm.cls c hx).2.1 (hm.cls c hx).2.2 st.1 st.2.1 st.2.2 o σ) ⟨0, by omega⟩
  unfold lastO at hc
  repeat' first |refine s1 ?_|refine gS ?_|refine wT rfl ?_|refine wF rfl ?_|refine wt rfl ?_|refine wf rfl ?_|(refine wC rfl (fun h=>?_) (fun h=>?_)<;>(try contradiction))|((first|refine rd ?_|refine ry [] c0 fun nu _ _=>?_);simp -dsimp (disch:=omega) only[go_sem])|refine e0 (by decide) ?_|(refine zA ?_ ?_;omega)|refine zA (of_eq_true PutAt_put) ?_|refine gT ?_|refine gF ?_|(refine gI (fun h=>?_) (fun h=>?_)<;>(try contradiction)<;>(try refine rd ?_)<;>(try simp -dsimp (disch:=omega) only[go_sem,h]))|refine zX _ (zX _ (zA (zA rfl rfl) ?_)) |refine uw (hc) ?_ |fail
  all_goals (first | exact ⟨_, Sub_put (Store.Sub.refl _) ho _, rfl, rfl⟩ | exact Sub_put (Store.Sub.refl _) ho _ | exact ⟨rfl, Sub_put (Store.Sub.refl _) ho _⟩)
def pfxEq (p q : Pfx) : Bool := decide (p.a = q.a) && decide (p.b = q.b)
def idxP (v : Pfx) : Int → List Pfx → Int
  | _, [] => -1
  | i, x :: r => if pfxEq v x = true then i else idxP v (i + 1) r
theorem idxP_drop (v : Pfx) (l : List Pfx) (i : Nat) (h : i < l.length) (k : Int) : idxP v k (l.drop i) = if pfxEq v (l.getD i default) = true then k else idxP v (k + 1) (l.drop (i + 1)) := by
  rw [List.drop_eq_getElem_cons h, idxP]
  simp [List.getD_eq_getElem?_getD, h]
theorem idxP_any (v : Pfx) : ∀ (l : List Pfx) (k : Int), 0 ≤ k → decide (0 ≤ idxP v k l) = l.any (pfxEq v)
  | [], k, _ => rfl
  | x :: l, k, h => by
    have ih := idxP_any v l (k + 1) (by omega)
    by_cases hx : pfxEq v x = true
    · simp only [idxP, List.any_cons, hx, if_true, h, decide_true, Bool.true_or]
    · simp only [idxP, List.any_cons, hx, if_false, Bool.false_or]; exact ih
theorem idxP_spec (k : SK) (l : List Pfx) (hl : l.length < 4611686018427387904) (v : Pfx) : Pure Tryz.prog 139 [.sl k (encL ePfx l), ePfx v] (.int .i64 (idxP v 0 l)) := by
  intro σ
  refine PCall_q [.tmp 4] 19 Tryz.func139 (by rfl) rfl rfl rfl rfl ?_
  repeat' first |refine s1 ?_|refine gS ?_|refine wT rfl ?_|refine wF rfl ?_|refine wt rfl ?_|refine wf rfl ?_|(refine wC rfl (fun h=>?_) (fun h=>?_)<;>(try contradiction))|((first|refine rd ?_|refine ry [] c0 fun nu _ _=>?_);simp -dsimp (disch:=omega) only[go_sem])|refine e0 (by decide) ?_|(refine zA ?_ ?_;omega)|refine zA (of_eq_true PutAt_put) ?_|refine gT ?_|refine gF ?_|(refine gI (fun h=>?_) (fun h=>?_)<;>(try contradiction)<;>(try refine rd ?_)<;>(try simp -dsimp (disch:=omega) only[go_sem,h]))|refine zX _ (zX _ (zA (zA rfl rfl) ?_)) |fail
  refine W_loop_st (fun i : Nat => [(0, .sl k (encL ePfx l)), (3, .ip (ePfx v) 0), (7, .int .i64 l.length), (8, .int .i64 i)]) (fun _ => σ) (fun i => i ≤ l.length ∧ idxP v 0 l = idxP v i (l.drop i)) (fun i => l.length - i) 0 ⟨Nat.zero_le _, rfl⟩ (Env.Sub_of_has (by simp [Env.Has, Env.get, ePfx])) (Store.Sub.refl _) ?_
  rintro i ⟨hi, hor⟩
  by_cases hlt : i < l.length
  · have ho := idxP_drop v l i hlt i
    repeat' first |refine s1 ?_|refine gS ?_|refine wT rfl ?_|refine wF rfl ?_|refine wt rfl ?_|refine wf rfl ?_|(refine wC rfl (fun h=>?_) (fun h=>?_)<;>(try contradiction))|((first|refine rd ?_|refine ry [] c0 fun nu _ _=>?_);simp -dsimp (disch:=omega) only[go_sem])|refine e0 (by decide) ?_|(refine zA ?_ ?_;omega)|refine zA (of_eq_true PutAt_put) ?_|refine gT ?_|refine gF ?_|(refine gI (fun h=>?_) (fun h=>?_)<;>(try contradiction)<;>(try refine rd ?_)<;>(try simp -dsimp (disch:=omega) only[go_sem,h]))|refine zX _ (zX _ (zA (zA rfl rfl) ?_)) |fail
    · rw [hor, ho, if_pos (by simpa [pfxEq, cellsB, cellB] using h)]
    · rw [if_neg (by simpa [pfxEq, cellsB, cellB] using h)] at ho
      exact ⟨i + 1, by omega, ⟨by omega, by rw [hor, ho]; rfl⟩, Env.Sub_of_has (by simp [Env.Has, Env.get, ePfx]), Store.Sub.refl _⟩
  · have hi' : i = l.length := by omega
    subst hi'
    repeat' first |refine s1 ?_|refine gS ?_|refine wT rfl ?_|refine wF rfl ?_|refine wt rfl ?_|refine wf rfl ?_|(refine wC rfl (fun h=>?_) (fun h=>?_)<;>(try contradiction))|((first|refine rd ?_|refine ry [] c0 fun nu _ _=>?_);simp -dsimp (disch:=omega) only[go_sem])|refine e0 (by decide) ?_|(refine zA ?_ ?_;omega)|refine zA (of_eq_true PutAt_put) ?_|refine gT ?_|refine gF ?_|(refine gI (fun h=>?_) (fun h=>?_)<;>(try contradiction)<;>(try refine rd ?_)<;>(try simp -dsimp (disch:=omega) only[go_sem,h]))|refine zX _ (zX _ (zA (zA rfl rfl) ?_)) |fail
    rw [hor, List.drop_length]; rfl
theorem conP_spec (k : SK) (l : List Pfx) (hl : l.length < 4611686018427387904) (v : Pfx) : Pure Tryz.prog 84 [.sl k (encL ePfx l), ePfx v] (.bool (l.any (pfxEq v))) := by
  intro σ
  have h := idxP_spec k l hl v
  refine PCall_q [.tmp 4] 9 Tryz.func84 (by rfl) rfl rfl rfl rfl ?_
  repeat' first |refine s1 ?_|refine gS ?_|refine wT rfl ?_|refine wF rfl ?_|refine wt rfl ?_|refine wf rfl ?_|(refine wC rfl (fun h=>?_) (fun h=>?_)<;>(try contradiction))|((first|refine rd ?_|refine ry [] c0 fun nu _ _=>?_);simp -dsimp (disch:=omega) only[go_sem])|refine e0 (by decide) ?_|(refine zA ?_ ?_;omega)|refine zA (of_eq_true PutAt_put) ?_|refine gT ?_|refine gF ?_|(refine gI (fun h=>?_) (fun h=>?_)<;>(try contradiction)<;>(try refine rd ?_)<;>(try simp -dsimp (disch:=omega) only[go_sem,h]))|refine zX _ (zX _ (zA (zA rfl rfl) ?_)) |refine us (h) ?_ |fail
  rw [idxP_any v l 0 (Int.le_refl _)]
def distB : List Pfx → List Pfx → Bool
  | _, [] => true
  | pre, p :: r => !(pre.any (pfxEq p)) && distB (pre ++ [p]) r
theorem distB_drop (l : List Pfx) (i : Nat) (h : i < l.length) : distB (l.take i) (l.drop i) = (!((l.take i).any (pfxEq (l.getD i default))) && distB (l.take (i + 1)) (l.drop (i + 1))) := by
  rw [List.drop_eq_getElem_cons h, distB, List.take_succ_eq_append_getElem h]
  simp [List.getD_eq_getElem?_getD, h]
def nbrMay (n : Nbr) : Bool := usedB n.imp && usedB n.exp
theorem nbrMay_spec (n : Nbr) (h1 : n.imp.size ≤ 9223372036854775807) (h2 : n.exp.size ≤ 9223372036854775807) : Pure Tryz.prog 86 [eNbr n] (.bool (nbrMay n)) := by
  intro σ
  have h3 := used_spec n.imp h1
  have h4 := used_spec n.exp h2
  refine PCall_q [.tmp 2] 11 Tryz.func86 (by rfl) rfl rfl rfl rfl ?_
  repeat' first |refine s1 ?_|refine gS ?_|refine wT rfl ?_|refine wF rfl ?_|refine wt rfl ?_|refine wf rfl ?_|(refine wC rfl (fun h=>?_) (fun h=>?_)<;>(try contradiction))|((first|refine rd ?_|refine ry [] c0 fun nu _ _=>?_);simp -dsimp (disch:=omega) only[go_sem])|refine e0 (by decide) ?_|(refine zA ?_ ?_;omega)|refine zA (of_eq_true PutAt_put) ?_|refine gT ?_|refine gF ?_|(refine gI (fun h=>?_) (fun h=>?_)<;>(try contradiction)<;>(try refine rd ?_)<;>(try simp -dsimp (disch:=omega) only[go_sem,h]))|refine zX _ (zX _ (zA (zA rfl rfl) ?_)) |refine us (h3) ?_ |refine us (h4) ?_ |fail
  all_goals simp_all [nbrMay]
def lnkMay (x : Lnk) : Bool := withinZ x.cost 0 65536
theorem lnkMay_spec (x : Lnk) : Pure Tryz.prog 89 [eLnk x] (.bool (lnkMay x)) := by
  intro σ
  refine PCall_q [.tmp 2] 6 Tryz.func89 (by rfl) rfl rfl rfl rfl ?_
  repeat' first |refine s1 ?_|refine gS ?_|refine wT rfl ?_|refine wF rfl ?_|refine wt rfl ?_|refine wf rfl ?_|(refine wC rfl (fun h=>?_) (fun h=>?_)<;>(try contradiction))|((first|refine rd ?_|refine ry [] c0 fun nu _ _=>?_);simp -dsimp (disch:=omega) only[go_sem])|refine e0 (by decide) ?_|(refine zA ?_ ?_;omega)|refine zA (of_eq_true PutAt_put) ?_|refine gT ?_|refine gF ?_|(refine gI (fun h=>?_) (fun h=>?_)<;>(try contradiction)<;>(try refine rd ?_)<;>(try simp -dsimp (disch:=omega) only[go_sem,h]))|refine zX _ (zX _ (zA (zA rfl rfl) ?_)) |refine us (within_spec _ _ _) ?_ |fail
  rfl
structure Rtr.Fits (r : Rtr) : Prop where
  name : r.name.size ≤ 9223372036854775807
  nets : r.nets.length < 4611686018427387904
  nbrs : r.nbrs.length < 4611686018427387904
  links : r.links.length < 4611686018427387904
  nbr : ∀ n, n ∈ r.nbrs → n.name.size ≤ 9223372036854775807 ∧ n.imp.size ≤ 9223372036854775807 ∧ n.exp.size ≤ 9223372036854775807
  link : ∀ n, n ∈ r.links → n.name.size ≤ 9223372036854775807
def rtrMay (r : Rtr) : Bool := withinZ r.asn 1 65535 && (withinZ r.id 1 65535 && (eachP 16 pfxMay r.nets && (distB [] r.nets && (eachP 16 nbrMay r.nbrs && (eachP 16 lnkMay r.links && (unlikeB [] (r.nbrs.map (·.name)) && unlikeB [] (r.links.map (·.name))))))))
theorem rtrMay_spec (r : Rtr) (hr : r.Fits) : Pure Tryz.prog 33 [eRtr r] (.bool (rtrMay r)) := by
  intro σ
  have hln := hr.nets
  have g1 := within_spec r.asn 1 65535
  have f2 := within_spec r.id 1 65535
  have f3 := eachPPfx 83 [] pfxMay r.kN r.nets 16 hr.nets (fun p _ => pfxMay_spec p)
  have f4 := eachPNbr 86 [] nbrMay r.kB r.nbrs 16 hr.nbrs (fun n hn => nbrMay_spec n (hr.nbr n hn).2.1 (hr.nbr n hn).2.2)
  have f5 := eachPLnk 89 [] lnkMay r.kL r.links 16 hr.links (fun n _ => lnkMay_spec n)
  have f6 := unlNbr r.kB r.nbrs hr.nbrs (fun n hn => (hr.nbr n hn).1)
  have f7 := unlLnk r.kL r.links hr.links (fun n hn => hr.link n hn)
  obtain ⟨b1, hb1⟩ : ∃ b, withinZ r.asn 1 65535 = b := ⟨_, rfl⟩
  obtain ⟨b2, hb2⟩ : ∃ b, withinZ r.id 1 65535 = b := ⟨_, rfl⟩
  obtain ⟨b3, hb3⟩ : ∃ b, eachP 16 pfxMay r.nets = b := ⟨_, rfl⟩
  obtain ⟨b4, hb4⟩ : ∃ b, eachP 16 nbrMay r.nbrs = b := ⟨_, rfl⟩
  obtain ⟨b5, hb5⟩ : ∃ b, eachP 16 lnkMay r.links = b := ⟨_, rfl⟩
  obtain ⟨b6, hb6⟩ : ∃ b, unlikeB [] (r.nbrs.map (·.name)) = b := ⟨_, rfl⟩
  obtain ⟨b7, hb7⟩ : ∃ b, unlikeB [] (r.links.map (·.name)) = b := ⟨_, rfl⟩
  simp only [rtrMay, hb1, hb2, hb3, hb4, hb5, hb6, hb7] at g1 f2 f3 f4 f5 f6 f7 ⊢
  rcases Bool.eq_false_or_eq_true b1 with rfl | rfl
  · rcases Bool.eq_false_or_eq_true b2 with rfl | rfl
    · rcases Bool.eq_false_or_eq_true b3 with rfl | rfl
      · skip
        refine PCall_q [.tmp 2] 54 Tryz.func33 (by rfl) rfl rfl rfl rfl ?_
        repeat' first |refine s1 ?_|refine gS ?_|refine wT rfl ?_|refine wF rfl ?_|refine wt rfl ?_|refine wf rfl ?_|(refine wC rfl (fun h=>?_) (fun h=>?_)<;>(try contradiction))|((first|refine rd ?_|refine ry [] c0 fun nu _ _=>?_);simp -dsimp (disch:=omega) only[go_sem])|refine e0 (by decide) ?_|(refine zA ?_ ?_;omega)|refine zA (of_eq_true PutAt_put) ?_|refine gT ?_|refine gF ?_|(refine gI (fun h=>?_) (fun h=>?_)<;>(try contradiction)<;>(try refine rd ?_)<;>(try simp -dsimp (disch:=omega) only[go_sem,h]))|refine zX _ (zX _ (zA (zA rfl rfl) ?_)) |refine us (g1) ?_ |refine us (f2) ?_ |refine us (f3) ?_ |fail
        refine W_loop_st (fun i : Nat => [(1, .ip (eRtr r) 0), (22, .sl r.kN (encL ePfx r.nets)), (23, .int .i64 r.nets.length), (24, .int .i64 i)]) (fun _ => σ) (fun i => i ≤ r.nets.length ∧ distB [] r.nets = distB (r.nets.take i) (r.nets.drop i)) (fun i => r.nets.length - i) 0 ⟨Nat.zero_le _, rfl⟩ (Env.Sub_of_has (by simp [Env.Has, Env.get, eRtr])) (Store.Sub.refl _) ?_
        rintro i ⟨hi, hor⟩
        by_cases hlt : i < r.nets.length
        · have ho := distB_drop r.nets i hlt
          have hc := conP_spec r.kN.cut (r.nets.take i) (by rw [List.length_take]; have := hr.nets; omega) (r.nets.getD i default)
          repeat' first |refine s1 ?_|refine gS ?_|refine wT rfl ?_|refine wF rfl ?_|refine wt rfl ?_|refine wf rfl ?_|(refine wC rfl (fun h=>?_) (fun h=>?_)<;>(try contradiction))|((first|refine rd ?_|refine ry [] c0 fun nu _ _=>?_);simp -dsimp (disch:=omega) only[go_sem])|refine e0 (by decide) ?_|(refine zA ?_ ?_;omega)|refine zA (of_eq_true PutAt_put) ?_|refine gT ?_|refine gF ?_|(refine gI (fun h=>?_) (fun h=>?_)<;>(try contradiction)<;>(try refine rd ?_)<;>(try simp -dsimp (disch:=omega) only[go_sem,h]))|refine zX _ (zX _ (zA (zA rfl rfl) ?_)) |fail
          intro o1 ho1
          have ho1' := ho1
          have hrow : rowsOk 2 (encL ePfx r.nets) = true := ok_encL 2 ePfx (fun _ => rfl) r.nets
          repeat' first |refine s1 ?_|refine gS ?_|refine wT rfl ?_|refine wF rfl ?_|refine wt rfl ?_|refine wf rfl ?_|(refine wC rfl (fun h=>?_) (fun h=>?_)<;>(try contradiction))|((first|refine rd ?_|refine ry (id:=6) [] (cq [1,4]) fun nu _ _=>?_|refine ry [] c0 fun nu _ _=>?_);simp -dsimp (disch:=omega) only[go_sem,take_encL, hrow])|refine e0 (by decide) ?_|(refine zA ?_ ?_;omega)|refine zA (of_eq_true PutAt_put) ?_|refine gT ?_|refine gF ?_|(refine gI (fun h=>?_) (fun h=>?_)<;>(try contradiction)<;>(try refine rd ?_)<;>(try simp -dsimp (disch:=omega) only[go_sem,h,take_encL, hrow]))|refine zX _ (zX _ (zA (zA rfl rfl) ?_)) |refine us (hc) ?_ |fail
          · exact ⟨by rw [hor, ho, h]; rfl, Sub_put (Store.Sub.refl _) ho1' _⟩
          · exact ⟨i + 1, by omega, ⟨by omega, by rw [hor, ho, h]; rfl⟩, Env.Sub_of_has (by simp [Env.Has, Env.get, eRtr]), Sub_put (Store.Sub.refl _) ho1' _⟩
        · have hi' : i = r.nets.length := by omega
          subst hi'
          have hd : distB [] r.nets = true := by rw [hor, List.drop_length]; rfl
          rw [hd]
          repeat' first |refine s1 ?_|refine gS ?_|refine wT rfl ?_|refine wF rfl ?_|refine wt rfl ?_|refine wf rfl ?_|(refine wC rfl (fun h=>?_) (fun h=>?_)<;>(try contradiction))|((first|refine rd ?_|refine ry [] c0 fun nu _ _=>?_);simp -dsimp (disch:=omega) only[go_sem])|refine e0 (by decide) ?_|(refine zA ?_ ?_;omega)|refine zA (of_eq_true PutAt_put) ?_|refine gT ?_|refine gF ?_|(refine gI (fun h=>?_) (fun h=>?_)<;>(try contradiction)<;>(try refine rd ?_)<;>(try simp -dsimp (disch:=omega) only[go_sem,h]))|refine zX _ (zX _ (zA (zA rfl rfl) ?_)) |refine us (f4) ?_ |refine us (f5) ?_ |refine us (f6) ?_ |refine us (f7) ?_ |fail
          all_goals (simp only [*, Bool.true_and, Bool.false_and])
      · skip
        refine PCall_q [.tmp 2] 54 Tryz.func33 (by rfl) rfl rfl rfl rfl ?_
        repeat' first |refine s1 ?_|refine gS ?_|refine wT rfl ?_|refine wF rfl ?_|refine wt rfl ?_|refine wf rfl ?_|(refine wC rfl (fun h=>?_) (fun h=>?_)<;>(try contradiction))|((first|refine rd ?_|refine ry [] c0 fun nu _ _=>?_);simp -dsimp (disch:=omega) only[go_sem])|refine e0 (by decide) ?_|(refine zA ?_ ?_;omega)|refine zA (of_eq_true PutAt_put) ?_|refine gT ?_|refine gF ?_|(refine gI (fun h=>?_) (fun h=>?_)<;>(try contradiction)<;>(try refine rd ?_)<;>(try simp -dsimp (disch:=omega) only[go_sem,h]))|refine zX _ (zX _ (zA (zA rfl rfl) ?_)) |refine us (g1) ?_ |refine us (f2) ?_ |refine us (f3) ?_ |fail
    · skip
      refine PCall_q [.tmp 2] 54 Tryz.func33 (by rfl) rfl rfl rfl rfl ?_
      repeat' first |refine s1 ?_|refine gS ?_|refine wT rfl ?_|refine wF rfl ?_|refine wt rfl ?_|refine wf rfl ?_|(refine wC rfl (fun h=>?_) (fun h=>?_)<;>(try contradiction))|((first|refine rd ?_|refine ry [] c0 fun nu _ _=>?_);simp -dsimp (disch:=omega) only[go_sem])|refine e0 (by decide) ?_|(refine zA ?_ ?_;omega)|refine zA (of_eq_true PutAt_put) ?_|refine gT ?_|refine gF ?_|(refine gI (fun h=>?_) (fun h=>?_)<;>(try contradiction)<;>(try refine rd ?_)<;>(try simp -dsimp (disch:=omega) only[go_sem,h]))|refine zX _ (zX _ (zA (zA rfl rfl) ?_)) |refine us (g1) ?_ |refine us (f2) ?_ |fail
  · skip
    refine PCall_q [.tmp 2] 54 Tryz.func33 (by rfl) rfl rfl rfl rfl ?_
    repeat' first |refine s1 ?_|refine gS ?_|refine wT rfl ?_|refine wF rfl ?_|refine wt rfl ?_|refine wf rfl ?_|(refine wC rfl (fun h=>?_) (fun h=>?_)<;>(try contradiction))|((first|refine rd ?_|refine ry [] c0 fun nu _ _=>?_);simp -dsimp (disch:=omega) only[go_sem])|refine e0 (by decide) ?_|(refine zA ?_ ?_;omega)|refine zA (of_eq_true PutAt_put) ?_|refine gT ?_|refine gF ?_|(refine gI (fun h=>?_) (fun h=>?_)<;>(try contradiction)<;>(try refine rd ?_)<;>(try simp -dsimp (disch:=omega) only[go_sem,h]))|refine zX _ (zX _ (zA (zA rfl rfl) ?_)) |refine us (g1) ?_ |fail
def lstMay (x : LstD) : Bool := decide (rngsMay x.l = 0)
theorem lstMay_spec (x : LstD) (h : x.l.length < 4611686018427387904) : Pure Tryz.prog 28 [eLst x] (.bool (lstMay x)) := by
  intro σ
  have h1 := rngsMay_spec x.k x.l h
  refine PCall_q [.tmp 2] 7 Tryz.func28 (by rfl) rfl rfl rfl rfl ?_
  repeat' first |refine s1 ?_|refine gS ?_|refine wT rfl ?_|refine wF rfl ?_|refine wt rfl ?_|refine wf rfl ?_|(refine wC rfl (fun h=>?_) (fun h=>?_)<;>(try contradiction))|((first|refine rd ?_|refine ry [] c0 fun nu _ _=>?_);simp -dsimp (disch:=omega) only[go_sem])|refine e0 (by decide) ?_|(refine zA ?_ ?_;omega)|refine zA (of_eq_true PutAt_put) ?_|refine gT ?_|refine gF ?_|(refine gI (fun h=>?_) (fun h=>?_)<;>(try contradiction)<;>(try refine rd ?_)<;>(try simp -dsimp (disch:=omega) only[go_sem,h]))|refine zX _ (zX _ (zA (zA rfl rfl) ?_)) |refine us (h1) ?_ |fail
  rfl
structure Cfg.Fits (c : Cfg) : Prop where
  lists : c.lists.length < 4611686018427387904
  maps : c.maps.length < 4611686018427387904
  routers : c.routers.length < 4611686018427387904
  lst : ∀ x, x ∈ c.lists → x.l.length < 4611686018427387904 ∧ x.name.size ≤ 9223372036854775807
  map : ∀ x, x ∈ c.maps → x.Fits
  rtr : ∀ x, x ∈ c.routers → x.Fits
def cfgMay (c : Cfg) : Bool := eachP 16 lstMay c.lists && (eachP 16 mapMayB c.maps && (eachP 8 rtrMay c.routers && (unlikeB [] (c.lists.map (·.name)) && (unlikeB [] (c.maps.map (·.name)) && unlikeB [] (c.routers.map (·.name))))))
theorem cfgMay_spec (c : Cfg) (hc : c.Fits) : Pure Tryz.prog 10 [eCfg c] (.bool (cfgMay c)) := by
  intro σ
  have f1 := eachPLst 28 [] lstMay c.kL c.lists 16 hc.lists (fun x hx => lstMay_spec x (hc.lst x hx).1)
  have f2 := eachPMap 31 [] mapMayB c.kM c.maps 16 hc.maps (fun x hx => mapMay_spec x (hc.map x hx))
  have f3 := eachPRtr 33 [] rtrMay c.kR c.routers 8 hc.routers (fun x hx => rtrMay_spec x (hc.rtr x hx))
  have f4 := unlLst c.kL c.lists hc.lists (fun x hx => (hc.lst x hx).2)
  have f5 := unlMap c.kM c.maps hc.maps (fun x hx => (hc.map x hx).name)
  have f6 := unlRtr c.kR c.routers hc.routers (fun x hx => (hc.rtr x hx).name)
  obtain ⟨b1, hb1⟩ : ∃ b, eachP 16 lstMay c.lists = b := ⟨_, rfl⟩
  obtain ⟨b2, hb2⟩ : ∃ b, eachP 16 mapMayB c.maps = b := ⟨_, rfl⟩
  obtain ⟨b3, hb3⟩ : ∃ b, eachP 8 rtrMay c.routers = b := ⟨_, rfl⟩
  obtain ⟨b4, hb4⟩ : ∃ b, unlikeB [] (c.lists.map (·.name)) = b := ⟨_, rfl⟩
  obtain ⟨b5, hb5⟩ : ∃ b, unlikeB [] (c.maps.map (·.name)) = b := ⟨_, rfl⟩
  obtain ⟨b6, hb6⟩ : ∃ b, unlikeB [] (c.routers.map (·.name)) = b := ⟨_, rfl⟩
  simp only [cfgMay, hb1, hb2, hb3, hb4, hb5, hb6] at f1 f2 f3 f4 f5 f6 ⊢
  refine PCall_q [.tmp 2] 33 Tryz.func10 (by rfl) rfl rfl rfl rfl ?_
  repeat' first |refine s1 ?_|refine gS ?_|refine wT rfl ?_|refine wF rfl ?_|refine wt rfl ?_|refine wf rfl ?_|(refine wC rfl (fun h=>?_) (fun h=>?_)<;>(try contradiction))|((first|refine rd ?_|refine ry [] c0 fun nu _ _=>?_);simp -dsimp (disch:=omega) only[go_sem])|refine e0 (by decide) ?_|(refine zA ?_ ?_;omega)|refine zA (of_eq_true PutAt_put) ?_|refine gT ?_|refine gF ?_|(refine gI (fun h=>?_) (fun h=>?_)<;>(try contradiction)<;>(try refine rd ?_)<;>(try simp -dsimp (disch:=omega) only[go_sem,h]))|refine zX _ (zX _ (zA (zA rfl rfl) ?_)) |refine us (f1) ?_ |refine us (f2) ?_ |refine us (f3) ?_ |refine us (f4) ?_ |refine us (f5) ?_ |refine us (f6) ?_ |fail
  all_goals (simp only [*, Bool.true_and, Bool.false_and])
end Go.Proofs.YtaealcimocpnnaaGreat

namespace Go.Proofs.YtaealcimocpnnaaGreat
open Go.Kern Go.RowKit
theorem cat_drop {α : Type} [Inhabited α] (f : α → ByteArray) {l : List α} {i : Nat} (h : i < l.length) : catB ((l.map f).drop i) = f (l.getD i default) ++ catB ((l.map f).drop (i + 1)) := by
  rw [List.drop_eq_getElem_cons (by simpa using h), catB]
  simp [List.getD_eq_getElem?_getD, h]
theorem WS_end {σ t : Store} {w : Nat} {a b : ByteArray} (h : WS σ w a t) (e : a = b) : WS σ w b t := e ▸ h
set_option maxRecDepth 100000
set_option maxHeartbeats 4000000
attribute [local irreducible] PCall W
theorem lst_spec {σ t : Store} {w : Nat} {s : ByteArray} (h : WS σ w s t) (y : LstD) (hl : y.l.length < 4611686018427387904) (hg : ∀ r, r ∈ y.l → r.p.Ok) (hb : s.size + (lstText y).size ≤ 140737488355328) :
    PCall Tryz.prog 18 [.ptr w 0 0, eLst y] t (fun r t' => r = .tup [] ∧ WS σ w (s ++ lstText y) t') := by
  simp only [lstText, szA] at hb
  have y1 : ((⟨#[59]⟩ : ByteArray)).size = 1 := rfl
  refine PCall_w [] 28 Tryz.func18 (by rfl) rfl rfl rfl rfl ?_
  repeat' first |refine s1 ?_|refine gS ?_|refine wT rfl ?_|refine wF rfl ?_|refine wt rfl ?_|refine wf rfl ?_|(refine wC rfl (fun h=>?_) (fun h=>?_)<;>(try contradiction))|((first|refine rd ?_|refine ry [] c0 fun nu _ _=>?_);simp -dsimp (disch:=omega) only[go_sem])|refine e0 (by decide) ?_|(refine zA ?_ ?_;omega)|refine zA (of_eq_true PutAt_put) ?_|refine gT ?_|refine gF ?_|(refine gI (fun h=>?_) (fun h=>?_)<;>(try contradiction)<;>(try refine rd ?_)<;>(try simp -dsimp (disch:=omega) only[go_sem,h]))|refine zX _ (zX _ (zA (zA rfl rfl) ?_)) |(refine ck (line3 0 .full _ _ _ h (by omega) (by omega)) ?_;rintro _ _ ⟨rfl,hw⟩) |fail
  refine W_loop_st (fun x : Nat × Store × ByteArray => [(0, .ptr w 0 0), (12, .sl y.k (encL eRng y.l)), (13, .int .i64 y.l.length), (14, .int .i64 x.1)]) (fun x => x.2.1) (fun x => x.1 ≤ y.l.length ∧ WS σ w x.2.2 x.2.1 ∧ x.2.2 ++ catB ((y.l.map (fun r => lineB 1 [rngText r ++ (⟨#[59]⟩ : ByteArray)])).drop x.1) = (s ++ lineB 0 [(⟨#[112, 114, 101, 102, 105, 120, 45, 108, 105, 115, 116]⟩ : ByteArray), y.name, (⟨#[123]⟩ : ByteArray)]) ++ catB (y.l.map (fun r => lineB 1 [rngText r ++ (⟨#[59]⟩ : ByteArray)]))) (fun x => y.l.length - x.1) (0, _, (s ++ lineB 0 [(⟨#[112, 114, 101, 102, 105, 120, 45, 108, 105, 115, 116]⟩ : ByteArray), y.name, (⟨#[123]⟩ : ByteArray)])) ⟨Nat.zero_le _, hw, rfl⟩ (Env.Sub_of_has (by simp [Env.Has, Env.get, eLst])) (Store.Sub.refl _) ?_
  rintro ⟨i, u, v⟩ ⟨hi, hwi, hvi⟩
  simp only at hi hwi hvi
  by_cases hlt : i < y.l.length
  · have hmem : y.l.getD i default ∈ y.l := by rw [List.getD_eq_getElem?_getD, List.getElem?_eq_getElem hlt]; exact List.getElem_mem hlt
    have hcat := cat_drop (fun r => lineB 1 [rngText r ++ (⟨#[59]⟩ : ByteArray)]) hlt
    rw [hcat] at hvi
    have hsz := congrArg ByteArray.size hvi
    simp only [szA] at hsz
    obtain ⟨x, hx⟩ : ∃ x, y.l.getD i default = x := ⟨_, rfl⟩
    rw [hx] at hmem hvi hsz
    have d1 := rngText_spec x (hg x hmem)
    have z1 := rngText_size x (hg x hmem)
    repeat' first |refine s1 ?_|refine gS ?_|refine wT rfl ?_|refine wF rfl ?_|refine wt rfl ?_|refine wf rfl ?_|(refine wC rfl (fun h=>?_) (fun h=>?_)<;>(try contradiction))|((first|refine rd ?_|refine ry [] c0 fun nu _ _=>?_);simp -dsimp (disch:=omega) only[go_sem,hx])|refine e0 (by decide) ?_|(refine zA ?_ ?_;omega)|refine zA (of_eq_true PutAt_put) ?_|refine gT ?_|refine gF ?_|(refine gI (fun h=>?_) (fun h=>?_)<;>(try contradiction)<;>(try refine rd ?_)<;>(try simp -dsimp (disch:=omega) only[go_sem,h,hx]))|refine zX _ (zX _ (zA (zA rfl rfl) ?_)) |fail
    intro o1 ho1
    repeat' first |refine s1 ?_|refine gS ?_|refine wT rfl ?_|refine wF rfl ?_|refine wt rfl ?_|refine wf rfl ?_|(refine wC rfl (fun h=>?_) (fun h=>?_)<;>(try contradiction))|((first|refine rd ?_|refine ry [] c0 fun nu _ _=>?_);simp -dsimp (disch:=omega) only[go_sem,hx, szA, y1])|refine e0 (by decide) ?_|(refine zA ?_ ?_;omega)|refine zA (of_eq_true PutAt_put) ?_|refine gT ?_|refine gF ?_|(refine gI (fun h=>?_) (fun h=>?_)<;>(try contradiction)<;>(try refine rd ?_)<;>(try simp -dsimp (disch:=omega) only[go_sem,h,hx, szA, y1]))|refine zX _ (zX _ (zA (zA rfl rfl) ?_)) |refine us (d1) ?_ |(refine ck (line1 1 .full _ (WS_put hwi ho1) (by omega) (by first | omega | (simp only [szA];omega))) ?_;rintro _ _ ⟨rfl,hw⟩) |fail
    exact ⟨(i + 1, _, _), by simp only;omega, ⟨by simp only;omega, hw, by simp only;rw [asA];exact hvi⟩, Env.Sub_of_has (by simp [Env.Has, Env.get, eLst]), Store.Sub.refl _⟩
  · have hi' : i = y.l.length := by omega
    subst hi'
    rw [List.drop_eq_nil_of_le (by simp), catB, emA] at hvi
    rw [hvi] at hwi
    clear hvi
    have hw := hwi
    clear hwi
    repeat' first |refine s1 ?_|refine gS ?_|refine wT rfl ?_|refine wF rfl ?_|refine wt rfl ?_|refine wf rfl ?_|(refine wC rfl (fun h=>?_) (fun h=>?_)<;>(try contradiction))|((first|refine rd ?_|refine ry [] c0 fun nu _ _=>?_);simp -dsimp (disch:=omega) only[go_sem])|refine e0 (by decide) ?_|(refine zA ?_ ?_;omega)|refine zA (of_eq_true PutAt_put) ?_|refine gT ?_|refine gF ?_|(refine gI (fun h=>?_) (fun h=>?_)<;>(try contradiction)<;>(try refine rd ?_)<;>(try simp -dsimp (disch:=omega) only[go_sem,h]))|refine zX _ (zX _ (zA (zA rfl rfl) ?_)) |(refine ck (line1 0 .full _ hw (by omega) (by first | omega | (simp only [szA];omega))) ?_;rintro _ _ ⟨rfl,hw⟩) |fail
    refine ⟨_, Store.Sub.refl _, WS_end hw ?_⟩
    simp only [lstText, asA]
theorem map_spec {σ t : Store} {w : Nat} {s : ByteArray} (h : WS σ w s t) (y : MapD) (hl : y.l.length < 4611686018427387904) (hg : ∀ r, r ∈ y.l → r.Good) (hb : s.size + (mapText y).size ≤ 140737488355328) :
    PCall Tryz.prog 19 [.ptr w 0 0, eMap y] t (fun r t' => r = .tup [] ∧ WS σ w (s ++ mapText y) t') := by
  simp only [mapText, szA] at hb
  refine PCall_w [] 25 Tryz.func19 (by rfl) rfl rfl rfl rfl ?_
  repeat' first |refine s1 ?_|refine gS ?_|refine wT rfl ?_|refine wF rfl ?_|refine wt rfl ?_|refine wf rfl ?_|(refine wC rfl (fun h=>?_) (fun h=>?_)<;>(try contradiction))|((first|refine rd ?_|refine ry [] c0 fun nu _ _=>?_);simp -dsimp (disch:=omega) only[go_sem])|refine e0 (by decide) ?_|(refine zA ?_ ?_;omega)|refine zA (of_eq_true PutAt_put) ?_|refine gT ?_|refine gF ?_|(refine gI (fun h=>?_) (fun h=>?_)<;>(try contradiction)<;>(try refine rd ?_)<;>(try simp -dsimp (disch:=omega) only[go_sem,h]))|refine zX _ (zX _ (zA (zA rfl rfl) ?_)) |(refine ck (line3 0 .full _ _ _ h (by omega) (by omega)) ?_;rintro _ _ ⟨rfl,hw⟩) |fail
  refine W_loop_st (fun x : Nat × Store × ByteArray => [(0, .ptr w 0 0), (12, .sl y.k (encL eCls y.l)), (13, .int .i64 y.l.length), (14, .int .i64 x.1)]) (fun x => x.2.1) (fun x => x.1 ≤ y.l.length ∧ WS σ w x.2.2 x.2.1 ∧ x.2.2 ++ catB ((y.l.map clsText).drop x.1) = (s ++ lineB 0 [(⟨#[114, 111, 117, 116, 101, 45, 109, 97, 112]⟩ : ByteArray), y.name, (⟨#[123]⟩ : ByteArray)]) ++ catB (y.l.map clsText)) (fun x => y.l.length - x.1) (0, _, (s ++ lineB 0 [(⟨#[114, 111, 117, 116, 101, 45, 109, 97, 112]⟩ : ByteArray), y.name, (⟨#[123]⟩ : ByteArray)])) ⟨Nat.zero_le _, hw, rfl⟩ (Env.Sub_of_has (by simp [Env.Has, Env.get, eMap])) (Store.Sub.refl _) ?_
  rintro ⟨i, u, v⟩ ⟨hi, hwi, hvi⟩
  simp only at hi hwi hvi
  by_cases hlt : i < y.l.length
  · have hmem : y.l.getD i default ∈ y.l := by rw [List.getD_eq_getElem?_getD, List.getElem?_eq_getElem hlt]; exact List.getElem_mem hlt
    have hcat := cat_drop clsText hlt
    rw [hcat] at hvi
    have hsz := congrArg ByteArray.size hvi
    simp only [szA] at hsz
    obtain ⟨x, hx⟩ : ∃ x, y.l.getD i default = x := ⟨_, rfl⟩
    rw [hx] at hmem hvi hsz
    repeat' first |refine s1 ?_|refine gS ?_|refine wT rfl ?_|refine wF rfl ?_|refine wt rfl ?_|refine wf rfl ?_|(refine wC rfl (fun h=>?_) (fun h=>?_)<;>(try contradiction))|((first|refine rd ?_|refine ry [] c0 fun nu _ _=>?_);simp -dsimp (disch:=omega) only[go_sem,hx])|refine e0 (by decide) ?_|(refine zA ?_ ?_;omega)|refine zA (of_eq_true PutAt_put) ?_|refine gT ?_|refine gF ?_|(refine gI (fun h=>?_) (fun h=>?_)<;>(try contradiction)<;>(try refine rd ?_)<;>(try simp -dsimp (disch:=omega) only[go_sem,h,hx]))|refine zX _ (zX _ (zA (zA rfl rfl) ?_)) |fail
    intro o1 ho1
    repeat' first |refine s1 ?_|refine gS ?_|refine wT rfl ?_|refine wF rfl ?_|refine wt rfl ?_|refine wf rfl ?_|(refine wC rfl (fun h=>?_) (fun h=>?_)<;>(try contradiction))|((first|refine rd ?_|refine ry [] c0 fun nu _ _=>?_);simp -dsimp (disch:=omega) only[go_sem,hx])|refine e0 (by decide) ?_|(refine zA ?_ ?_;omega)|refine zA (of_eq_true PutAt_put) ?_|refine gT ?_|refine gF ?_|(refine gI (fun h=>?_) (fun h=>?_)<;>(try contradiction)<;>(try refine rd ?_)<;>(try simp -dsimp (disch:=omega) only[go_sem,h,hx]))|refine zX _ (zX _ (zA (zA rfl rfl) ?_)) |(refine ck (cls_spec (WS_put hwi ho1) x (hg x hmem) (by first | omega | (simp only [szA];omega))) ?_;rintro _ _ ⟨rfl,hw⟩) |fail
    exact ⟨(i + 1, _, _), by simp only;omega, ⟨by simp only;omega, hw, by simp only;rw [asA];exact hvi⟩, Env.Sub_of_has (by simp [Env.Has, Env.get, eMap]), Store.Sub.refl _⟩
  · have hi' : i = y.l.length := by omega
    subst hi'
    rw [List.drop_eq_nil_of_le (by simp), catB, emA] at hvi
    rw [hvi] at hwi
    clear hvi
    have hw := hwi
    clear hwi
    repeat' first |refine s1 ?_|refine gS ?_|refine wT rfl ?_|refine wF rfl ?_|refine wt rfl ?_|refine wf rfl ?_|(refine wC rfl (fun h=>?_) (fun h=>?_)<;>(try contradiction))|((first|refine rd ?_|refine ry [] c0 fun nu _ _=>?_);simp -dsimp (disch:=omega) only[go_sem])|refine e0 (by decide) ?_|(refine zA ?_ ?_;omega)|refine zA (of_eq_true PutAt_put) ?_|refine gT ?_|refine gF ?_|(refine gI (fun h=>?_) (fun h=>?_)<;>(try contradiction)<;>(try refine rd ?_)<;>(try simp -dsimp (disch:=omega) only[go_sem,h]))|refine zX _ (zX _ (zA (zA rfl rfl) ?_)) |(refine ck (line1 0 .full _ hw (by omega) (by first | omega | (simp only [szA];omega))) ?_;rintro _ _ ⟨rfl,hw⟩) |fail
    refine ⟨_, Store.Sub.refl _, WS_end hw ?_⟩
    simp only [mapText, asA]
structure Rtr.Good (y : Rtr) : Prop where
  asn : 0 ≤ y.asn ∧ y.asn ≤ 1000000000000
  id : 0 ≤ y.id ∧ y.id ≤ 1000000000000
  fits : y.Fits
  nets : ∀ p, p ∈ y.nets → p.Ok
  nbrs : ∀ n, n ∈ y.nbrs → n.name.size ≤ 1000 ∧ n.imp.size ≤ 1000 ∧ n.exp.size ≤ 1000
  links : ∀ n, n ∈ y.links → 0 ≤ n.cost ∧ n.cost ≤ 1000000000000
theorem rtr_spec {σ t : Store} {w : Nat} {s : ByteArray} (h : WS σ w s t) (y : Rtr) (hg : y.Good) (hb : s.size + (rtrText y).size ≤ 140737488355328) :
    PCall Tryz.prog 20 [.ptr w 0 0, eRtr y] t (fun r t' => r = .tup [] ∧ WS σ w (s ++ rtrText y) t') := by
  simp only [rtrText, szA] at hb
  have y1 : ((⟨#[59]⟩ : ByteArray)).size = 1 := rfl
  have y2 : ((⟨#[32, 105, 109, 112, 111, 114, 116, 32]⟩ : ByteArray)).size = 8 := rfl
  have y3 : ((⟨#[32, 101, 120, 112, 111, 114, 116, 32]⟩ : ByteArray)).size = 8 := rfl
  have y4 : ((⟨#[32, 99, 108, 105, 101, 110, 116]⟩ : ByteArray)).size = 7 := rfl
  have ln1 := hg.fits.nets
  have ln2 := hg.fits.nbrs
  have ln3 := hg.fits.links
  have z1 := digB_size y.asn (by have := hg.asn; omega)
  have z2 := digB_size y.id (by have := hg.id; omega)
  have d1 := digS_spec _ y.asn hg.asn.1 (Nat.lt_succ_self _) (by have := hg.asn; omega)
  have d2 := digS_spec _ y.id hg.id.1 (Nat.lt_succ_self _) (by have := hg.id; omega)
  refine PCall_w [] 99 Tryz.func20 (by rfl) rfl rfl rfl rfl ?_
  repeat' first |((fail_if_success (first|show W _ _ (Code.seq (Code.region 2 _ _) _) _ _ _|show W _ _ (Code.seq (Code.seq (Code.region 2 _ _) _) _) _ _ _));refine s1 ?_)|refine gS ?_|refine wT rfl ?_|refine wF rfl ?_|refine wt rfl ?_|refine wf rfl ?_|(refine wC rfl (fun h=>?_) (fun h=>?_)<;>(try contradiction))|((fail_if_success (first|show W _ _ (Code.region 2 _ _) _ _ _));(first|refine rd ?_|refine ry [] c0 fun nu _ _=>?_);simp -dsimp (disch:=omega) only[go_sem])|refine e0 (by decide) ?_|(refine zA ?_ ?_;omega)|refine zA (of_eq_true PutAt_put) ?_|refine gT ?_|refine gF ?_|(refine gI (fun h=>?_) (fun h=>?_)<;>(try contradiction)<;>(try refine rd ?_)<;>(try simp -dsimp (disch:=omega) only[go_sem,h]))|refine zX _ (zX _ (zA (zA rfl rfl) ?_)) |(refine ck (line3 0 .full _ _ _ h (by omega) (by omega)) ?_;rintro _ _ ⟨rfl,hw⟩) |fail
  repeat' first |((fail_if_success (first|show W _ _ (Code.seq (Code.region 3 _ _) _) _ _ _|show W _ _ (Code.seq (Code.seq (Code.region 3 _ _) _) _) _ _ _));refine s1 ?_)|refine gS ?_|refine wT rfl ?_|refine wF rfl ?_|refine wt rfl ?_|refine wf rfl ?_|(refine wC rfl (fun h=>?_) (fun h=>?_)<;>(try contradiction))|((fail_if_success (first|show W _ _ (Code.region 3 _ _) _ _ _));(first|refine rd ?_|refine ry [] c0 fun nu _ _=>?_);simp -dsimp (disch:=omega) only[go_sem,szA, y1])|refine e0 (by decide) ?_|(refine zA ?_ ?_;omega)|refine zA (of_eq_true PutAt_put) ?_|refine gT ?_|refine gF ?_|(refine gI (fun h=>?_) (fun h=>?_)<;>(try contradiction)<;>(try refine rd ?_)<;>(try simp -dsimp (disch:=omega) only[go_sem,h,szA, y1]))|refine zX _ (zX _ (zA (zA rfl rfl) ?_)) |refine us (d1) ?_ |(refine ck (line2 1 .full _ _ hw (by omega) (by first | omega | (simp only [szA];omega))) ?_;rintro _ _ ⟨rfl,hw⟩) |fail
  repeat' first |refine s1 ?_|refine gS ?_|refine wT rfl ?_|refine wF rfl ?_|refine wt rfl ?_|refine wf rfl ?_|(refine wC rfl (fun h=>?_) (fun h=>?_)<;>(try contradiction))|((first|refine rd ?_|refine ry [] c0 fun nu _ _=>?_);simp -dsimp (disch:=omega) only[go_sem,szA, y1])|refine e0 (by decide) ?_|(refine zA ?_ ?_;omega)|refine zA (of_eq_true PutAt_put) ?_|refine gT ?_|refine gF ?_|(refine gI (fun h=>?_) (fun h=>?_)<;>(try contradiction)<;>(try refine rd ?_)<;>(try simp -dsimp (disch:=omega) only[go_sem,h,szA, y1]))|refine zX _ (zX _ (zA (zA rfl rfl) ?_)) |refine us (d2) ?_ |(refine ck (line2 1 .full _ _ hw (by omega) (by first | omega | (simp only [szA];omega))) ?_;rintro _ _ ⟨rfl,hw⟩) |fail
  clear d1 d2 z1 z2
  refine W_loop_st (fun x : Nat × Store × ByteArray => [(0, .ptr w 0 0), (3, .ip (eRtr y) 0), (31, .sl y.kN (encL ePfx y.nets)), (32, .int .i64 y.nets.length), (33, .int .i64 x.1)]) (fun x => x.2.1) (fun x => x.1 ≤ y.nets.length ∧ WS σ w x.2.2 x.2.1 ∧ x.2.2 ++ catB ((y.nets.map (fun p => lineB 1 [(⟨#[110, 101, 116, 119, 111, 114, 107]⟩ : ByteArray), pfxText p ++ (⟨#[59]⟩ : ByteArray)])).drop x.1) = (s ++ lineB 0 [(⟨#[114, 111, 117, 116, 101, 114]⟩ : ByteArray), y.name, (⟨#[123]⟩ : ByteArray)] ++ lineB 1 [(⟨#[97, 115]⟩ : ByteArray), digB y.asn ++ (⟨#[59]⟩ : ByteArray)] ++ lineB 1 [(⟨#[105, 100]⟩ : ByteArray), digB y.id ++ (⟨#[59]⟩ : ByteArray)]) ++ catB (y.nets.map (fun p => lineB 1 [(⟨#[110, 101, 116, 119, 111, 114, 107]⟩ : ByteArray), pfxText p ++ (⟨#[59]⟩ : ByteArray)]))) (fun x => y.nets.length - x.1) (0, _, (s ++ lineB 0 [(⟨#[114, 111, 117, 116, 101, 114]⟩ : ByteArray), y.name, (⟨#[123]⟩ : ByteArray)] ++ lineB 1 [(⟨#[97, 115]⟩ : ByteArray), digB y.asn ++ (⟨#[59]⟩ : ByteArray)] ++ lineB 1 [(⟨#[105, 100]⟩ : ByteArray), digB y.id ++ (⟨#[59]⟩ : ByteArray)])) ⟨Nat.zero_le _, hw, rfl⟩ (Env.Sub_of_has (by simp [Env.Has, Env.get, eRtr])) (Store.Sub.refl _) ?_
  rintro ⟨i, u, v⟩ ⟨hi, hwi, hvi⟩
  simp only at hi hwi hvi
  by_cases hlt : i < y.nets.length
  · have hmem : y.nets.getD i default ∈ y.nets := by rw [List.getD_eq_getElem?_getD, List.getElem?_eq_getElem hlt]; exact List.getElem_mem hlt
    have hcat := cat_drop (fun p => lineB 1 [(⟨#[110, 101, 116, 119, 111, 114, 107]⟩ : ByteArray), pfxText p ++ (⟨#[59]⟩ : ByteArray)]) hlt
    rw [hcat] at hvi
    have hsz := congrArg ByteArray.size hvi
    simp only [szA] at hsz
    obtain ⟨x, hx⟩ : ∃ x, y.nets.getD i default = x := ⟨_, rfl⟩
    rw [hx] at hmem hvi hsz
    have d3 := pfxText_spec x (hg.nets x hmem)
    have z3 := pfxText_size x (hg.nets x hmem)
    repeat' first |refine s1 ?_|refine gS ?_|refine wT rfl ?_|refine wF rfl ?_|refine wt rfl ?_|refine wf rfl ?_|(refine wC rfl (fun h=>?_) (fun h=>?_)<;>(try contradiction))|((first|refine rd ?_|refine ry [] c0 fun nu _ _=>?_);simp -dsimp (disch:=omega) only[go_sem,hx])|refine e0 (by decide) ?_|(refine zA ?_ ?_;omega)|refine zA (of_eq_true PutAt_put) ?_|refine gT ?_|refine gF ?_|(refine gI (fun h=>?_) (fun h=>?_)<;>(try contradiction)<;>(try refine rd ?_)<;>(try simp -dsimp (disch:=omega) only[go_sem,h,hx]))|refine zX _ (zX _ (zA (zA rfl rfl) ?_)) |fail
    intro o1 ho1
    repeat' first |refine s1 ?_|refine gS ?_|refine wT rfl ?_|refine wF rfl ?_|refine wt rfl ?_|refine wf rfl ?_|(refine wC rfl (fun h=>?_) (fun h=>?_)<;>(try contradiction))|((first|refine rd ?_|refine ry [] c0 fun nu _ _=>?_);simp -dsimp (disch:=omega) only[go_sem,hx, szA, y1])|refine e0 (by decide) ?_|(refine zA ?_ ?_;omega)|refine zA (of_eq_true PutAt_put) ?_|refine gT ?_|refine gF ?_|(refine gI (fun h=>?_) (fun h=>?_)<;>(try contradiction)<;>(try refine rd ?_)<;>(try simp -dsimp (disch:=omega) only[go_sem,h,hx, szA, y1]))|refine zX _ (zX _ (zA (zA rfl rfl) ?_)) |refine us (d3) ?_ |(refine ck (line2 1 .full _ _ (WS_put hwi ho1) (by omega) (by first | omega | (simp only [szA];omega))) ?_;rintro _ _ ⟨rfl,hw⟩) |fail
    exact ⟨(i + 1, _, _), by simp only;omega, ⟨by simp only;omega, hw, by simp only;rw [asA];exact hvi⟩, Env.Sub_of_has (by simp [Env.Has, Env.get, eRtr]), Store.Sub.refl _⟩
  · have hi' : i = y.nets.length := by omega
    subst hi'
    rw [List.drop_eq_nil_of_le (by simp), catB, emA] at hvi
    rw [hvi] at hwi
    clear hvi
    have hw := hwi
    clear hwi
    repeat' first |refine s1 ?_|refine gS ?_|refine wT rfl ?_|refine wF rfl ?_|refine wt rfl ?_|refine wf rfl ?_|(refine wC rfl (fun h=>?_) (fun h=>?_)<;>(try contradiction))|((first|refine rd ?_|refine ry [] c0 fun nu _ _=>?_);simp -dsimp (disch:=omega) only[go_sem])|refine e0 (by decide) ?_|(refine zA ?_ ?_;omega)|refine zA (of_eq_true PutAt_put) ?_|refine gT ?_|refine gF ?_|(refine gI (fun h=>?_) (fun h=>?_)<;>(try contradiction)<;>(try refine rd ?_)<;>(try simp -dsimp (disch:=omega) only[go_sem,h]))|refine zX _ (zX _ (zA (zA rfl rfl) ?_)) |fail
    refine W_loop_st (fun x : Nat × Store × ByteArray => [(0, .ptr w 0 0), (3, .ip (eRtr y) 0), (45, .sl y.kB (encL eNbr y.nbrs)), (46, .int .i64 y.nbrs.length), (47, .int .i64 x.1)]) (fun x => x.2.1) (fun x => x.1 ≤ y.nbrs.length ∧ WS σ w x.2.2 x.2.1 ∧ x.2.2 ++ catB ((y.nbrs.map (fun n => lineB 1 [(⟨#[110, 101, 105, 103, 104, 98, 111, 114]⟩ : ByteArray), nbrWord n ++ (⟨#[59]⟩ : ByteArray)])).drop x.1) = ((s ++ lineB 0 [(⟨#[114, 111, 117, 116, 101, 114]⟩ : ByteArray), y.name, (⟨#[123]⟩ : ByteArray)] ++ lineB 1 [(⟨#[97, 115]⟩ : ByteArray), digB y.asn ++ (⟨#[59]⟩ : ByteArray)] ++ lineB 1 [(⟨#[105, 100]⟩ : ByteArray), digB y.id ++ (⟨#[59]⟩ : ByteArray)]) ++ catB (y.nets.map (fun p => lineB 1 [(⟨#[110, 101, 116, 119, 111, 114, 107]⟩ : ByteArray), pfxText p ++ (⟨#[59]⟩ : ByteArray)]))) ++ catB (y.nbrs.map (fun n => lineB 1 [(⟨#[110, 101, 105, 103, 104, 98, 111, 114]⟩ : ByteArray), nbrWord n ++ (⟨#[59]⟩ : ByteArray)]))) (fun x => y.nbrs.length - x.1) (0, _, ((s ++ lineB 0 [(⟨#[114, 111, 117, 116, 101, 114]⟩ : ByteArray), y.name, (⟨#[123]⟩ : ByteArray)] ++ lineB 1 [(⟨#[97, 115]⟩ : ByteArray), digB y.asn ++ (⟨#[59]⟩ : ByteArray)] ++ lineB 1 [(⟨#[105, 100]⟩ : ByteArray), digB y.id ++ (⟨#[59]⟩ : ByteArray)]) ++ catB (y.nets.map (fun p => lineB 1 [(⟨#[110, 101, 116, 119, 111, 114, 107]⟩ : ByteArray), pfxText p ++ (⟨#[59]⟩ : ByteArray)])))) ⟨Nat.zero_le _, hw, rfl⟩ (Env.Sub_of_has (by simp [Env.Has, Env.get, eRtr])) (Store.Sub.refl _) ?_
    rintro ⟨i, u, v⟩ ⟨hi, hwi, hvi⟩
    simp only at hi hwi hvi
    by_cases hlt : i < y.nbrs.length
    · have hmem : y.nbrs.getD i default ∈ y.nbrs := by rw [List.getD_eq_getElem?_getD, List.getElem?_eq_getElem hlt]; exact List.getElem_mem hlt
      have hcat := cat_drop (fun n => lineB 1 [(⟨#[110, 101, 105, 103, 104, 98, 111, 114]⟩ : ByteArray), nbrWord n ++ (⟨#[59]⟩ : ByteArray)]) hlt
      rw [hcat] at hvi
      have hsz := congrArg ByteArray.size hvi
      simp only [szA] at hsz
      obtain ⟨x, hx⟩ : ∃ x, y.nbrs.getD i default = x := ⟨_, rfl⟩
      rw [hx] at hmem hvi hsz
      have hg3 := hg.nbrs x hmem
      have z3 : (nw1 x).size ≤ 2100 := by unfold nw1; split <;> first | omega | (simp only [szA, y2]; omega)
      have z4 : (nw2 x).size ≤ 4200 := by unfold nw2; split <;> first | omega | (simp only [szA, y3]; omega)
      have z5 : (nbrWord x).size ≤ 4300 := by unfold nbrWord; split <;> first | omega | (simp only [szA, y4]; omega)
      repeat' first |refine s1 ?_|refine gS ?_|refine wT rfl ?_|refine wF rfl ?_|refine wt rfl ?_|refine wf rfl ?_|(refine wC rfl (fun h=>?_) (fun h=>?_)<;>(try contradiction))|((first|refine rd ?_|refine ry [] c0 fun nu _ _=>?_);simp -dsimp (disch:=omega) only[go_sem,hx])|refine e0 (by decide) ?_|(refine zA ?_ ?_;omega)|refine zA (of_eq_true PutAt_put) ?_|refine gT ?_|refine gF ?_|(refine gI (fun h=>?_) (fun h=>?_)<;>(try contradiction)<;>(try refine rd ?_)<;>(try simp -dsimp (disch:=omega) only[go_sem,h,hx]))|refine zX _ (zX _ (zA (zA rfl rfl) ?_)) |fail
      intro o1 ho1
      repeat' first |((fail_if_success (first|show W _ _ (Code.seq (Code.region 13 _ _) _) _ _ _|show W _ _ (Code.seq (Code.seq (Code.region 13 _ _) _) _) _ _ _));refine s1 ?_)|refine gS ?_|refine wT rfl ?_|refine wF rfl ?_|refine wt rfl ?_|refine wf rfl ?_|(refine wC rfl (fun h=>?_) (fun h=>?_)<;>(try contradiction))|((fail_if_success (first|show W _ _ (Code.region 13 _ _) _ _ _));(first|refine rd ?_|refine ry [] c0 fun nu _ _=>?_);simp -dsimp (disch:=omega) only[go_sem,hx, eNbr])|refine e0 (by decide) ?_|(refine zA ?_ ?_;omega)|refine zA (of_eq_true PutAt_put) ?_|refine gT ?_|refine gF ?_|(refine gI (fun h=>?_) (fun h=>?_)<;>(try contradiction)<;>(try refine rd ?_)<;>(try simp -dsimp (disch:=omega) only[go_sem,h,hx, eNbr]))|refine zX _ (zX _ (zA (zA rfl rfl) ?_)) |fail
      refine W_mid [(0, .ptr w 0 0), (3, .ip (eRtr y) 0), (45, .sl y.kB (encL eNbr y.nbrs)), (46, .int .i64 y.nbrs.length), (47, .int .i64 i), (7, .ptr o1 0 0), (8, .str (nw1 x))] (u.put o1 (.arr 61 [eNbr x])) ?_ ?_
      · skip
        repeat' first |refine s1 ?_|refine gS ?_|refine wT rfl ?_|refine wF rfl ?_|refine wt rfl ?_|refine wf rfl ?_|(refine wC rfl (fun h=>?_) (fun h=>?_)<;>(try contradiction))|((first|refine rd ?_|refine ry [] c0 fun nu _ _=>?_);simp -dsimp (disch:=omega) only[go_sem,hx, szA, y2, y3, y4, eNbr])|refine e0 (by decide) ?_|(refine zA ?_ ?_;omega)|refine zA (of_eq_true PutAt_put) ?_|refine gT ?_|refine gF ?_|(refine gI (fun h=>?_) (fun h=>?_)<;>(try contradiction)<;>(try refine rd ?_)<;>(try simp -dsimp (disch:=omega) only[go_sem,h,hx, szA, y2, y3, y4, eNbr]))|refine zX _ (zX _ (zA (zA rfl rfl) ?_)) |fail
        all_goals exact ⟨Env.Sub_of_has (by simp [Env.Has, Env.get, eRtr, eNbr, nw1, nw2, nbrWord, *]), sub_eq (by simp [eNbr])⟩
      repeat' first |((fail_if_success (first|show W _ _ (Code.seq (Code.region 15 _ _) _) _ _ _|show W _ _ (Code.seq (Code.seq (Code.region 15 _ _) _) _) _ _ _));refine s1 ?_)|refine gS ?_|refine wT rfl ?_|refine wF rfl ?_|refine wt rfl ?_|refine wf rfl ?_|(refine wC rfl (fun h=>?_) (fun h=>?_)<;>(try contradiction))|((fail_if_success (first|show W _ _ (Code.region 15 _ _) _ _ _));(first|refine rd ?_|refine ry [] c0 fun nu _ _=>?_);simp -dsimp (disch:=omega) only[go_sem])|refine e0 (by decide) ?_|(refine zA ?_ ?_;omega)|refine zA (of_eq_true PutAt_put) ?_|refine gT ?_|refine gF ?_|(refine gI (fun h=>?_) (fun h=>?_)<;>(try contradiction)<;>(try refine rd ?_)<;>(try simp -dsimp (disch:=omega) only[go_sem,h]))|refine zX _ (zX _ (zA (zA rfl rfl) ?_)) |fail
      refine W_mid [(0, .ptr w 0 0), (3, .ip (eRtr y) 0), (45, .sl y.kB (encL eNbr y.nbrs)), (46, .int .i64 y.nbrs.length), (47, .int .i64 i), (7, .ptr o1 0 0), (8, .str (nw2 x))] (u.put o1 (.arr 61 [eNbr x])) ?_ ?_
      · skip
        repeat' first |refine s1 ?_|refine gS ?_|refine wT rfl ?_|refine wF rfl ?_|refine wt rfl ?_|refine wf rfl ?_|(refine wC rfl (fun h=>?_) (fun h=>?_)<;>(try contradiction))|((first|refine rd ?_|refine ry [] c0 fun nu _ _=>?_);simp -dsimp (disch:=omega) only[go_sem,hx, szA, y2, y3, y4, eNbr])|refine e0 (by decide) ?_|(refine zA ?_ ?_;omega)|refine zA (of_eq_true PutAt_put) ?_|refine gT ?_|refine gF ?_|(refine gI (fun h=>?_) (fun h=>?_)<;>(try contradiction)<;>(try refine rd ?_)<;>(try simp -dsimp (disch:=omega) only[go_sem,h,hx, szA, y2, y3, y4, eNbr]))|refine zX _ (zX _ (zA (zA rfl rfl) ?_)) |fail
        all_goals exact ⟨Env.Sub_of_has (by simp [Env.Has, Env.get, eRtr, eNbr, nw1, nw2, nbrWord, *]), sub_eq (by simp [eNbr])⟩
      repeat' first |((fail_if_success (first|show W _ _ (Code.seq (Code.region 17 _ _) _) _ _ _|show W _ _ (Code.seq (Code.seq (Code.region 17 _ _) _) _) _ _ _));refine s1 ?_)|refine gS ?_|refine wT rfl ?_|refine wF rfl ?_|refine wt rfl ?_|refine wf rfl ?_|(refine wC rfl (fun h=>?_) (fun h=>?_)<;>(try contradiction))|((fail_if_success (first|show W _ _ (Code.region 17 _ _) _ _ _));(first|refine rd ?_|refine ry [] c0 fun nu _ _=>?_);simp -dsimp (disch:=omega) only[go_sem])|refine e0 (by decide) ?_|(refine zA ?_ ?_;omega)|refine zA (of_eq_true PutAt_put) ?_|refine gT ?_|refine gF ?_|(refine gI (fun h=>?_) (fun h=>?_)<;>(try contradiction)<;>(try refine rd ?_)<;>(try simp -dsimp (disch:=omega) only[go_sem,h]))|refine zX _ (zX _ (zA (zA rfl rfl) ?_)) |fail
      refine W_mid [(0, .ptr w 0 0), (3, .ip (eRtr y) 0), (45, .sl y.kB (encL eNbr y.nbrs)), (46, .int .i64 y.nbrs.length), (47, .int .i64 i), (7, .ptr o1 0 0), (8, .str (nbrWord x))] (u.put o1 (.arr 61 [eNbr x])) ?_ ?_
      · skip
        repeat' first |refine s1 ?_|refine gS ?_|refine wT rfl ?_|refine wF rfl ?_|refine wt rfl ?_|refine wf rfl ?_|(refine wC rfl (fun h=>?_) (fun h=>?_)<;>(try contradiction))|((first|refine rd ?_|refine ry [] c0 fun nu _ _=>?_);simp -dsimp (disch:=omega) only[go_sem,hx, szA, y2, y3, y4, eNbr])|refine e0 (by decide) ?_|(refine zA ?_ ?_;omega)|refine zA (of_eq_true PutAt_put) ?_|refine gT ?_|refine gF ?_|(refine gI (fun h=>?_) (fun h=>?_)<;>(try contradiction)<;>(try refine rd ?_)<;>(try simp -dsimp (disch:=omega) only[go_sem,h,hx, szA, y2, y3, y4, eNbr]))|refine zX _ (zX _ (zA (zA rfl rfl) ?_)) |fail
        all_goals exact ⟨Env.Sub_of_has (by simp [Env.Has, Env.get, eRtr, eNbr, nw1, nw2, nbrWord, *]), sub_eq (by simp [eNbr])⟩
      repeat' first |refine s1 ?_|refine gS ?_|refine wT rfl ?_|refine wF rfl ?_|refine wt rfl ?_|refine wf rfl ?_|(refine wC rfl (fun h=>?_) (fun h=>?_)<;>(try contradiction))|((first|refine rd ?_|refine ry [] c0 fun nu _ _=>?_);simp -dsimp (disch:=omega) only[go_sem,hx, szA, y1, eNbr])|refine e0 (by decide) ?_|(refine zA ?_ ?_;omega)|refine zA (of_eq_true PutAt_put) ?_|refine gT ?_|refine gF ?_|(refine gI (fun h=>?_) (fun h=>?_)<;>(try contradiction)<;>(try refine rd ?_)<;>(try simp -dsimp (disch:=omega) only[go_sem,h,hx, szA, y1, eNbr]))|refine zX _ (zX _ (zA (zA rfl rfl) ?_)) |(refine ck (line2 1 .full _ _ (WS_put hwi ho1) (by omega) (by first | omega | (simp only [szA];omega))) ?_;rintro _ _ ⟨rfl,hw⟩) |fail
      exact ⟨(i + 1, _, _), by simp only;omega, ⟨by simp only;omega, hw, by simp only;rw [asA];exact hvi⟩, Env.Sub_of_has (by simp [Env.Has, Env.get, eRtr]), Store.Sub.refl _⟩
    · have hi' : i = y.nbrs.length := by omega
      subst hi'
      rw [List.drop_eq_nil_of_le (by simp), catB, emA] at hvi
      rw [hvi] at hwi
      clear hvi
      have hw := hwi
      clear hwi
      repeat' first |refine s1 ?_|refine gS ?_|refine wT rfl ?_|refine wF rfl ?_|refine wt rfl ?_|refine wf rfl ?_|(refine wC rfl (fun h=>?_) (fun h=>?_)<;>(try contradiction))|((first|refine rd ?_|refine ry [] c0 fun nu _ _=>?_);simp -dsimp (disch:=omega) only[go_sem])|refine e0 (by decide) ?_|(refine zA ?_ ?_;omega)|refine zA (of_eq_true PutAt_put) ?_|refine gT ?_|refine gF ?_|(refine gI (fun h=>?_) (fun h=>?_)<;>(try contradiction)<;>(try refine rd ?_)<;>(try simp -dsimp (disch:=omega) only[go_sem,h]))|refine zX _ (zX _ (zA (zA rfl rfl) ?_)) |fail
      refine W_loop_st (fun x : Nat × Store × ByteArray => [(0, .ptr w 0 0), (3, .ip (eRtr y) 0), (80, .sl y.kL (encL eLnk y.links)), (81, .int .i64 y.links.length), (82, .int .i64 x.1)]) (fun x => x.2.1) (fun x => x.1 ≤ y.links.length ∧ WS σ w x.2.2 x.2.1 ∧ x.2.2 ++ catB ((y.links.map (fun l => lineB 1 [(⟨#[108, 105, 110, 107]⟩ : ByteArray), l.name, (⟨#[99, 111, 115, 116]⟩ : ByteArray), digB l.cost ++ (⟨#[59]⟩ : ByteArray)])).drop x.1) = (((s ++ lineB 0 [(⟨#[114, 111, 117, 116, 101, 114]⟩ : ByteArray), y.name, (⟨#[123]⟩ : ByteArray)] ++ lineB 1 [(⟨#[97, 115]⟩ : ByteArray), digB y.asn ++ (⟨#[59]⟩ : ByteArray)] ++ lineB 1 [(⟨#[105, 100]⟩ : ByteArray), digB y.id ++ (⟨#[59]⟩ : ByteArray)]) ++ catB (y.nets.map (fun p => lineB 1 [(⟨#[110, 101, 116, 119, 111, 114, 107]⟩ : ByteArray), pfxText p ++ (⟨#[59]⟩ : ByteArray)]))) ++ catB (y.nbrs.map (fun n => lineB 1 [(⟨#[110, 101, 105, 103, 104, 98, 111, 114]⟩ : ByteArray), nbrWord n ++ (⟨#[59]⟩ : ByteArray)]))) ++ catB (y.links.map (fun l => lineB 1 [(⟨#[108, 105, 110, 107]⟩ : ByteArray), l.name, (⟨#[99, 111, 115, 116]⟩ : ByteArray), digB l.cost ++ (⟨#[59]⟩ : ByteArray)]))) (fun x => y.links.length - x.1) (0, _, (((s ++ lineB 0 [(⟨#[114, 111, 117, 116, 101, 114]⟩ : ByteArray), y.name, (⟨#[123]⟩ : ByteArray)] ++ lineB 1 [(⟨#[97, 115]⟩ : ByteArray), digB y.asn ++ (⟨#[59]⟩ : ByteArray)] ++ lineB 1 [(⟨#[105, 100]⟩ : ByteArray), digB y.id ++ (⟨#[59]⟩ : ByteArray)]) ++ catB (y.nets.map (fun p => lineB 1 [(⟨#[110, 101, 116, 119, 111, 114, 107]⟩ : ByteArray), pfxText p ++ (⟨#[59]⟩ : ByteArray)]))) ++ catB (y.nbrs.map (fun n => lineB 1 [(⟨#[110, 101, 105, 103, 104, 98, 111, 114]⟩ : ByteArray), nbrWord n ++ (⟨#[59]⟩ : ByteArray)])))) ⟨Nat.zero_le _, hw, rfl⟩ (Env.Sub_of_has (by simp [Env.Has, Env.get, eRtr])) (Store.Sub.refl _) ?_
      rintro ⟨i, u, v⟩ ⟨hi, hwi, hvi⟩
      simp only at hi hwi hvi
      by_cases hlt : i < y.links.length
      · have hmem : y.links.getD i default ∈ y.links := by rw [List.getD_eq_getElem?_getD, List.getElem?_eq_getElem hlt]; exact List.getElem_mem hlt
        have hcat := cat_drop (fun l => lineB 1 [(⟨#[108, 105, 110, 107]⟩ : ByteArray), l.name, (⟨#[99, 111, 115, 116]⟩ : ByteArray), digB l.cost ++ (⟨#[59]⟩ : ByteArray)]) hlt
        rw [hcat] at hvi
        have hsz := congrArg ByteArray.size hvi
        simp only [szA] at hsz
        obtain ⟨x, hx⟩ : ∃ x, y.links.getD i default = x := ⟨_, rfl⟩
        rw [hx] at hmem hvi hsz
        have hg3 := hg.links x hmem
        have d3 := digS_spec _ x.cost hg3.1 (Nat.lt_succ_self _) (by omega)
        have z3 := digB_size x.cost (by omega)
        repeat' first |refine s1 ?_|refine gS ?_|refine wT rfl ?_|refine wF rfl ?_|refine wt rfl ?_|refine wf rfl ?_|(refine wC rfl (fun h=>?_) (fun h=>?_)<;>(try contradiction))|((first|refine rd ?_|refine ry [] c0 fun nu _ _=>?_);simp -dsimp (disch:=omega) only[go_sem,hx])|refine e0 (by decide) ?_|(refine zA ?_ ?_;omega)|refine zA (of_eq_true PutAt_put) ?_|refine gT ?_|refine gF ?_|(refine gI (fun h=>?_) (fun h=>?_)<;>(try contradiction)<;>(try refine rd ?_)<;>(try simp -dsimp (disch:=omega) only[go_sem,h,hx]))|refine zX _ (zX _ (zA (zA rfl rfl) ?_)) |fail
        intro o1 ho1
        repeat' first |refine s1 ?_|refine gS ?_|refine wT rfl ?_|refine wF rfl ?_|refine wt rfl ?_|refine wf rfl ?_|(refine wC rfl (fun h=>?_) (fun h=>?_)<;>(try contradiction))|((first|refine rd ?_|refine ry (id:=24) [] (cw [2,4] [8] [] [] [8]) fun nu _ _=>?_|refine ry [] c0 fun nu _ _=>?_);simp -dsimp (disch:=omega) only[go_sem,hx, szA, y1])|refine e0 (by decide) ?_|(refine zA ?_ ?_;omega)|refine zA (of_eq_true PutAt_put) ?_|refine gT ?_|refine gF ?_|(refine gI (fun h=>?_) (fun h=>?_)<;>(try contradiction)<;>(try refine rd ?_)<;>(try simp -dsimp (disch:=omega) only[go_sem,h,hx, szA, y1]))|refine zX _ (zX _ (zA (zA rfl rfl) ?_)) |refine us (d3) ?_ |(refine ck (line4 1 .full _ _ _ _ (WS_put hwi ho1) (by omega) (by first | omega | (simp only [szA];omega))) ?_;rintro _ _ ⟨rfl,hw⟩) |fail
        exact ⟨(i + 1, _, _), by simp only;omega, ⟨by simp only;omega, hw, by simp only;rw [asA];exact hvi⟩, Env.Sub_of_has (by simp [Env.Has, Env.get, eRtr]), Store.Sub.refl _⟩
      · have hi' : i = y.links.length := by omega
        subst hi'
        rw [List.drop_eq_nil_of_le (by simp), catB, emA] at hvi
        rw [hvi] at hwi
        clear hvi
        have hw := hwi
        clear hwi
        repeat' first |refine s1 ?_|refine gS ?_|refine wT rfl ?_|refine wF rfl ?_|refine wt rfl ?_|refine wf rfl ?_|(refine wC rfl (fun h=>?_) (fun h=>?_)<;>(try contradiction))|((first|refine rd ?_|refine ry [] c0 fun nu _ _=>?_);simp -dsimp (disch:=omega) only[go_sem])|refine e0 (by decide) ?_|(refine zA ?_ ?_;omega)|refine zA (of_eq_true PutAt_put) ?_|refine gT ?_|refine gF ?_|(refine gI (fun h=>?_) (fun h=>?_)<;>(try contradiction)<;>(try refine rd ?_)<;>(try simp -dsimp (disch:=omega) only[go_sem,h]))|refine zX _ (zX _ (zA (zA rfl rfl) ?_)) |(refine ck (line1 0 .full _ hw (by omega) (by first | omega | (simp only [szA];omega))) ?_;rintro _ _ ⟨rfl,hw⟩) |fail
        refine ⟨_, Store.Sub.refl _, WS_end hw ?_⟩
        simp only [rtrText, asA]
structure Cfg.Good (c : Cfg) : Prop where
  fits : c.Fits
  lists : ∀ x, x ∈ c.lists → ∀ r, r ∈ x.l → r.p.Ok
  maps : ∀ x, x ∈ c.maps → ∀ r, r ∈ x.l → r.Good
  routers : ∀ x, x ∈ c.routers → x.Good
def printE (c : Cfg) : Int := if cfgMay c = true then (if 8192 < (cfgText c).size then 2 else 0) else 1
def printS (c : Cfg) : ByteArray := if printE c = 0 then cfgText c else ⟨#[]⟩
theorem len_spec {σ t : Store} {w : Nat} {s : ByteArray} (h : WS σ w s t) : PCall Tryz.prog 21 [.ptr w 0 0] t (fun r t' => r = .int .i64 s.size ∧ t' = t) := by
  obtain ⟨h1, h2, h3⟩ := h
  rcases h3 with ⟨rfl, h5 | h5⟩ | ⟨h8, o, h4, h5, h6, h7⟩
  · skip
    refine PCall_w [.tmp 2] 8 Tryz.func21 (by rfl) rfl rfl rfl rfl ?_
    repeat' first |refine s1 ?_|refine gS ?_|refine wT rfl ?_|refine wF rfl ?_|refine wt rfl ?_|refine wf rfl ?_|(refine wC rfl (fun h=>?_) (fun h=>?_)<;>(try contradiction))|((first|refine rd ?_|refine ry [] c0 fun nu _ _=>?_);simp -dsimp (disch:=omega) only[go_sem,h5])|refine e0 (by decide) ?_|(refine zA ?_ ?_;omega)|refine zA (of_eq_true PutAt_put) ?_|refine gT ?_|refine gF ?_|(refine gI (fun h=>?_) (fun h=>?_)<;>(try contradiction)<;>(try refine rd ?_)<;>(try simp -dsimp (disch:=omega) only[go_sem,h,h5]))|refine zX _ (zX _ (zA (zA rfl rfl) ?_)) |fail
    exact ⟨_, Store.Sub.refl _, rfl, rfl⟩
  · skip
    refine PCall_w [.tmp 2] 8 Tryz.func21 (by rfl) rfl rfl rfl rfl ?_
    repeat' first |refine s1 ?_|refine gS ?_|refine wT rfl ?_|refine wF rfl ?_|refine wt rfl ?_|refine wf rfl ?_|(refine wC rfl (fun h=>?_) (fun h=>?_)<;>(try contradiction))|((first|refine rd ?_|refine ry [] c0 fun nu _ _=>?_);simp -dsimp (disch:=omega) only[go_sem,h5])|refine e0 (by decide) ?_|(refine zA ?_ ?_;omega)|refine zA (of_eq_true PutAt_put) ?_|refine gT ?_|refine gF ?_|(refine gI (fun h=>?_) (fun h=>?_)<;>(try contradiction)<;>(try refine rd ?_)<;>(try simp -dsimp (disch:=omega) only[go_sem,h,h5]))|refine zX _ (zX _ (zA (zA rfl rfl) ?_)) |fail
    exact ⟨_, Store.Sub.refl _, rfl, rfl⟩
  · skip
    refine PCall_w [.tmp 2] 8 Tryz.func21 (by rfl) rfl rfl rfl rfl ?_
    repeat' first |refine s1 ?_|refine gS ?_|refine wT rfl ?_|refine wF rfl ?_|refine wt rfl ?_|refine wf rfl ?_|(refine wC rfl (fun h=>?_) (fun h=>?_)<;>(try contradiction))|((first|refine rd ?_|refine ry [] c0 fun nu _ _=>?_);simp -dsimp (disch:=omega) only[go_sem,h6])|refine e0 (by decide) ?_|(refine zA ?_ ?_;omega)|refine zA (of_eq_true PutAt_put) ?_|refine gT ?_|refine gF ?_|(refine gI (fun h=>?_) (fun h=>?_)<;>(try contradiction)<;>(try refine rd ?_)<;>(try simp -dsimp (disch:=omega) only[go_sem,h,h6]))|refine zX _ (zX _ (zA (zA rfl rfl) ?_)) |fail
theorem unB_B (s : ByteArray) : unB (encL eB (B s)) = some s := unB_bytesA s
theorem c00 : ((((0 : Nat) : Int)) = 0) = True := eq_true rfl
theorem string_spec {σ t : Store} {w : Nat} {s : ByteArray} (h : WS σ w s t) (hb : s.size ≤ 140737488355328) : PCall Tryz.prog 22 [.ptr w 0 0] t (fun r t' => r = .str s ∧ σ.Sub t') := by
  obtain ⟨h1, h2, h3⟩ := h
  rcases h3 with ⟨rfl, h5 | h5⟩ | ⟨h8, o, h4, h5, h6, h7⟩
  · skip
    refine PCall_w [.tmp 2] 14 Tryz.func22 (by rfl) rfl rfl rfl rfl ?_
    repeat' first |refine s1 ?_|refine gS ?_|refine wT rfl ?_|refine wF rfl ?_|refine wt rfl ?_|refine wf rfl ?_|(refine wC rfl (fun h=>?_) (fun h=>?_)<;>(try contradiction))|((first|refine rd ?_|refine ry (id:=1) [] (cq [3,8]) fun nu _ _=>?_|refine ry [] c0 fun nu _ _=>?_);simp -dsimp (disch:=omega) only[go_sem,h5, c00])|refine e0 (by decide) ?_|(refine zA ?_ ?_;omega)|refine zA (of_eq_true PutAt_put) ?_|refine gT ?_|refine gF ?_|(refine gI (fun h=>?_) (fun h=>?_)<;>(try contradiction)<;>(try refine rd ?_)<;>(try simp -dsimp (disch:=omega) only[go_sem,h,h5, c00]))|refine zX _ (zX _ (zA (zA rfl rfl) ?_)) |fail
    all_goals exact ⟨_, Store.Sub.refl _, rfl, h1⟩
  · skip
    refine PCall_w [.tmp 2] 14 Tryz.func22 (by rfl) rfl rfl rfl rfl ?_
    repeat' first |refine s1 ?_|refine gS ?_|refine wT rfl ?_|refine wF rfl ?_|refine wt rfl ?_|refine wf rfl ?_|(refine wC rfl (fun h=>?_) (fun h=>?_)<;>(try contradiction))|((first|refine rd ?_|refine ry (id:=1) [] (cq [3,8]) fun nu _ _=>?_|refine ry [] c0 fun nu _ _=>?_);simp -dsimp (disch:=omega) only[go_sem,h5, c00])|refine e0 (by decide) ?_|(refine zA ?_ ?_;omega)|refine zA (of_eq_true PutAt_put) ?_|refine gT ?_|refine gF ?_|(refine gI (fun h=>?_) (fun h=>?_)<;>(try contradiction)<;>(try refine rd ?_)<;>(try simp -dsimp (disch:=omega) only[go_sem,h,h5, c00]))|refine zX _ (zX _ (zA (zA rfl rfl) ?_)) |fail
    all_goals exact ⟨_, Store.Sub.refl _, rfl, h1⟩
  · have hlb := length_B s
    have htk : (encL eB (B s)).take s.size = encL eB (B s) := by rw [take_encL, ← hlb, List.take_length]
    have hub := unB_B s
    have hns : ((s.size : Nat) : Int).toNat = s.size := rfl
    refine PCall_w [.tmp 2] 14 Tryz.func22 (by rfl) rfl rfl rfl rfl ?_
    repeat' first |refine s1 ?_|refine gS ?_|refine wT rfl ?_|refine wF rfl ?_|refine wt rfl ?_|refine wf rfl ?_|(refine wC rfl (fun h=>?_) (fun h=>?_)<;>(try contradiction))|((first|refine rd ?_|refine ry (id:=1) [] (cw [3,8] [10] [] [] []) fun nu _ _=>?_|refine ry [] c0 fun nu _ _=>?_);simp -dsimp (disch:=omega) only[go_sem,h6, h7, hlb, htk, hub, hns])|refine e0 (by decide) ?_|(refine zA ?_ ?_;omega)|refine zA (of_eq_true PutAt_put) ?_|refine gT ?_|refine gF ?_|(refine gI (fun h=>?_) (fun h=>?_)<;>(try contradiction)<;>(try refine rd ?_)<;>(try simp -dsimp (disch:=omega) only[go_sem,h,h6, h7, hlb, htk, hub, hns]))|refine zX _ (zX _ (zA (zA rfl rfl) ?_)) |fail
    all_goals exact ⟨_, Store.Sub.refl _, Sub_drop h1 h5⟩
theorem print_spec (c : Cfg) (hf : c.Fits) (hg : cfgMay c = true → c.Good ∧ (cfgText c).size ≤ 140737488355328) : Pure Tryz.prog 8 [eCfg c] (.tup [.str (printS c), .int .i64 (printE c)]) := by
  intro σ
  have h1 := cfgMay_spec c hf
  have z0 : (⟨#[]⟩ : ByteArray).size = 0 := rfl
  have ln1 := hf.lists
  have ln2 := hf.maps
  have ln3 := hf.routers
  by_cases hm : cfgMay c = true
  · obtain ⟨hc, hz⟩ := hg hm
    have hz2 := hz
    simp only [cfgText, szA] at hz2
    rw [hm] at h1
    refine PCall_q [.tmp 2, .tmp 3] 58 Tryz.func8 (by rfl) rfl rfl rfl rfl ?_
    repeat' first |refine s1 ?_|refine gS ?_|refine wT rfl ?_|refine wF rfl ?_|refine wt rfl ?_|refine wf rfl ?_|(refine wC rfl (fun h=>?_) (fun h=>?_)<;>(try contradiction))|((first|refine s3 (mu:=[15]) ?_|refine rd ?_|refine ry [15] c0 fun nu _ _=>?_);simp -dsimp (disch:=omega) only[go_sem])|refine e0 (by decide) ?_|(refine zA ?_ ?_;omega)|refine zA (of_eq_true PutAt_put) ?_|refine gT ?_|refine gF ?_|(refine gI (fun h=>?_) (fun h=>?_)<;>(try contradiction)<;>(try refine rd ?_)<;>(try simp -dsimp (disch:=omega) only[go_sem,h]))|refine zX _ (zX _ (zA (zA rfl rfl) ?_)) |refine us (h1) ?_ |fail
    intro w hw0
    have hw : WS σ w ⟨#[]⟩ (σ.put w (bldO .nilp (.sl .nil []))) := ⟨Sub_put (Store.Sub.refl _) hw0 _, hw0, .inl ⟨rfl, .inl (put_same ..)⟩⟩
    repeat' first |refine s1 ?_|refine gS ?_|refine wT rfl ?_|refine wF rfl ?_|refine wt rfl ?_|refine wf rfl ?_|(refine wC rfl (fun h=>?_) (fun h=>?_)<;>(try contradiction))|((first|refine rd ?_|refine ry [] c0 fun nu _ _=>?_);simp -dsimp (disch:=omega) only[go_sem])|refine e0 (by decide) ?_|(refine zA ?_ ?_;omega)|refine zA (of_eq_true PutAt_put) ?_|refine gT ?_|refine gF ?_|(refine gI (fun h=>?_) (fun h=>?_)<;>(try contradiction)<;>(try refine rd ?_)<;>(try simp -dsimp (disch:=omega) only[go_sem,h]))|refine zX _ (zX _ (zA (zA rfl rfl) ?_)) |fail
    refine W_loop_st (fun x : Nat × Store × ByteArray => [(1, .ip (eCfg c) 0), (4, .ptr w 0 0), (17, .sl c.kL (encL eLst c.lists)), (18, .int .i64 c.lists.length), (19, .int .i64 x.1)]) (fun x => x.2.1) (fun x => x.1 ≤ c.lists.length ∧ WS σ w x.2.2 x.2.1 ∧ x.2.2 ++ catB ((c.lists.map lstText).drop x.1) = (⟨#[]⟩ : ByteArray) ++ catB (c.lists.map lstText)) (fun x => c.lists.length - x.1) (0, _, (⟨#[]⟩ : ByteArray)) ⟨Nat.zero_le _, hw, rfl⟩ (Env.Sub_of_has (by simp [Env.Has, Env.get, eCfg])) (Store.Sub.refl _) ?_
    rintro ⟨i, u, v⟩ ⟨hi, hwi, hvi⟩
    simp only at hi hwi hvi
    by_cases hlt : i < c.lists.length
    · have hmem : c.lists.getD i default ∈ c.lists := by rw [List.getD_eq_getElem?_getD, List.getElem?_eq_getElem hlt]; exact List.getElem_mem hlt
      have hcat := cat_drop lstText hlt
      rw [hcat] at hvi
      have hsz := congrArg ByteArray.size hvi
      simp only [szA] at hsz
      obtain ⟨x, hx⟩ : ∃ x, c.lists.getD i default = x := ⟨_, rfl⟩
      rw [hx] at hmem hvi hsz
      repeat' first |refine s1 ?_|refine gS ?_|refine wT rfl ?_|refine wF rfl ?_|refine wt rfl ?_|refine wf rfl ?_|(refine wC rfl (fun h=>?_) (fun h=>?_)<;>(try contradiction))|((first|refine rd ?_|refine ry [] c0 fun nu _ _=>?_);simp -dsimp (disch:=omega) only[go_sem,hx])|refine e0 (by decide) ?_|(refine zA ?_ ?_;omega)|refine zA (of_eq_true PutAt_put) ?_|refine gT ?_|refine gF ?_|(refine gI (fun h=>?_) (fun h=>?_)<;>(try contradiction)<;>(try refine rd ?_)<;>(try simp -dsimp (disch:=omega) only[go_sem,h,hx]))|refine zX _ (zX _ (zA (zA rfl rfl) ?_)) |fail
      intro o1 ho1
      repeat' first |refine s1 ?_|refine gS ?_|refine wT rfl ?_|refine wF rfl ?_|refine wt rfl ?_|refine wf rfl ?_|(refine wC rfl (fun h=>?_) (fun h=>?_)<;>(try contradiction))|((first|refine rd ?_|refine ry [] c0 fun nu _ _=>?_);simp -dsimp (disch:=omega) only[go_sem,hx])|refine e0 (by decide) ?_|(refine zA ?_ ?_;omega)|refine zA (of_eq_true PutAt_put) ?_|refine gT ?_|refine gF ?_|(refine gI (fun h=>?_) (fun h=>?_)<;>(try contradiction)<;>(try refine rd ?_)<;>(try simp -dsimp (disch:=omega) only[go_sem,h,hx]))|refine zX _ (zX _ (zA (zA rfl rfl) ?_)) |(refine ck (lst_spec (WS_put hwi ho1) x (hc.fits.lst x hmem).1 (hc.lists x hmem) (by first | omega | (simp only [szA];omega))) ?_;rintro _ _ ⟨rfl,hw⟩) |fail
      exact ⟨(i + 1, _, _), by simp only;omega, ⟨by simp only;omega, hw, by simp only;rw [asA];exact hvi⟩, Env.Sub_of_has (by simp [Env.Has, Env.get, eCfg]), Store.Sub.refl _⟩
    · have hi' : i = c.lists.length := by omega
      subst hi'
      rw [List.drop_eq_nil_of_le (by simp), catB, emA] at hvi
      rw [hvi] at hwi
      clear hvi
      have hw := hwi
      clear hwi
      repeat' first |refine s1 ?_|refine gS ?_|refine wT rfl ?_|refine wF rfl ?_|refine wt rfl ?_|refine wf rfl ?_|(refine wC rfl (fun h=>?_) (fun h=>?_)<;>(try contradiction))|((first|refine rd ?_|refine ry [] c0 fun nu _ _=>?_);simp -dsimp (disch:=omega) only[go_sem])|refine e0 (by decide) ?_|(refine zA ?_ ?_;omega)|refine zA (of_eq_true PutAt_put) ?_|refine gT ?_|refine gF ?_|(refine gI (fun h=>?_) (fun h=>?_)<;>(try contradiction)<;>(try refine rd ?_)<;>(try simp -dsimp (disch:=omega) only[go_sem,h]))|refine zX _ (zX _ (zA (zA rfl rfl) ?_)) |fail
      refine W_loop_st (fun x : Nat × Store × ByteArray => [(1, .ip (eCfg c) 0), (4, .ptr w 0 0), (28, .sl c.kM (encL eMap c.maps)), (29, .int .i64 c.maps.length), (30, .int .i64 x.1)]) (fun x => x.2.1) (fun x => x.1 ≤ c.maps.length ∧ WS σ w x.2.2 x.2.1 ∧ x.2.2 ++ catB ((c.maps.map mapText).drop x.1) = ((⟨#[]⟩ : ByteArray) ++ catB (c.lists.map lstText)) ++ catB (c.maps.map mapText)) (fun x => c.maps.length - x.1) (0, _, ((⟨#[]⟩ : ByteArray) ++ catB (c.lists.map lstText))) ⟨Nat.zero_le _, hw, rfl⟩ (Env.Sub_of_has (by simp [Env.Has, Env.get, eCfg])) (Store.Sub.refl _) ?_
      rintro ⟨i, u, v⟩ ⟨hi, hwi, hvi⟩
      simp only at hi hwi hvi
      by_cases hlt : i < c.maps.length
      · have hmem : c.maps.getD i default ∈ c.maps := by rw [List.getD_eq_getElem?_getD, List.getElem?_eq_getElem hlt]; exact List.getElem_mem hlt
        have hcat := cat_drop mapText hlt
        rw [hcat] at hvi
        have hsz := congrArg ByteArray.size hvi
        simp only [szA] at hsz
        obtain ⟨x, hx⟩ : ∃ x, c.maps.getD i default = x := ⟨_, rfl⟩
        rw [hx] at hmem hvi hsz
        repeat' first |refine s1 ?_|refine gS ?_|refine wT rfl ?_|refine wF rfl ?_|refine wt rfl ?_|refine wf rfl ?_|(refine wC rfl (fun h=>?_) (fun h=>?_)<;>(try contradiction))|((first|refine rd ?_|refine ry [] c0 fun nu _ _=>?_);simp -dsimp (disch:=omega) only[go_sem,hx])|refine e0 (by decide) ?_|(refine zA ?_ ?_;omega)|refine zA (of_eq_true PutAt_put) ?_|refine gT ?_|refine gF ?_|(refine gI (fun h=>?_) (fun h=>?_)<;>(try contradiction)<;>(try refine rd ?_)<;>(try simp -dsimp (disch:=omega) only[go_sem,h,hx]))|refine zX _ (zX _ (zA (zA rfl rfl) ?_)) |fail
        intro o1 ho1
        repeat' first |refine s1 ?_|refine gS ?_|refine wT rfl ?_|refine wF rfl ?_|refine wt rfl ?_|refine wf rfl ?_|(refine wC rfl (fun h=>?_) (fun h=>?_)<;>(try contradiction))|((first|refine rd ?_|refine ry [] c0 fun nu _ _=>?_);simp -dsimp (disch:=omega) only[go_sem,hx])|refine e0 (by decide) ?_|(refine zA ?_ ?_;omega)|refine zA (of_eq_true PutAt_put) ?_|refine gT ?_|refine gF ?_|(refine gI (fun h=>?_) (fun h=>?_)<;>(try contradiction)<;>(try refine rd ?_)<;>(try simp -dsimp (disch:=omega) only[go_sem,h,hx]))|refine zX _ (zX _ (zA (zA rfl rfl) ?_)) |(refine ck (map_spec (WS_put hwi ho1) x (hc.fits.map x hmem).len (hc.maps x hmem) (by first | omega | (simp only [szA];omega))) ?_;rintro _ _ ⟨rfl,hw⟩) |fail
        exact ⟨(i + 1, _, _), by simp only;omega, ⟨by simp only;omega, hw, by simp only;rw [asA];exact hvi⟩, Env.Sub_of_has (by simp [Env.Has, Env.get, eCfg]), Store.Sub.refl _⟩
      · have hi' : i = c.maps.length := by omega
        subst hi'
        rw [List.drop_eq_nil_of_le (by simp), catB, emA] at hvi
        rw [hvi] at hwi
        clear hvi
        have hw := hwi
        clear hwi
        repeat' first |refine s1 ?_|refine gS ?_|refine wT rfl ?_|refine wF rfl ?_|refine wt rfl ?_|refine wf rfl ?_|(refine wC rfl (fun h=>?_) (fun h=>?_)<;>(try contradiction))|((first|refine rd ?_|refine ry [] c0 fun nu _ _=>?_);simp -dsimp (disch:=omega) only[go_sem])|refine e0 (by decide) ?_|(refine zA ?_ ?_;omega)|refine zA (of_eq_true PutAt_put) ?_|refine gT ?_|refine gF ?_|(refine gI (fun h=>?_) (fun h=>?_)<;>(try contradiction)<;>(try refine rd ?_)<;>(try simp -dsimp (disch:=omega) only[go_sem,h]))|refine zX _ (zX _ (zA (zA rfl rfl) ?_)) |fail
        refine W_loop_st (fun x : Nat × Store × ByteArray => [(1, .ip (eCfg c) 0), (4, .ptr w 0 0), (39, .sl c.kR (encL eRtr c.routers)), (40, .int .i64 c.routers.length), (41, .int .i64 x.1)]) (fun x => x.2.1) (fun x => x.1 ≤ c.routers.length ∧ WS σ w x.2.2 x.2.1 ∧ x.2.2 ++ catB ((c.routers.map rtrText).drop x.1) = (((⟨#[]⟩ : ByteArray) ++ catB (c.lists.map lstText)) ++ catB (c.maps.map mapText)) ++ catB (c.routers.map rtrText)) (fun x => c.routers.length - x.1) (0, _, (((⟨#[]⟩ : ByteArray) ++ catB (c.lists.map lstText)) ++ catB (c.maps.map mapText))) ⟨Nat.zero_le _, hw, rfl⟩ (Env.Sub_of_has (by simp [Env.Has, Env.get, eCfg])) (Store.Sub.refl _) ?_
        rintro ⟨i, u, v⟩ ⟨hi, hwi, hvi⟩
        simp only at hi hwi hvi
        by_cases hlt : i < c.routers.length
        · have hmem : c.routers.getD i default ∈ c.routers := by rw [List.getD_eq_getElem?_getD, List.getElem?_eq_getElem hlt]; exact List.getElem_mem hlt
          have hcat := cat_drop rtrText hlt
          rw [hcat] at hvi
          have hsz := congrArg ByteArray.size hvi
          simp only [szA] at hsz
          obtain ⟨x, hx⟩ : ∃ x, c.routers.getD i default = x := ⟨_, rfl⟩
          rw [hx] at hmem hvi hsz
          repeat' first |refine s1 ?_|refine gS ?_|refine wT rfl ?_|refine wF rfl ?_|refine wt rfl ?_|refine wf rfl ?_|(refine wC rfl (fun h=>?_) (fun h=>?_)<;>(try contradiction))|((first|refine rd ?_|refine ry [] c0 fun nu _ _=>?_);simp -dsimp (disch:=omega) only[go_sem,hx])|refine e0 (by decide) ?_|(refine zA ?_ ?_;omega)|refine zA (of_eq_true PutAt_put) ?_|refine gT ?_|refine gF ?_|(refine gI (fun h=>?_) (fun h=>?_)<;>(try contradiction)<;>(try refine rd ?_)<;>(try simp -dsimp (disch:=omega) only[go_sem,h,hx]))|refine zX _ (zX _ (zA (zA rfl rfl) ?_)) |fail
          intro o1 ho1
          repeat' first |refine s1 ?_|refine gS ?_|refine wT rfl ?_|refine wF rfl ?_|refine wt rfl ?_|refine wf rfl ?_|(refine wC rfl (fun h=>?_) (fun h=>?_)<;>(try contradiction))|((first|refine rd ?_|refine ry [] c0 fun nu _ _=>?_);simp -dsimp (disch:=omega) only[go_sem,hx])|refine e0 (by decide) ?_|(refine zA ?_ ?_;omega)|refine zA (of_eq_true PutAt_put) ?_|refine gT ?_|refine gF ?_|(refine gI (fun h=>?_) (fun h=>?_)<;>(try contradiction)<;>(try refine rd ?_)<;>(try simp -dsimp (disch:=omega) only[go_sem,h,hx]))|refine zX _ (zX _ (zA (zA rfl rfl) ?_)) |(refine ck (rtr_spec (WS_put hwi ho1) x (hc.routers x hmem) (by first | omega | (simp only [szA];omega))) ?_;rintro _ _ ⟨rfl,hw⟩) |fail
          exact ⟨(i + 1, _, _), by simp only;omega, ⟨by simp only;omega, hw, by simp only;rw [asA];exact hvi⟩, Env.Sub_of_has (by simp [Env.Has, Env.get, eCfg]), Store.Sub.refl _⟩
        · have hi' : i = c.routers.length := by omega
          subst hi'
          rw [List.drop_eq_nil_of_le (by simp), catB, emA] at hvi
          rw [hvi] at hwi
          clear hvi
          have hw := hwi
          clear hwi
          have e : (((⟨#[]⟩ : ByteArray) ++ catB (c.lists.map lstText)) ++ catB (c.maps.map mapText)) ++ catB (c.routers.map rtrText) = cfgText c := by simp only [cfgText, eA, asA]
          rw [e] at hw
          repeat' first |refine s1 ?_|refine gS ?_|refine wT rfl ?_|refine wF rfl ?_|refine wt rfl ?_|refine wf rfl ?_|(refine wC rfl (fun h=>?_) (fun h=>?_)<;>(try contradiction))|((first|refine rd ?_|refine ry [] c0 fun nu _ _=>?_);simp -dsimp (disch:=omega) only[go_sem])|refine e0 (by decide) ?_|(refine zA ?_ ?_;omega)|refine zA (of_eq_true PutAt_put) ?_|refine gT ?_|refine gF ?_|(refine gI (fun h=>?_) (fun h=>?_)<;>(try contradiction)<;>(try refine rd ?_)<;>(try simp -dsimp (disch:=omega) only[go_sem,h]))|refine zX _ (zX _ (zA (zA rfl rfl) ?_)) |refine uw (len_spec hw) ?_ |fail
          · have hE : printE c = 2 := by rw [printE, if_pos hm, if_pos (by omega)]
            have hS : printS c = ⟨#[]⟩ := by rw [printS, hE]; rfl
            rw [hE, hS]
            exact ⟨rfl, hw.1⟩
          · have hE : printE c = 0 := by rw [printE, if_pos hm, if_neg (by omega)]
            have hS : printS c = cfgText c := by rw [printS, hE]; rfl
            rw [hE, hS]
            refine ck (string_spec hw hz) ?_
            rintro _ t2 ⟨rfl, hs⟩
            repeat' first |refine s1 ?_|refine gS ?_|refine wT rfl ?_|refine wF rfl ?_|refine wt rfl ?_|refine wf rfl ?_|(refine wC rfl (fun h=>?_) (fun h=>?_)<;>(try contradiction))|((first|refine rd ?_|refine ry [] c0 fun nu _ _=>?_);simp -dsimp (disch:=omega) only[go_sem])|refine e0 (by decide) ?_|(refine zA ?_ ?_;omega)|refine zA (of_eq_true PutAt_put) ?_|refine gT ?_|refine gF ?_|(refine gI (fun h=>?_) (fun h=>?_)<;>(try contradiction)<;>(try refine rd ?_)<;>(try simp -dsimp (disch:=omega) only[go_sem,h]))|refine zX _ (zX _ (zA (zA rfl rfl) ?_)) |fail
            exact hs
  · have hm' : cfgMay c = false := by simpa using hm
    have hE : printE c = 1 := by rw [printE, if_neg hm]
    have hS : printS c = ⟨#[]⟩ := by rw [printS, hE]; rfl
    rw [hm'] at h1
    rw [hE, hS]
    refine PCall_q [.tmp 2, .tmp 3] 58 Tryz.func8 (by rfl) rfl rfl rfl rfl ?_
    repeat' first |refine s1 ?_|refine gS ?_|refine wT rfl ?_|refine wF rfl ?_|refine wt rfl ?_|refine wf rfl ?_|(refine wC rfl (fun h=>?_) (fun h=>?_)<;>(try contradiction))|((first|refine s3 (mu:=[15]) ?_|refine rd ?_|refine ry [15] c0 fun nu _ _=>?_);simp -dsimp (disch:=omega) only[go_sem])|refine e0 (by decide) ?_|(refine zA ?_ ?_;omega)|refine zA (of_eq_true PutAt_put) ?_|refine gT ?_|refine gF ?_|(refine gI (fun h=>?_) (fun h=>?_)<;>(try contradiction)<;>(try refine rd ?_)<;>(try simp -dsimp (disch:=omega) only[go_sem,h]))|refine zX _ (zX _ (zA (zA rfl rfl) ?_)) |refine us (h1) ?_ |fail
end Go.Proofs.YtaealcimocpnnaaGreat

namespace Go.Proofs.YtaealcimocpnnaaGreat
open Go.Kern Go.RowKit
def Cls.S (c : Cls) : Prop := c.m.list.size ≤ 100 ∧ c.m.path.size ≤ 100 ∧ c.s.add.length ≤ 20 ∧ c.s.del.length ≤ 20 ∧ c.s.pre.length ≤ 30
def LstD.S (x : LstD) : Prop := x.name.size ≤ 100 ∧ x.l.length ≤ 20
def MapD.S0 (x : MapD) : Prop := x.name.size ≤ 100 ∧ x.l.length ≤ 20
def MapD.S (x : MapD) : Prop := x.S0 ∧ ∀ c, c ∈ x.l → c.S
def Rtr.S (x : Rtr) : Prop := x.name.size ≤ 100 ∧ x.nets.length ≤ 20 ∧ x.nbrs.length ≤ 20 ∧ x.links.length ≤ 20
structure Cfg.S (c : Cfg) : Prop where
  len : c.lists.length ≤ 20 ∧ c.maps.length ≤ 20 ∧ c.routers.length ≤ 12
  lists : ∀ x, x ∈ c.lists → x.S
  maps : ∀ x, x ∈ c.maps → x.S
  routers : ∀ x, x ∈ c.routers → x.S
theorem take_all {α : Type} [Inhabited α] {P : α → Prop} {l : List α} {i : Nat} (h : i < l.length) (h1 : ∀ x, x ∈ l.take i → P x) (h2 : P (l.getD i default)) : ∀ x, x ∈ l.take (i + 1) → P x := by
  intro x hx
  rw [List.take_succ_eq_append_getElem h] at hx
  rcases List.mem_append.1 hx with hx | hx
  · exact h1 x hx
  · have : x = l.getD i default := by simpa [List.getD_eq_getElem?_getD, h] using hx
    rw [this]; exact h2
set_option maxRecDepth 100000
set_option maxHeartbeats 4000000
attribute [local irreducible] PCall W
theorem small_spec (c : Cfg) (σ : Store) : PCall Tryz.prog 6 [eCfg c] σ (fun r t => (r = .bool false ∨ (r = .bool true ∧ c.S)) ∧ t = σ) := by
  refine PCall_w [.tmp 2] 210 Tryz.func6 (by rfl) rfl rfl rfl rfl ?_
  by_cases g0 : c.lists.length ≤ 20 ∧ c.maps.length ≤ 20 ∧ c.routers.length ≤ 12
  · obtain ⟨l1, l2, l3⟩ := g0
    repeat' first |refine s1 ?_|refine gS ?_|refine wT rfl ?_|refine wF rfl ?_|refine wt rfl ?_|refine wf rfl ?_|(refine wC rfl (fun h=>?_) (fun h=>?_)<;>(try contradiction))|((first|refine rd ?_|refine ry [] c0 fun nu _ _=>?_);simp -dsimp (disch:=omega) only[go_sem])|refine e0 (by decide) ?_|(refine zA ?_ ?_;omega)|refine zA (of_eq_true PutAt_put) ?_|refine gT ?_|refine gF ?_|(refine gI (fun h=>?_) (fun h=>?_)<;>(try contradiction)<;>(try refine rd ?_)<;>(try simp -dsimp (disch:=omega) only[go_sem,h]))|refine zX _ (zX _ (zA (zA rfl rfl) ?_)) |fail
    refine W_loop_st (fun i : Nat => [(1, .ip (eCfg c) 0), (3, .int .i64 i)]) (fun _ => σ) (fun i => i ≤ c.lists.length ∧ ∀ x, x ∈ c.lists.take i → LstD.S x) (fun i => c.lists.length - i) 0 ⟨Nat.zero_le _, fun x hx => by simp at hx⟩ (Env.Sub_of_has (by simp [Env.Has, Env.get, eCfg])) (Store.Sub.refl _) ?_
    rintro i ⟨hi, hor⟩
    by_cases hlt : i < c.lists.length
    · obtain ⟨x, hx⟩ : ∃ x, c.lists.getD i default = x := ⟨_, rfl⟩
      by_cases hs : x.S
      · obtain ⟨p1, p2⟩ := hs
        repeat' first |refine s1 ?_|refine gS ?_|refine wT rfl ?_|refine wF rfl ?_|refine wt rfl ?_|refine wf rfl ?_|(refine wC rfl (fun h=>?_) (fun h=>?_)<;>(try contradiction))|((first|refine rd ?_|refine ry [] c0 fun nu _ _=>?_);simp -dsimp (disch:=omega) only[go_sem,hx])|refine e0 (by decide) ?_|(refine zA ?_ ?_;omega)|refine zA (of_eq_true PutAt_put) ?_|refine gT ?_|refine gF ?_|(refine gI (fun h=>?_) (fun h=>?_)<;>(try contradiction)<;>(try refine rd ?_)<;>(try simp -dsimp (disch:=omega) only[go_sem,h,hx]))|refine zX _ (zX _ (zA (zA rfl rfl) ?_)) |fail
        exact ⟨i + 1, by omega, ⟨by omega, take_all hlt hor (hx ▸ ⟨p1, p2⟩)⟩, Env.Sub_of_has (by simp [Env.Has, Env.get, eCfg]), Store.Sub.refl _⟩
      · unfold LstD.S at hs
        repeat' first |((fail_if_success (first|show W _ _ (Code.seq (Code.region 5 _ _) _) _ _ _|show W _ _ (Code.seq (Code.seq (Code.region 5 _ _) _) _) _ _ _));refine s1 ?_)|refine gS ?_|refine wT rfl ?_|refine wF rfl ?_|refine wt rfl ?_|refine wf rfl ?_|(refine wC rfl (fun h=>?_) (fun h=>?_)<;>(try contradiction))|((fail_if_success (first|show W _ _ (Code.region 5 _ _) _ _ _));(first|refine rd ?_|refine ry [] c0 fun nu _ _=>?_);simp -dsimp (disch:=omega) only[go_sem,hx])|refine e0 (by decide) ?_|(refine zA ?_ ?_;omega)|refine zA (of_eq_true PutAt_put) ?_|refine gT ?_|refine gF ?_|(refine gI (fun h=>?_) (fun h=>?_)<;>(try contradiction)<;>(try refine rd ?_)<;>(try simp -dsimp (disch:=omega) only[go_sem,h,hx]))|refine zX _ (zX _ (zA (zA rfl rfl) ?_)) |fail
        all_goals first | exact ⟨_, Store.Sub.refl _, rfl⟩ | exact ⟨_, Store.Sub.refl _, .inl rfl, rfl⟩ | exact Store.Sub.refl _
    · have hi' : i = c.lists.length := by omega
      subst hi'
      rw [List.take_length] at hor
      have hL := hor
      clear hor
      repeat' first |refine s1 ?_|refine gS ?_|refine wT rfl ?_|refine wF rfl ?_|refine wt rfl ?_|refine wf rfl ?_|(refine wC rfl (fun h=>?_) (fun h=>?_)<;>(try contradiction))|((first|refine rd ?_|refine ry [] c0 fun nu _ _=>?_);simp -dsimp (disch:=omega) only[go_sem])|refine e0 (by decide) ?_|(refine zA ?_ ?_;omega)|refine zA (of_eq_true PutAt_put) ?_|refine gT ?_|refine gF ?_|(refine gI (fun h=>?_) (fun h=>?_)<;>(try contradiction)<;>(try refine rd ?_)<;>(try simp -dsimp (disch:=omega) only[go_sem,h]))|refine zX _ (zX _ (zA (zA rfl rfl) ?_)) |fail
      refine W_loop_st (fun i : Nat => [(1, .ip (eCfg c) 0), (4, .int .i64 i)]) (fun _ => σ) (fun i => i ≤ c.maps.length ∧ ∀ x, x ∈ c.maps.take i → MapD.S x) (fun i => c.maps.length - i) 0 ⟨Nat.zero_le _, fun x hx => by simp at hx⟩ (Env.Sub_of_has (by simp [Env.Has, Env.get, eCfg])) (Store.Sub.refl _) ?_
      rintro i ⟨hi, hor⟩
      by_cases hlt : i < c.maps.length
      · obtain ⟨x, hx⟩ : ∃ x, c.maps.getD i default = x := ⟨_, rfl⟩
        by_cases hs : x.S0
        · have hs' := hs
          obtain ⟨p1, p2⟩ := hs
          repeat' first |refine s1 ?_|refine gS ?_|refine wT rfl ?_|refine wF rfl ?_|refine wt rfl ?_|refine wf rfl ?_|(refine wC rfl (fun h=>?_) (fun h=>?_)<;>(try contradiction))|((first|refine rd ?_|refine ry [] c0 fun nu _ _=>?_);simp -dsimp (disch:=omega) only[go_sem,hx])|refine e0 (by decide) ?_|(refine zA ?_ ?_;omega)|refine zA (of_eq_true PutAt_put) ?_|refine gT ?_|refine gF ?_|(refine gI (fun h=>?_) (fun h=>?_)<;>(try contradiction)<;>(try refine rd ?_)<;>(try simp -dsimp (disch:=omega) only[go_sem,h,hx]))|refine zX _ (zX _ (zA (zA rfl rfl) ?_)) |fail
          refine W_loop_st (fun j : Nat => [(1, .ip (eCfg c) 0), (4, .int .i64 i), (5, .int .i64 j)]) (fun _ => σ) (fun j => j ≤ x.l.length ∧ ∀ y, y ∈ x.l.take j → Cls.S y) (fun j => x.l.length - j) 0 ⟨Nat.zero_le _, fun x hx => by simp at hx⟩ (Env.Sub_of_has (by simp [Env.Has, Env.get, eCfg])) (Store.Sub.refl _) ?_
          rintro j ⟨hj, hoj⟩
          by_cases hlj : j < x.l.length
          · obtain ⟨y, hy⟩ : ∃ y, x.l.getD j default = y := ⟨_, rfl⟩
            by_cases hs : y.S
            · obtain ⟨u1, u2, u3, u4, u5⟩ := hs
              repeat' first |((fail_if_success (first|show W _ _ (Code.seq (Code.region 17 _ _) _) _ _ _|show W _ _ (Code.seq (Code.seq (Code.region 17 _ _) _) _) _ _ _));refine s1 ?_)|refine gS ?_|refine wT rfl ?_|refine wF rfl ?_|refine wt rfl ?_|refine wf rfl ?_|(refine wC rfl (fun h=>?_) (fun h=>?_)<;>(try contradiction))|((fail_if_success (first|show W _ _ (Code.region 17 _ _) _ _ _));(first|refine rd ?_|refine ry [] c0 fun nu _ _=>?_);simp -dsimp (disch:=omega) only[go_sem,hx, hy])|refine e0 (by decide) ?_|(refine zA ?_ ?_;omega)|refine zA (of_eq_true PutAt_put) ?_|refine gT ?_|refine gF ?_|(refine gI (fun h=>?_) (fun h=>?_)<;>(try contradiction)<;>(try refine rd ?_)<;>(try simp -dsimp (disch:=omega) only[go_sem,h,hx, hy]))|refine zX _ (zX _ (zA (zA rfl rfl) ?_)) |fail
              intro o1 ho1
              repeat' first |refine s1 ?_|refine gS ?_|refine wT rfl ?_|refine wF rfl ?_|refine wt rfl ?_|refine wf rfl ?_|(refine wC rfl (fun h=>?_) (fun h=>?_)<;>(try contradiction))|((first|refine rd ?_|refine ry [] c0 fun nu _ _=>?_);simp -dsimp (disch:=omega) only[go_sem,hx, hy])|refine e0 (by decide) ?_|(refine zA ?_ ?_;omega)|refine zA (of_eq_true PutAt_put) ?_|refine gT ?_|refine gF ?_|(refine gI (fun h=>?_) (fun h=>?_)<;>(try contradiction)<;>(try refine rd ?_)<;>(try simp -dsimp (disch:=omega) only[go_sem,h,hx, hy]))|refine zX _ (zX _ (zA (zA rfl rfl) ?_)) |fail
              exact ⟨j + 1, by omega, ⟨by omega, take_all hlj hoj (hy ▸ ⟨u1, u2, u3, u4, u5⟩)⟩, Env.Sub_of_has (by simp [Env.Has, Env.get, eCfg]), Sub_put (Store.Sub.refl _) ho1 _⟩
            · unfold Cls.S at hs
              repeat' first |((fail_if_success (first|show W _ _ (Code.seq (Code.region 17 _ _) _) _ _ _|show W _ _ (Code.seq (Code.seq (Code.region 17 _ _) _) _) _ _ _));refine s1 ?_)|refine gS ?_|refine wT rfl ?_|refine wF rfl ?_|refine wt rfl ?_|refine wf rfl ?_|(refine wC rfl (fun h=>?_) (fun h=>?_)<;>(try contradiction))|((fail_if_success (first|show W _ _ (Code.region 17 _ _) _ _ _));(first|refine rd ?_|refine ry [] c0 fun nu _ _=>?_);simp -dsimp (disch:=omega) only[go_sem,hx, hy])|refine e0 (by decide) ?_|(refine zA ?_ ?_;omega)|refine zA (of_eq_true PutAt_put) ?_|refine gT ?_|refine gF ?_|(refine gI (fun h=>?_) (fun h=>?_)<;>(try contradiction)<;>(try refine rd ?_)<;>(try simp -dsimp (disch:=omega) only[go_sem,h,hx, hy]))|refine zX _ (zX _ (zA (zA rfl rfl) ?_)) |fail
              intro o1 ho1
              repeat' first |((fail_if_success (first|show W _ _ (Code.seq (Code.region 15 _ _) _) _ _ _|show W _ _ (Code.seq (Code.seq (Code.region 15 _ _) _) _) _ _ _));refine s1 ?_)|refine gS ?_|refine wT rfl ?_|refine wF rfl ?_|refine wt rfl ?_|refine wf rfl ?_|(refine wC rfl (fun h=>?_) (fun h=>?_)<;>(try contradiction))|((fail_if_success (first|show W _ _ (Code.region 15 _ _) _ _ _));(first|refine rd ?_|refine ry [] c0 fun nu _ _=>?_);simp -dsimp (disch:=omega) only[go_sem,hx, hy])|refine e0 (by decide) ?_|(refine zA ?_ ?_;omega)|refine zA (of_eq_true PutAt_put) ?_|refine gT ?_|refine gF ?_|(refine gI (fun h=>?_) (fun h=>?_)<;>(try contradiction)<;>(try refine rd ?_)<;>(try simp -dsimp (disch:=omega) only[go_sem,h,hx, hy]))|refine zX _ (zX _ (zA (zA rfl rfl) ?_)) |fail
              all_goals first | exact Sub_put (Store.Sub.refl _) ho1 _ | exact ⟨_, Sub_put (Store.Sub.refl _) ho1 _, rfl⟩ | exact ⟨_, Sub_put (Store.Sub.refl _) ho1 _, .inl rfl, rfl⟩
          · have hj' : j = x.l.length := by omega
            subst hj'
            rw [List.take_length] at hoj
            repeat' first |refine s1 ?_|refine gS ?_|refine wT rfl ?_|refine wF rfl ?_|refine wt rfl ?_|refine wf rfl ?_|(refine wC rfl (fun h=>?_) (fun h=>?_)<;>(try contradiction))|((first|refine rd ?_|refine ry [] c0 fun nu _ _=>?_);simp -dsimp (disch:=omega) only[go_sem,hx])|refine e0 (by decide) ?_|(refine zA ?_ ?_;omega)|refine zA (of_eq_true PutAt_put) ?_|refine gT ?_|refine gF ?_|(refine gI (fun h=>?_) (fun h=>?_)<;>(try contradiction)<;>(try refine rd ?_)<;>(try simp -dsimp (disch:=omega) only[go_sem,h,hx]))|refine zX _ (zX _ (zA (zA rfl rfl) ?_)) |fail
            exact ⟨i + 1, by omega, ⟨by omega, take_all hlt hor (hx ▸ ⟨hs', hoj⟩)⟩, Env.Sub_of_has (by simp [Env.Has, Env.get, eCfg]), Store.Sub.refl _⟩
        · unfold MapD.S0 at hs
          repeat' first |((fail_if_success (first|show W _ _ (Code.seq (Code.region 13 _ _) _) _ _ _|show W _ _ (Code.seq (Code.seq (Code.region 13 _ _) _) _) _ _ _));refine s1 ?_)|refine gS ?_|refine wT rfl ?_|refine wF rfl ?_|refine wt rfl ?_|refine wf rfl ?_|(refine wC rfl (fun h=>?_) (fun h=>?_)<;>(try contradiction))|((fail_if_success (first|show W _ _ (Code.region 13 _ _) _ _ _));(first|refine rd ?_|refine ry [] c0 fun nu _ _=>?_);simp -dsimp (disch:=omega) only[go_sem,hx])|refine e0 (by decide) ?_|(refine zA ?_ ?_;omega)|refine zA (of_eq_true PutAt_put) ?_|refine gT ?_|refine gF ?_|(refine gI (fun h=>?_) (fun h=>?_)<;>(try contradiction)<;>(try refine rd ?_)<;>(try simp -dsimp (disch:=omega) only[go_sem,h,hx]))|refine zX _ (zX _ (zA (zA rfl rfl) ?_)) |fail
          all_goals first | exact ⟨_, Store.Sub.refl _, rfl⟩ | exact ⟨_, Store.Sub.refl _, .inl rfl, rfl⟩ | exact Store.Sub.refl _
      · have hi' : i = c.maps.length := by omega
        subst hi'
        rw [List.take_length] at hor
        have hM := hor
        clear hor
        repeat' first |refine s1 ?_|refine gS ?_|refine wT rfl ?_|refine wF rfl ?_|refine wt rfl ?_|refine wf rfl ?_|(refine wC rfl (fun h=>?_) (fun h=>?_)<;>(try contradiction))|((first|refine rd ?_|refine ry [] c0 fun nu _ _=>?_);simp -dsimp (disch:=omega) only[go_sem])|refine e0 (by decide) ?_|(refine zA ?_ ?_;omega)|refine zA (of_eq_true PutAt_put) ?_|refine gT ?_|refine gF ?_|(refine gI (fun h=>?_) (fun h=>?_)<;>(try contradiction)<;>(try refine rd ?_)<;>(try simp -dsimp (disch:=omega) only[go_sem,h]))|refine zX _ (zX _ (zA (zA rfl rfl) ?_)) |fail
        refine W_loop_st (fun i : Nat => [(1, .ip (eCfg c) 0), (7, .int .i64 i)]) (fun _ => σ) (fun i => i ≤ c.routers.length ∧ ∀ x, x ∈ c.routers.take i → Rtr.S x) (fun i => c.routers.length - i) 0 ⟨Nat.zero_le _, fun x hx => by simp at hx⟩ (Env.Sub_of_has (by simp [Env.Has, Env.get, eCfg])) (Store.Sub.refl _) ?_
        rintro i ⟨hi, hor⟩
        by_cases hlt : i < c.routers.length
        · obtain ⟨x, hx⟩ : ∃ x, c.routers.getD i default = x := ⟨_, rfl⟩
          repeat' first |((fail_if_success (first|show W _ _ (Code.seq (Code.region 23 _ _) _) _ _ _|show W _ _ (Code.seq (Code.seq (Code.region 23 _ _) _) _) _ _ _));refine s1 ?_)|refine gS ?_|refine wT rfl ?_|refine wF rfl ?_|refine wt rfl ?_|refine wf rfl ?_|(refine wC rfl (fun h=>?_) (fun h=>?_)<;>(try contradiction))|((fail_if_success (first|show W _ _ (Code.region 23 _ _) _ _ _));(first|refine rd ?_|refine ry [] c0 fun nu _ _=>?_);simp -dsimp (disch:=omega) only[go_sem,hx])|refine e0 (by decide) ?_|(refine zA ?_ ?_;omega)|refine zA (of_eq_true PutAt_put) ?_|refine gT ?_|refine gF ?_|(refine gI (fun h=>?_) (fun h=>?_)<;>(try contradiction)<;>(try refine rd ?_)<;>(try simp -dsimp (disch:=omega) only[go_sem,h,hx]))|refine zX _ (zX _ (zA (zA rfl rfl) ?_)) |fail
          intro o1 ho1
          repeat' first |((fail_if_success (first|show W _ _ (Code.seq (Code.region 23 _ _) _) _ _ _|show W _ _ (Code.seq (Code.seq (Code.region 23 _ _) _) _) _ _ _));refine s1 ?_)|refine gS ?_|refine wT rfl ?_|refine wF rfl ?_|refine wt rfl ?_|refine wf rfl ?_|(refine wC rfl (fun h=>?_) (fun h=>?_)<;>(try contradiction))|((fail_if_success (first|show W _ _ (Code.region 23 _ _) _ _ _));(first|refine rd ?_|refine ry [] c0 fun nu _ _=>?_);simp -dsimp (disch:=omega) only[go_sem,hx])|refine e0 (by decide) ?_|(refine zA ?_ ?_;omega)|refine zA (of_eq_true PutAt_put) ?_|refine gT ?_|refine gF ?_|(refine gI (fun h=>?_) (fun h=>?_)<;>(try contradiction)<;>(try refine rd ?_)<;>(try simp -dsimp (disch:=omega) only[go_sem,h,hx]))|refine zX _ (zX _ (zA (zA rfl rfl) ?_)) |fail
          by_cases hs : x.S
          · obtain ⟨p1, p2, p3, p4⟩ := hs
            repeat' first |((fail_if_success (first|show W _ _ (Code.seq (Code.region 26 _ _) _) _ _ _|show W _ _ (Code.seq (Code.seq (Code.region 26 _ _) _) _) _ _ _));refine s1 ?_)|refine gS ?_|refine wT rfl ?_|refine wF rfl ?_|refine wt rfl ?_|refine wf rfl ?_|(refine wC rfl (fun h=>?_) (fun h=>?_)<;>(try contradiction))|((fail_if_success (first|show W _ _ (Code.region 26 _ _) _ _ _));(first|refine rd ?_|refine ry [] c0 fun nu _ _=>?_);simp -dsimp (disch:=omega) only[go_sem,hx])|refine e0 (by decide) ?_|(refine zA ?_ ?_;omega)|refine zA (of_eq_true PutAt_put) ?_|refine gT ?_|refine gF ?_|(refine gI (fun h=>?_) (fun h=>?_)<;>(try contradiction)<;>(try refine rd ?_)<;>(try simp -dsimp (disch:=omega) only[go_sem,h,hx]))|refine zX _ (zX _ (zA (zA rfl rfl) ?_)) |fail
            refine W_loop_st (fun j : Nat => [(1, .ip (eCfg c) 0), (7, .int .i64 i), (8, .ptr o1 0 0), (9, .int .i64 j)]) (fun _ => σ.put o1 (.arr 59 [eRtr x])) (fun j => j ≤ x.nbrs.length) (fun j => x.nbrs.length - j) 0 (Nat.zero_le _) (Env.Sub_of_has (by simp [Env.Has, Env.get, eCfg])) (sub_eq (by simp [eRtr])) ?_
            rintro j hj
            by_cases hlj : j < x.nbrs.length
            · skip
              repeat' first |refine s1 ?_|refine gS ?_|refine wT rfl ?_|refine wF rfl ?_|refine wt rfl ?_|refine wf rfl ?_|(refine wC rfl (fun h=>?_) (fun h=>?_)<;>(try contradiction))|((first|refine rd ?_|refine ry (id:=28) [] (cq [1,5,8,12,16,20]) fun nu _ _=>?_|refine ry [] c0 fun nu _ _=>?_);simp -dsimp (disch:=omega) only[go_sem,eRtr])|refine e0 (by decide) ?_|(refine zA ?_ ?_;omega)|refine zA (of_eq_true PutAt_put) ?_|refine gT ?_|refine gF ?_|(refine gI (fun h=>?_) (fun h=>?_)<;>(try contradiction)<;>(try refine rd ?_)<;>(try simp -dsimp (disch:=omega) only[go_sem,h,eRtr]))|refine zX _ (zX _ (zA (zA rfl rfl) ?_)) |fail
              · first | exact Sub_put (Store.Sub.refl _) ho1 _ | exact ⟨_, Sub_put (Store.Sub.refl _) ho1 _, rfl⟩ | exact ⟨_, Sub_put (Store.Sub.refl _) ho1 _, .inl rfl, rfl⟩
              · exact ⟨j + 1, by omega, (by omega), Env.Sub_of_has (by simp [Env.Has, Env.get, eCfg]), Store.Sub.refl _⟩
            · have hj' : j = x.nbrs.length := by omega
              subst hj'
              repeat' first |refine s1 ?_|refine gS ?_|refine wT rfl ?_|refine wF rfl ?_|refine wt rfl ?_|refine wf rfl ?_|(refine wC rfl (fun h=>?_) (fun h=>?_)<;>(try contradiction))|((first|refine rd ?_|refine ry [] c0 fun nu _ _=>?_);simp -dsimp (disch:=omega) only[go_sem,eRtr])|refine e0 (by decide) ?_|(refine zA ?_ ?_;omega)|refine zA (of_eq_true PutAt_put) ?_|refine gT ?_|refine gF ?_|(refine gI (fun h=>?_) (fun h=>?_)<;>(try contradiction)<;>(try refine rd ?_)<;>(try simp -dsimp (disch:=omega) only[go_sem,h,eRtr]))|refine zX _ (zX _ (zA (zA rfl rfl) ?_)) |fail
              refine W_loop_st (fun j : Nat => [(1, .ip (eCfg c) 0), (7, .int .i64 i), (8, .ptr o1 0 0), (10, .int .i64 j)]) (fun _ => σ.put o1 (.arr 59 [eRtr x])) (fun j => j ≤ x.links.length) (fun j => x.links.length - j) 0 (Nat.zero_le _) (Env.Sub_of_has (by simp [Env.Has, Env.get, eCfg])) (sub_eq (by simp [eRtr])) ?_
              rintro j hj
              by_cases hlj : j < x.links.length
              · skip
                repeat' first |refine s1 ?_|refine gS ?_|refine wT rfl ?_|refine wF rfl ?_|refine wt rfl ?_|refine wf rfl ?_|(refine wC rfl (fun h=>?_) (fun h=>?_)<;>(try contradiction))|((first|refine rd ?_|refine ry (id:=28) [] (cq [1,5,8,12,16,20]) fun nu _ _=>?_|refine ry [] c0 fun nu _ _=>?_);simp -dsimp (disch:=omega) only[go_sem,eRtr])|refine e0 (by decide) ?_|(refine zA ?_ ?_;omega)|refine zA (of_eq_true PutAt_put) ?_|refine gT ?_|refine gF ?_|(refine gI (fun h=>?_) (fun h=>?_)<;>(try contradiction)<;>(try refine rd ?_)<;>(try simp -dsimp (disch:=omega) only[go_sem,h,eRtr]))|refine zX _ (zX _ (zA (zA rfl rfl) ?_)) |fail
                · first | exact Sub_put (Store.Sub.refl _) ho1 _ | exact ⟨_, Sub_put (Store.Sub.refl _) ho1 _, rfl⟩ | exact ⟨_, Sub_put (Store.Sub.refl _) ho1 _, .inl rfl, rfl⟩
                · exact ⟨j + 1, by omega, (by omega), Env.Sub_of_has (by simp [Env.Has, Env.get, eCfg]), Store.Sub.refl _⟩
              · have hj' : j = x.links.length := by omega
                subst hj'
                repeat' first |refine s1 ?_|refine gS ?_|refine wT rfl ?_|refine wF rfl ?_|refine wt rfl ?_|refine wf rfl ?_|(refine wC rfl (fun h=>?_) (fun h=>?_)<;>(try contradiction))|((first|refine rd ?_|refine ry [] c0 fun nu _ _=>?_);simp -dsimp (disch:=omega) only[go_sem,eRtr])|refine e0 (by decide) ?_|(refine zA ?_ ?_;omega)|refine zA (of_eq_true PutAt_put) ?_|refine gT ?_|refine gF ?_|(refine gI (fun h=>?_) (fun h=>?_)<;>(try contradiction)<;>(try refine rd ?_)<;>(try simp -dsimp (disch:=omega) only[go_sem,h,eRtr]))|refine zX _ (zX _ (zA (zA rfl rfl) ?_)) |fail
                exact ⟨i + 1, by omega, ⟨by omega, take_all hlt hor (hx ▸ ⟨p1, p2, p3, p4⟩)⟩, Env.Sub_of_has (by simp [Env.Has, Env.get, eCfg]), Sub_put (Store.Sub.refl _) ho1 _⟩
          · unfold Rtr.S at hs
            repeat' first |((fail_if_success (first|show W _ _ (Code.seq (Code.region 25 _ _) _) _ _ _|show W _ _ (Code.seq (Code.seq (Code.region 25 _ _) _) _) _ _ _));refine s1 ?_)|refine gS ?_|refine wT rfl ?_|refine wF rfl ?_|refine wt rfl ?_|refine wf rfl ?_|(refine wC rfl (fun h=>?_) (fun h=>?_)<;>(try contradiction))|((fail_if_success (first|show W _ _ (Code.region 25 _ _) _ _ _));(first|refine rd ?_|refine ry [] c0 fun nu _ _=>?_);simp -dsimp (disch:=omega) only[go_sem,hx])|refine e0 (by decide) ?_|(refine zA ?_ ?_;omega)|refine zA (of_eq_true PutAt_put) ?_|refine gT ?_|refine gF ?_|(refine gI (fun h=>?_) (fun h=>?_)<;>(try contradiction)<;>(try refine rd ?_)<;>(try simp -dsimp (disch:=omega) only[go_sem,h,hx]))|refine zX _ (zX _ (zA (zA rfl rfl) ?_)) |fail
            all_goals first | exact Sub_put (Store.Sub.refl _) ho1 _ | exact ⟨_, Sub_put (Store.Sub.refl _) ho1 _, rfl⟩ | exact ⟨_, Sub_put (Store.Sub.refl _) ho1 _, .inl rfl, rfl⟩
        · have hi' : i = c.routers.length := by omega
          subst hi'
          rw [List.take_length] at hor
          repeat' first |refine s1 ?_|refine gS ?_|refine wT rfl ?_|refine wF rfl ?_|refine wt rfl ?_|refine wf rfl ?_|(refine wC rfl (fun h=>?_) (fun h=>?_)<;>(try contradiction))|((first|refine rd ?_|refine ry [] c0 fun nu _ _=>?_);simp -dsimp (disch:=omega) only[go_sem])|refine e0 (by decide) ?_|(refine zA ?_ ?_;omega)|refine zA (of_eq_true PutAt_put) ?_|refine gT ?_|refine gF ?_|(refine gI (fun h=>?_) (fun h=>?_)<;>(try contradiction)<;>(try refine rd ?_)<;>(try simp -dsimp (disch:=omega) only[go_sem,h]))|refine zX _ (zX _ (zA (zA rfl rfl) ?_)) |fail
          first | exact ⟨⟨l1, l2, l3⟩, hL, hM, hor⟩ | exact ⟨_, Store.Sub.refl _, ⟨⟨l1, l2, l3⟩, hL, hM, hor⟩, rfl⟩ | exact ⟨_, Store.Sub.refl _, .inr ⟨⟨l1, l2, l3⟩, hL, hM, hor⟩, rfl⟩ | exact .inr ⟨⟨l1, l2, l3⟩, hL, hM, hor⟩ | exact ⟨_, Store.Sub.refl _, .inr ⟨rfl, ⟨l1, l2, l3⟩, hL, hM, hor⟩, rfl⟩
  · skip
    repeat' first |((fail_if_success (first|show W _ _ (Code.seq (Code.region 3 _ _) _) _ _ _|show W _ _ (Code.seq (Code.seq (Code.region 3 _ _) _) _) _ _ _));refine s1 ?_)|refine gS ?_|refine wT rfl ?_|refine wF rfl ?_|refine wt rfl ?_|refine wf rfl ?_|(refine wC rfl (fun h=>?_) (fun h=>?_)<;>(try contradiction))|((fail_if_success (first|show W _ _ (Code.region 3 _ _) _ _ _));(first|refine rd ?_|refine ry [] c0 fun nu _ _=>?_);simp -dsimp (disch:=omega) only[go_sem])|refine e0 (by decide) ?_|(refine zA ?_ ?_;omega)|refine zA (of_eq_true PutAt_put) ?_|refine gT ?_|refine gF ?_|(refine gI (fun h=>?_) (fun h=>?_)<;>(try contradiction)<;>(try refine rd ?_)<;>(try simp -dsimp (disch:=omega) only[go_sem,h]))|refine zX _ (zX _ (zA (zA rfl rfl) ?_)) |fail
    all_goals first | exact ⟨_, Store.Sub.refl _, rfl⟩ | exact ⟨_, Store.Sub.refl _, .inl rfl, rfl⟩
end Go.Proofs.YtaealcimocpnnaaGreat

namespace Go.Proofs.YtaealcimocpnnaaGreat
open Go.Kern Go.RowKit
set_option maxRecDepth 100000
set_option maxHeartbeats 4000000
attribute [local irreducible] PCall W
def oneL (c : Cfg) (i : Nat) : Cfg := ⟨c.kL.cut, (c.lists.take (i + 1)).drop i, .nil, [], .nil, []⟩
def oneM (c : Cfg) (i : Nat) : Cfg := ⟨.nil, [], c.kM.cut, (c.maps.take (i + 1)).drop i, .nil, []⟩
def oneR (c : Cfg) (i : Nat) : Cfg := ⟨.nil, [], .nil, [], c.kR.cut, (c.routers.take (i + 1)).drop i⟩
theorem cutE {α : Type} (E : α → AV) (l : List α) (i : Nat) : ((encL E l).take (i + 1)).drop i = encL E ((l.take (i + 1)).drop i) := by rw [take_encL, drop_encL]
theorem toN1 (i : Nat) : (((i : Nat) : Int) + 1).toNat = i + 1 := by omega
theorem oneL_spec (c : Cfg) (i : Nat) (hi : i < c.lists.length) (hl : c.lists.length < 4611686018427387904) : Pure Tryz.prog 13 [eCfg c, .int .i64 0, .int .i64 i] (eCfg (oneL c i)) := by
  intro σ
  have hrow : rowsOk 2 (encL eLst c.lists) = true := ok_encL _ eLst (fun _ => rfl) _
  refine PCall_q [.cell 6 26] 33 Tryz.func13 (by rfl) rfl rfl rfl rfl ?_
  repeat' first |refine s1 ?_|refine gS ?_|refine wT rfl ?_|refine wF rfl ?_|refine wt rfl ?_|refine wf rfl ?_|(refine wC rfl (fun h=>?_) (fun h=>?_)<;>(try contradiction))|((first|refine rd ?_|refine ry [] c0 fun nu _ _=>?_);simp -dsimp (disch:=omega) only[go_sem])|refine e0 (by decide) ?_|(refine zA ?_ ?_;omega)|refine zA (of_eq_true PutAt_put) ?_|refine gT ?_|refine gF ?_|(refine gI (fun h=>?_) (fun h=>?_)<;>(try contradiction)<;>(try refine rd ?_)<;>(try simp -dsimp (disch:=omega) only[go_sem,h]))|refine zX _ (zX _ (zA (zA rfl rfl) ?_)) |fail
  intro o ho
  repeat' first |refine s1 ?_|refine gS ?_|refine wT rfl ?_|refine wF rfl ?_|refine wt rfl ?_|refine wf rfl ?_|(refine wC rfl (fun h=>?_) (fun h=>?_)<;>(try contradiction))|((first|refine rd ?_|refine ry [] c0 fun nu _ _=>?_);simp -dsimp (disch:=omega) only[go_sem,hrow, toN1, cutE, take_encL, drop_encL])|refine e0 (by decide) ?_|(refine zA ?_ ?_;omega)|refine zA (of_eq_true PutAt_put) ?_|refine gT ?_|refine gF ?_|(refine gI (fun h=>?_) (fun h=>?_)<;>(try contradiction)<;>(try refine rd ?_)<;>(try simp -dsimp (disch:=omega) only[go_sem,h,hrow, toN1, cutE, take_encL, drop_encL]))|refine zX _ (zX _ (zA (zA rfl rfl) ?_)) |fail
  all_goals first | exact Sub_put (Store.Sub.refl _) ho _ | exact ⟨rfl, Sub_put (Store.Sub.refl _) ho _⟩
theorem oneM_spec (c : Cfg) (i : Nat) (hi : i < c.maps.length) (hl : c.maps.length < 4611686018427387904) : Pure Tryz.prog 13 [eCfg c, .int .i64 1, .int .i64 i] (eCfg (oneM c i)) := by
  intro σ
  have hrow : rowsOk 2 (encL eMap c.maps) = true := ok_encL _ eMap (fun _ => rfl) _
  refine PCall_q [.cell 6 26] 33 Tryz.func13 (by rfl) rfl rfl rfl rfl ?_
  repeat' first |refine s1 ?_|refine gS ?_|refine wT rfl ?_|refine wF rfl ?_|refine wt rfl ?_|refine wf rfl ?_|(refine wC rfl (fun h=>?_) (fun h=>?_)<;>(try contradiction))|((first|refine rd ?_|refine ry [] c0 fun nu _ _=>?_);simp -dsimp (disch:=omega) only[go_sem])|refine e0 (by decide) ?_|(refine zA ?_ ?_;omega)|refine zA (of_eq_true PutAt_put) ?_|refine gT ?_|refine gF ?_|(refine gI (fun h=>?_) (fun h=>?_)<;>(try contradiction)<;>(try refine rd ?_)<;>(try simp -dsimp (disch:=omega) only[go_sem,h]))|refine zX _ (zX _ (zA (zA rfl rfl) ?_)) |fail
  intro o ho
  repeat' first |refine s1 ?_|refine gS ?_|refine wT rfl ?_|refine wF rfl ?_|refine wt rfl ?_|refine wf rfl ?_|(refine wC rfl (fun h=>?_) (fun h=>?_)<;>(try contradiction))|((first|refine rd ?_|refine ry [] c0 fun nu _ _=>?_);simp -dsimp (disch:=omega) only[go_sem,hrow, toN1, cutE, take_encL, drop_encL])|refine e0 (by decide) ?_|(refine zA ?_ ?_;omega)|refine zA (of_eq_true PutAt_put) ?_|refine gT ?_|refine gF ?_|(refine gI (fun h=>?_) (fun h=>?_)<;>(try contradiction)<;>(try refine rd ?_)<;>(try simp -dsimp (disch:=omega) only[go_sem,h,hrow, toN1, cutE, take_encL, drop_encL]))|refine zX _ (zX _ (zA (zA rfl rfl) ?_)) |fail
  all_goals first | exact Sub_put (Store.Sub.refl _) ho _ | exact ⟨rfl, Sub_put (Store.Sub.refl _) ho _⟩
theorem oneR_spec (c : Cfg) (i : Nat) (hi : i < c.routers.length) (hl : c.routers.length < 4611686018427387904) : Pure Tryz.prog 13 [eCfg c, .int .i64 2, .int .i64 i] (eCfg (oneR c i)) := by
  intro σ
  have hrow : rowsOk 6 (encL eRtr c.routers) = true := ok_encL _ eRtr (fun _ => rfl) _
  refine PCall_q [.cell 6 26] 33 Tryz.func13 (by rfl) rfl rfl rfl rfl ?_
  repeat' first |refine s1 ?_|refine gS ?_|refine wT rfl ?_|refine wF rfl ?_|refine wt rfl ?_|refine wf rfl ?_|(refine wC rfl (fun h=>?_) (fun h=>?_)<;>(try contradiction))|((first|refine rd ?_|refine ry [] c0 fun nu _ _=>?_);simp -dsimp (disch:=omega) only[go_sem])|refine e0 (by decide) ?_|(refine zA ?_ ?_;omega)|refine zA (of_eq_true PutAt_put) ?_|refine gT ?_|refine gF ?_|(refine gI (fun h=>?_) (fun h=>?_)<;>(try contradiction)<;>(try refine rd ?_)<;>(try simp -dsimp (disch:=omega) only[go_sem,h]))|refine zX _ (zX _ (zA (zA rfl rfl) ?_)) |fail
  intro o ho
  repeat' first |refine s1 ?_|refine gS ?_|refine wT rfl ?_|refine wF rfl ?_|refine wt rfl ?_|refine wf rfl ?_|(refine wC rfl (fun h=>?_) (fun h=>?_)<;>(try contradiction))|((first|refine rd ?_|refine ry [] c0 fun nu _ _=>?_);simp -dsimp (disch:=omega) only[go_sem,hrow, toN1, cutE, take_encL, drop_encL])|refine e0 (by decide) ?_|(refine zA ?_ ?_;omega)|refine zA (of_eq_true PutAt_put) ?_|refine gT ?_|refine gF ?_|(refine gI (fun h=>?_) (fun h=>?_)<;>(try contradiction)<;>(try refine rd ?_)<;>(try simp -dsimp (disch:=omega) only[go_sem,h,hrow, toN1, cutE, take_encL, drop_encL]))|refine zX _ (zX _ (zA (zA rfl rfl) ?_)) |fail
  all_goals first | exact Sub_put (Store.Sub.refl _) ho _ | exact ⟨rfl, Sub_put (Store.Sub.refl _) ho _⟩
def cfg0 : Cfg := ⟨.nil, [], .nil, [], .full, [⟨(⟨#[114, 49]⟩ : ByteArray), 65001, 1, .nil, [], .nil, [], .nil, []⟩]⟩
theorem dig1 : digB 1 = (⟨#[49]⟩ : ByteArray) := by rw [digB_small 1 (by decide)]; rfl
theorem dig65001 : digB 65001 = (⟨#[54, 53, 48, 48, 49]⟩ : ByteArray) := by
  rw [digB_step 65001 (by decide) (by decide), show (65001 : Int) / 10 = 6500 from rfl, digB_step 6500 (by decide) (by decide), show (6500 : Int) / 10 = 650 from rfl, digB_step 650 (by decide) (by decide), show (650 : Int) / 10 = 65 from rfl, digB_step 65 (by decide) (by decide), show (65 : Int) / 10 = 6 from rfl, digB_small 6 (by decide)]
  rfl
theorem text0 : cfgText cfg0 = (⟨#[114, 111, 117, 116, 101, 114, 32, 114, 49, 32, 123, 10, 32, 97, 115, 32, 54, 53, 48, 48, 49, 59, 10, 32, 105, 100, 32, 49, 59, 10, 125, 10]⟩ : ByteArray) := by
  simp only [cfgText, cfg0, List.map_cons, List.map_nil, catB, rtrText, dig1, dig65001]
  rfl
theorem may0 : cfgMay cfg0 = true := by decide
theorem fits0 : cfg0.Fits := by
  refine ⟨by decide, by decide, by decide, fun x hx => by simp [cfg0] at hx, fun x hx => by simp [cfg0] at hx, fun x hx => ?_⟩
  have : x = ⟨(⟨#[114, 49]⟩ : ByteArray), 65001, 1, .nil, [], .nil, [], .nil, []⟩ := by simpa [cfg0] using hx
  subst this
  exact ⟨by decide, by decide, by decide, by decide, fun x hx => by simp at hx, fun x hx => by simp at hx⟩
theorem good0 : cfg0.Good := by
  refine ⟨fits0, fun x hx => by simp [cfg0] at hx, fun x hx => by simp [cfg0] at hx, fun x hx => ?_⟩
  have h := fits0.rtr x hx
  have : x = ⟨(⟨#[114, 49]⟩ : ByteArray), 65001, 1, .nil, [], .nil, [], .nil, []⟩ := by simpa [cfg0] using hx
  subst this
  exact ⟨by decide, by decide, h, fun x hx => by simp at hx, fun x hx => by simp at hx, fun x hx => by simp at hx⟩
theorem print0 : Pure Tryz.prog 8 [eCfg cfg0] (.tup [.str (⟨#[114, 111, 117, 116, 101, 114, 32, 114, 49, 32, 123, 10, 32, 97, 115, 32, 54, 53, 48, 48, 49, 59, 10, 32, 105, 100, 32, 49, 59, 10, 125, 10]⟩ : ByteArray), .int .i64 0]) := by
  have h := print_spec cfg0 fits0 (fun _ => ⟨good0, by rw [text0]; decide⟩)
  have hE : printE cfg0 = 0 := by rw [printE, if_pos may0, text0, if_neg (by decide)]
  have hS : printS cfg0 = (⟨#[114, 111, 117, 116, 101, 114, 32, 114, 49, 32, 123, 10, 32, 97, 115, 32, 54, 53, 48, 48, 49, 59, 10, 32, 105, 100, 32, 49, 59, 10, 125, 10]⟩ : ByteArray) := by rw [printS, hE, text0]; rfl
  rw [hE, hS] at h
  exact h
theorem lives_spec : Pure Tryz.prog 7 [] (.bool true) := by
  intro σ
  have h := print0
  refine PCall_q [.tmp 0] 16 Tryz.func7 (by rfl) rfl rfl rfl rfl ?_
  repeat' first |refine s1 ?_|refine gS ?_|refine wT rfl ?_|refine wF rfl ?_|refine wt rfl ?_|refine wf rfl ?_|(refine wC rfl (fun h=>?_) (fun h=>?_)<;>(try contradiction))|((first|refine rd ?_|refine ry [] c0 fun nu _ _=>?_);simp -dsimp (disch:=omega) only[go_sem])|refine e0 (by decide) ?_|(refine zA ?_ ?_;omega)|refine zA (of_eq_true PutAt_put) ?_|refine gT ?_|refine gF ?_|(refine gI (fun h=>?_) (fun h=>?_)<;>(try contradiction)<;>(try refine rd ?_)<;>(try simp -dsimp (disch:=omega) only[go_sem,h]))|refine zX _ (zX _ (zA (zA rfl rfl) ?_)) |refine us (h) ?_ |fail
end Go.Proofs.YtaealcimocpnnaaGreat

namespace Go.Proofs.YtaealcimocpnnaaGreat
open Go.Kern Go.RowKit
structure Cfg.Wf (c : Cfg) : Prop where
  rules : ∀ x, x ∈ c.lists → ∀ r, r ∈ x.l → r.p.Ok
  nets : ∀ x, x ∈ c.routers → ∀ p, p ∈ x.nets → p.Ok
  nbrs : ∀ x, x ∈ c.routers → ∀ n, n ∈ x.nbrs → n.name.size ≤ 9223372036854775807 ∧ n.imp.size ≤ 9223372036854775807 ∧ n.exp.size ≤ 9223372036854775807
  links : ∀ x, x ∈ c.routers → ∀ n, n ∈ x.links → n.name.size ≤ 9223372036854775807
theorem in_fits (c : Cfg) (hS : c.S) (hW : c.Wf) : c.Fits := by
  obtain ⟨⟨a1, a2, a3⟩, a4, a5, a6⟩ := hS
  refine ⟨by omega, by omega, by omega, fun x hx => ?_, fun x hx => ?_, fun x hx => ?_⟩
  · obtain ⟨b1, b2⟩ := a4 x hx
    exact ⟨by omega, by omega⟩
  · obtain ⟨⟨b1, b2⟩, b3⟩ := a5 x hx
    refine ⟨by omega, fun y hy => ?_, by omega⟩
    obtain ⟨d1, d2, d3, d4, d5⟩ := b3 y hy
    exact ⟨⟨by omega, by omega, by omega⟩, by omega, by omega⟩
  · obtain ⟨b1, b2, b3, b4⟩ := a6 x hx
    exact ⟨by omega, by omega, by omega, by omega, hW.nbrs x hx, hW.links x hx⟩
structure Cfg.M (c : Cfg) : Prop where
  lists : ∀ x, x ∈ c.lists → lstMay x = true ∧ nameB x.name = true
  maps : ∀ x, x ∈ c.maps → mapMayB x = true ∧ nameB x.name = true
  routers : ∀ x, x ∈ c.routers → rtrMay x = true ∧ nameB x.name = true
theorem mem_getD {α : Type} [Inhabited α] {l : List α} {i : Nat} (h : i < l.length) : l.getD i default ∈ l := by
  rw [List.getD_eq_getElem?_getD, List.getElem?_eq_getElem h]; exact List.getElem_mem h
end Go.Proofs.YtaealcimocpnnaaGreat

namespace Go.Proofs.YtaealcimocpnnaaGreat
open Go.Kern Go.RowKit
def pt (c : Cfg) : Nat → List ByteArray
  | 0 => c.lists.map lstText
  | 1 => c.maps.map mapText
  | _ => c.routers.map rtrText
set_option maxRecDepth 100000
set_option maxHeartbeats 4000000
attribute [local irreducible] PCall W
end Go.Proofs.YtaealcimocpnnaaGreat

namespace Go.Proofs.YtaealcimocpnnaaGreat
open Go.Kern Go.RowKit
set_option maxRecDepth 100000
set_option maxHeartbeats 4000000
attribute [local irreducible] PCall W
end Go.Proofs.YtaealcimocpnnaaGreat

namespace Go.Proofs.YtaealcimocpnnaaGreat
open Go.Kern Go.RowKit
set_option maxRecDepth 100000
set_option maxHeartbeats 4000000
attribute [local irreducible] PCall W
theorem t2 : ((2 : Int) = 0) = False := eq_false (by decide)
end Go.Proofs.YtaealcimocpnnaaGreat

namespace Go.Proofs.YtaealcimocpnnaaGreat
open Go.Kern Go.RowKit
set_option maxRecDepth 100000
set_option maxHeartbeats 4000000
attribute [local irreducible] PCall W
end Go.Proofs.YtaealcimocpnnaaGreat

namespace Go.Proofs
open Go.Shelf
def Tryz.keys104_ren : Go.Shelf.Ren := ⟨fun | 7 => 104 | 10 => 148 | n => n, fun | 23 => 141 | 26 => 9 | 3 => 4 | 28 => 153 | 0 => 0 | 27 => 152 | 33 => 117 | 4 => 4 | n => n, fun | n => n⟩
theorem Tryz.keys104 : Go.Proofs.SlLaysZ.n7 Tryz.prog Tryz.keys104_ren := {
  mixed := by kernel_rfl
  f7 := ⟨Tryz.f104.name, by decide, Tryz.func104.trans (congrArg some (by kernel_rfl))⟩
  f10 := ⟨Tryz.f148.name, by decide, Tryz.func148.trans (congrArg some (by kernel_rfl))⟩
  t0 := Tryz.underlying0
  a0 := Tryz.isAgg0
  z0 := Tryz.sizeOf0
  v0 := Tryz.zeroValue0
  t4 := Tryz.underlying4
  a4 := Tryz.isAgg4
  z4 := Tryz.sizeOf4
  v4 := Tryz.zeroValue4
  t23 := Tryz.underlying141
  a23 := Tryz.isAgg141
  z23 := Tryz.sizeOf141
  v23 := Tryz.zeroValue141
  t26 := Tryz.underlying9
  a26 := Tryz.isAgg9
  z26 := Tryz.sizeOf9
  v26 := Tryz.zeroValue9
  t27 := Tryz.underlying152
  a27 := Tryz.isAgg152
  z27 := Tryz.sizeOf152
  v27 := Tryz.zeroValue152
  t28 := Tryz.underlying153
  a28 := Tryz.isAgg153
  z28 := Tryz.sizeOf153
  v28 := Tryz.zeroValue153
  t33 := Tryz.underlying117
  a33 := Tryz.isAgg117
  z33 := Tryz.sizeOf117
  v33 := Tryz.zeroValue117 }
def Tryz.sorted103_ren : Go.Shelf.Ren := ⟨fun | 6 => 103 | 8 => 146 | 9 => 147 | 11 => 177 | 13 => 179 | 12 => 178 | 23 => 200 | 24 => 201 | 14 => 191 | 15 => 192 | 16 => 193 | 17 => 194 | 18 => 195 | 19 => 196 | 20 => 197 | 21 => 198 | 22 => 199 | 25 => 207 | 26 => 208 | 27 => 209 | 28 => 210 | 29 => 211 | 30 => 212 | 31 => 215 | n => n, fun | 26 => 9 | 28 => 153 | 24 => 33 | 0 => 0 | 3 => 3 | 37 => 200 | 48 => 92 | 50 => 234 | 4 => 4 | 40 => 246 | 39 => 245 | 45 => 250 | 5 => 5 | 9 => 9 | 51 => 258 | 55 => 262 | 57 => 267 | 58 => 268 | 33 => 117 | n => n, fun | n => n⟩
theorem Tryz.sorted103 : Go.Proofs.SlLaysZ.n6 Tryz.prog Tryz.sorted103_ren := {
  mixed := by kernel_rfl
  f6 := ⟨Tryz.f103.name, by decide, Tryz.func103.trans (congrArg some (by kernel_rfl))⟩
  f8 := ⟨Tryz.f146.name, by decide, Tryz.func146.trans (congrArg some (by kernel_rfl))⟩
  f11 := ⟨Tryz.f177.name, by decide, Tryz.func177.trans (congrArg some (by kernel_rfl))⟩
  t0 := Tryz.underlying0
  a0 := Tryz.isAgg0
  z0 := Tryz.sizeOf0
  v0 := Tryz.zeroValue0
  t24 := Tryz.underlying33
  a24 := Tryz.isAgg33
  z24 := Tryz.sizeOf33
  v24 := Tryz.zeroValue33
  t26 := Tryz.underlying9
  a26 := Tryz.isAgg9
  z26 := Tryz.sizeOf9
  v26 := Tryz.zeroValue9
  t28 := Tryz.underlying153
  a28 := Tryz.isAgg153
  z28 := Tryz.sizeOf153
  v28 := Tryz.zeroValue153
  i26 := by kernel_rfl }
def Tryz.sort147_ren : Go.Shelf.Ren := ⟨fun | 6 => 147 | 8 => 179 | 9 => 178 | 19 => 200 | 20 => 201 | 21 => 191 | 22 => 192 | 23 => 193 | 24 => 194 | 25 => 195 | 26 => 196 | 27 => 197 | 28 => 198 | 29 => 199 | 36 => 207 | 31 => 208 | 32 => 209 | 37 => 210 | 38 => 211 | 39 => 212 | 41 => 215 | n => n, fun | 27 => 33 | 29 => 9 | 3 => 3 | 32 => 200 | 26 => 33 | 0 => 0 | 44 => 92 | 46 => 234 | 4 => 4 | 36 => 246 | 35 => 245 | 41 => 250 | 5 => 5 | 9 => 9 | 53 => 258 | 57 => 262 | 63 => 267 | 64 => 268 | n => n, fun | n => n⟩
theorem Tryz.sort147 : Go.Proofs.SlLaysM.n6 Tryz.prog Tryz.sort147_ren := {
  mixed := by kernel_rfl
  f6 := ⟨Tryz.f147.name, by decide, Tryz.func147.trans (congrArg some (by kernel_rfl))⟩
  f8 := Tryz.func179.trans (congrArg some (by kernel_rfl))
  f9 := ⟨Tryz.f178.name, by decide, Tryz.func178.trans (congrArg some (by kernel_rfl))⟩
  f19 := Tryz.func200.trans (congrArg some (by kernel_rfl))
  f20 := Tryz.func201.trans (congrArg some (by kernel_rfl))
  f21 := ⟨Tryz.f191.name, by decide, Tryz.func191.trans (congrArg some (by kernel_rfl))⟩
  f22 := ⟨Tryz.f192.name, by decide, Tryz.func192.trans (congrArg some (by kernel_rfl))⟩
  f23 := ⟨Tryz.f193.name, by decide, Tryz.func193.trans (congrArg some (by kernel_rfl))⟩
  f24 := ⟨Tryz.f194.name, by decide, Tryz.func194.trans (congrArg some (by kernel_rfl))⟩
  f25 := ⟨Tryz.f195.name, by decide, Tryz.func195.trans (congrArg some (by kernel_rfl))⟩
  f26 := ⟨Tryz.f196.name, by decide, Tryz.func196.trans (congrArg some (by kernel_rfl))⟩
  f27 := ⟨Tryz.f197.name, by decide, Tryz.func197.trans (congrArg some (by kernel_rfl))⟩
  f28 := ⟨Tryz.f198.name, by decide, Tryz.func198.trans (congrArg some (by kernel_rfl))⟩
  f29 := ⟨Tryz.f199.name, by decide, Tryz.func199.trans (congrArg some (by kernel_rfl))⟩
  f31 := Tryz.func208.trans (congrArg some (by kernel_rfl))
  f32 := Tryz.func209.trans (congrArg some (by kernel_rfl))
  f36 := ⟨Tryz.f207.name, by decide, Tryz.func207.trans (congrArg some (by kernel_rfl))⟩
  f37 := ⟨Tryz.f210.name, by decide, Tryz.func210.trans (congrArg some (by kernel_rfl))⟩
  f38 := ⟨Tryz.f211.name, by decide, Tryz.func211.trans (congrArg some (by kernel_rfl))⟩
  f39 := ⟨Tryz.f212.name, by decide, Tryz.func212.trans (congrArg some (by kernel_rfl))⟩
  f41 := ⟨Tryz.f215.name, by decide, Tryz.func215.trans (congrArg some (by kernel_rfl))⟩
  t0 := Tryz.underlying0
  a0 := Tryz.isAgg0
  z0 := Tryz.sizeOf0
  v0 := Tryz.zeroValue0
  t3 := Tryz.underlying3
  a3 := Tryz.isAgg3
  z3 := Tryz.sizeOf3
  v3 := Tryz.zeroValue3
  t4 := Tryz.underlying4
  a4 := Tryz.isAgg4
  z4 := Tryz.sizeOf4
  v4 := Tryz.zeroValue4
  t5 := Tryz.underlying5
  a5 := Tryz.isAgg5
  z5 := Tryz.sizeOf5
  v5 := Tryz.zeroValue5
  t9 := Tryz.underlying9
  a9 := Tryz.isAgg9
  z9 := Tryz.sizeOf9
  v9 := Tryz.zeroValue9
  t26 := Tryz.underlying33
  a26 := Tryz.isAgg33
  z26 := Tryz.sizeOf33
  v26 := Tryz.zeroValue33
  t27 := Tryz.underlying33
  a27 := Tryz.isAgg33
  z27 := Tryz.sizeOf33
  v27 := Tryz.zeroValue33
  t29 := Tryz.underlying9
  a29 := Tryz.isAgg9
  z29 := Tryz.sizeOf9
  v29 := Tryz.zeroValue9
  t32 := Tryz.underlying200
  a32 := Tryz.isAgg200
  z32 := Tryz.sizeOf200
  v32 := Tryz.zeroValue200
  t35 := Tryz.underlying245
  a35 := Tryz.isAgg245
  z35 := Tryz.sizeOf245
  v35 := Tryz.zeroValue245
  t36 := Tryz.underlying246
  a36 := Tryz.isAgg246
  z36 := Tryz.sizeOf246
  v36 := Tryz.zeroValue246
  t41 := Tryz.underlying250
  a41 := Tryz.isAgg250
  z41 := Tryz.sizeOf250
  v41 := Tryz.zeroValue250
  t44 := Tryz.underlying92
  a44 := Tryz.isAgg92
  z44 := Tryz.sizeOf92
  v44 := Tryz.zeroValue92
  t46 := Tryz.underlying234
  a46 := Tryz.isAgg234
  z46 := Tryz.sizeOf234
  v46 := Tryz.zeroValue234
  t53 := Tryz.underlying258
  a53 := Tryz.isAgg258
  z53 := Tryz.sizeOf258
  v53 := Tryz.zeroValue258
  t57 := Tryz.underlying262
  a57 := Tryz.isAgg262
  z57 := Tryz.sizeOf262
  v57 := Tryz.zeroValue262
  t63 := Tryz.underlying267
  a63 := Tryz.isAgg267
  z63 := Tryz.sizeOf267
  v63 := Tryz.zeroValue267
  t64 := Tryz.underlying268
  a64 := Tryz.isAgg268
  z64 := Tryz.sizeOf268
  v64 := Tryz.zeroValue268 }
end Go.Proofs
namespace Go.Proofs.YtaealcimocpnnaaGreat
open Go.Kern Go.RowKit Go.Maps Go.Sort Go.Shelf Go.Proofs Go.WideElems Go.MapKept
theorem sorts_ok (m : Nat) : AnyZ.SortsIn Tryz.prog Tryz.sorted103_ren Fence.wide m :=
  ⟨fun blk off cap ss W hH hblk hsz => callsIn_wide.2 (AnyM.slices_Sort_string Tryz.sort147 blk off cap ss W hH hblk hsz),
   fun p cap W => callsIn_wide.2 (AnyM.slices_Sort_string_none Tryz.sort147 p cap W)⟩
def anyR : Value → Option (DataW Unit × List MemPlace) := fun _ => some (.nil, [])
theorem rd_str {x : MapEntry} {s : ByteArray} (h : x.key = .string s) (hs : s.size ≤ maxLen) : rd Tryz.prog 9 anyR x = some (.string (bytesOf s), .nil) := by
  have hk : keyOf Tryz.prog 9 x.key = some (.string (bytesOf s)) := by
    rw [h]
    simp [keyOf, Tryz.underlying9, mapKey, hs, bytesOf]
  unfold WideElems.rd; rw [hk]; rfl
theorem sortedOk : SortedOk Tryz.prog 103 148 9 where
  fn := ⟨_, Tryz.func103, rfl, rfl⟩
  sm := fun Bm b es clock w hBm hm hh hst hk hmax hbytes => by
    have F : Fit Tryz.prog 9 anyR es clock := ⟨hmax, hst, fun x hx => by
      obtain ⟨s, h1, h2⟩ := hk x hx
      exact ⟨_, rd_str h1 h2⟩⟩
    obtain ⟨D0, hD⟩ : ∃ D0 : DataW Unit, D0 = .map ((es.toList.map (rg Tryz.prog 9 anyR)).foldr DataW.insert []) := ⟨_, rfl⟩
    have hown : w.ownsMap Tryz.prog 9 anyR b es.size D0 := ⟨es, clock, hh, F, Nat.le_refl _, hD⟩
    have hperm := WideShapes.sorted_perm (es.toList.map (rg Tryz.prog 9 anyR))
    have hsize : Maps.size D0 = es.size := by
      rw [hD, Maps.size_eq, hperm.length_eq, List.length_map, Array.length_toList]
    have hkeys : (strKeys D0).Perm (es.toList.map Go.Kern.keyBytes) := by
      rw [hD]
      refine (hperm.map fun p => strOf p.1).trans (List.Perm.of_eq ?_)
      rw [List.map_map]
      refine List.map_congr_left fun x hx => ?_
      obtain ⟨s, h1, h2⟩ := hk x hx
      simp [rg, rd_str h1 h2, Go.Kern.keyBytes, h1, strOf]
    have hseq := AnyZ.keys_gives (ρ := Tryz.keys104_ren) { Tryz.keys104 with } Fence.wide 2 trivial rfl (by omega) Bm b es.size D0 w hBm hm hown
    have hc := AnyZ.sorted_in Tryz.sorted103 Fence.wide 5 trivial trivial trivial trivial rfl (by omega) (sorts_ok _) (enters_of Tryz.func147 (by kernel_rfl) rfl) 148 #[.pointer (some ⟨Bm, 0, none⟩)] trivial (enters_of Tryz.func148 (by kernel_rfl) rfl) _ _ (by rw [hsize]; exact hmax) (by rw [hsize]; exact hbytes) w hseq
    refine (callsIn_wide.1 hc).mono ?_
    rintro e w' ⟨v, ss, rfl, hp, hrow, hnil, hb⟩
    exact ⟨v, ss, rfl, hp.trans hkeys, hrow, hnil, hb⟩
  nl := fun Bm w hBm hm => by
    have hseq := AnyZ.keys_gives_nil (ρ := Tryz.keys104_ren) { Tryz.keys104 with } Fence.wide 2 trivial rfl Bm w hBm hm
    have hc := AnyZ.sorted_in Tryz.sorted103 Fence.wide 5 trivial trivial trivial trivial rfl (by omega) (sorts_ok _) (enters_of Tryz.func147 (by kernel_rfl) rfl) 148 #[.pointer (some ⟨Bm, 0, none⟩)] trivial (enters_of Tryz.func148 (by kernel_rfl) rfl) _ 0 (Nat.zero_le _) (by omega) w hseq
    refine (callsIn_wide.1 hc).mono ?_
    rintro e w' ⟨v, ss, rfl, hp, hrow, hnil, hb⟩
    exact ⟨by rw [hnil.2 hp], hb⟩
end Go.Proofs.YtaealcimocpnnaaGreat

namespace Go.Proofs.YtaealcimocpnnaaGreat
open Go.Kern Go.RowKit
def allS {α : Type} (q : α → α → Bool) : List α → List α → Bool
  | [], [] => true
  | x :: a, y :: b => q x y && allS q a b
  | _, _ => false
theorem allS_len {α : Type} (q : α → α → Bool) : ∀ {a b : List α}, a.length ≠ b.length → allS q a b = false
  | [], [], h => absurd rfl h
  | [], _ :: _, _ => rfl
  | _ :: _, [], _ => rfl
  | x :: a, y :: b, h => by rw [allS, allS_len q (fun e => h (by simp [e])), Bool.and_false]
theorem allS_drop {α : Type} [Inhabited α] (q : α → α → Bool) (a b : List α) (i : Nat) (h : i < a.length) (k : i < b.length) : allS q (a.drop i) (b.drop i) = (q (a.getD i default) (b.getD i default) && allS q (a.drop (i + 1)) (b.drop (i + 1))) := by
  rw [List.drop_eq_getElem_cons h, List.drop_eq_getElem_cons k, allS]
  simp [List.getD_eq_getElem?_getD, h, k]
theorem allS_end {α : Type} (q : α → α → Bool) (a b : List α) (h : a.length = b.length) : allS q (a.drop a.length) (b.drop a.length) = true := by
  rw [List.drop_length, h, List.drop_length]; rfl
def qPfx (x y : Pfx) : Bool := decide (x.a = y.a) && decide (x.b = y.b)
def qRng (x y : Rng) : Bool := decide (x.p.a = y.p.a) && (decide (x.p.b = y.p.b) && (decide (x.ge = y.ge) && (decide (x.le = y.le) && decide (x.permit = y.permit))))
def qCom (x y : Com) : Bool := decide (x.asn = y.asn) && decide (x.n = y.n)
def qInt (x y : Int) : Bool := decide (x = y)
def qNbr (x y : Nbr) : Bool := decide (x.name = y.name) && (decide (x.imp = y.imp) && (decide (x.exp = y.exp) && decide (x.client = y.client)))
def qLnk (x y : Lnk) : Bool := decide (x.name = y.name) && decide (x.cost = y.cost)
set_option maxRecDepth 100000
set_option maxHeartbeats 4000000
attribute [local irreducible] PCall W
theorem eqPfx (ka kb : SK) (a b : List Pfx) (ha : a.length < 4611686018427387904) (hb : b.length < 4611686018427387904) : Pure Tryz.prog 111 [.sl ka (encL ePfx a), .sl kb (encL ePfx b)] (.bool (allS qPfx a b)) := by
  intro σ
  by_cases hl : a.length = b.length
  · skip
    refine PCall_q [.tmp 4] 26 Tryz.func111 (by rfl) rfl rfl rfl rfl ?_
    repeat' first |refine s1 ?_|refine gS ?_|refine wT rfl ?_|refine wF rfl ?_|refine wt rfl ?_|refine wf rfl ?_|(refine wC rfl (fun h=>?_) (fun h=>?_)<;>(try contradiction))|((first|refine rd ?_|refine ry [] c0 fun nu _ _=>?_);simp -dsimp (disch:=omega) only[go_sem,hl])|refine e0 (by decide) ?_|(refine zA ?_ ?_;omega)|refine zA (of_eq_true PutAt_put) ?_|refine gT ?_|refine gF ?_|(refine gI (fun h=>?_) (fun h=>?_)<;>(try contradiction)<;>(try refine rd ?_)<;>(try simp -dsimp (disch:=omega) only[go_sem,h,hl]))|refine zX _ (zX _ (zA (zA rfl rfl) ?_)) |fail
    refine W_loop_st (fun i : Nat => [(0, .sl ka (encL ePfx a)), (1, .sl kb (encL ePfx b)), (12, .int .i64 a.length), (13, .int .i64 i)]) (fun _ => σ) (fun i => i ≤ a.length ∧ allS qPfx a b = allS qPfx (a.drop i) (b.drop i)) (fun i => a.length - i) 0 ⟨Nat.zero_le _, rfl⟩ (Env.Sub_of_has (by simp [Env.Has, Env.get, hl])) (Store.Sub.refl _) ?_
    rintro i ⟨hi, hor⟩
    by_cases hlt : i < a.length
    · have ho := allS_drop qPfx a b i hlt (by omega)
      obtain ⟨x, hx⟩ : ∃ x, a.getD i default = x := ⟨_, rfl⟩
      obtain ⟨y, hy⟩ : ∃ y, b.getD i default = y := ⟨_, rfl⟩
      obtain ⟨r, hr⟩ : ∃ r, qPfx x y = r := ⟨_, rfl⟩
      rw [hx, hy, hr] at ho
      simp only [qPfx] at hr
      have hlt2 : i < b.length := by omega
      cases r with
      | true =>
        repeat' first |refine s1 ?_|refine gS ?_|refine wT rfl ?_|refine wF rfl ?_|refine wt rfl ?_|refine wf rfl ?_|(refine wC rfl (fun h=>?_) (fun h=>?_)<;>(try contradiction))|((first|refine rd ?_|refine ry [] c0 fun nu _ _=>?_);simp -dsimp (disch:=omega) only[go_sem,hl, hx, hy, hr, ePfx])|refine e0 (by decide) ?_|(refine zA ?_ ?_;omega)|refine zA (of_eq_true PutAt_put) ?_|refine gT ?_|refine gF ?_|(refine gI (fun h=>?_) (fun h=>?_)<;>(try contradiction)<;>(try refine rd ?_)<;>(try simp -dsimp (disch:=omega) only[go_sem,h,hl, hx, hy, hr, ePfx]))|refine zX _ (zX _ (zA (zA rfl rfl) ?_)) |fail
        exact ⟨i + 1, by omega, ⟨by omega, by rw [hor, ho, Bool.true_and]⟩, Env.Sub_of_has (by simp [Env.Has, Env.get, Env.putO, hl]), Store.Sub.refl _⟩
      | false =>
        rw [hor, ho, Bool.false_and]
        repeat' first |refine s1 ?_|refine gS ?_|refine wT rfl ?_|refine wF rfl ?_|refine wt rfl ?_|refine wf rfl ?_|(refine wC rfl (fun h=>?_) (fun h=>?_)<;>(try contradiction))|((first|refine rd ?_|refine ry [] c0 fun nu _ _=>?_);simp -dsimp (disch:=omega) only[go_sem,hl, hx, hy, hr, ePfx])|refine e0 (by decide) ?_|(refine zA ?_ ?_;omega)|refine zA (of_eq_true PutAt_put) ?_|refine gT ?_|refine gF ?_|(refine gI (fun h=>?_) (fun h=>?_)<;>(try contradiction)<;>(try refine rd ?_)<;>(try simp -dsimp (disch:=omega) only[go_sem,h,hl, hx, hy, hr, ePfx]))|refine zX _ (zX _ (zA (zA rfl rfl) ?_)) |fail
    · have hi' : i = a.length := by omega
      subst hi'
      rw [hor, allS_end qPfx a b hl]
      repeat' first |refine s1 ?_|refine gS ?_|refine wT rfl ?_|refine wF rfl ?_|refine wt rfl ?_|refine wf rfl ?_|(refine wC rfl (fun h=>?_) (fun h=>?_)<;>(try contradiction))|((first|refine rd ?_|refine ry [] c0 fun nu _ _=>?_);simp -dsimp (disch:=omega) only[go_sem,hl])|refine e0 (by decide) ?_|(refine zA ?_ ?_;omega)|refine zA (of_eq_true PutAt_put) ?_|refine gT ?_|refine gF ?_|(refine gI (fun h=>?_) (fun h=>?_)<;>(try contradiction)<;>(try refine rd ?_)<;>(try simp -dsimp (disch:=omega) only[go_sem,h,hl]))|refine zX _ (zX _ (zA (zA rfl rfl) ?_)) |fail
  · rw [allS_len qPfx hl]
    have hl' : ¬ (a.length : Int) = b.length := by omega
    refine PCall_q [.tmp 4] 26 Tryz.func111 (by rfl) rfl rfl rfl rfl ?_
    repeat' first |refine s1 ?_|refine gS ?_|refine wT rfl ?_|refine wF rfl ?_|refine wt rfl ?_|refine wf rfl ?_|(refine wC rfl (fun h=>?_) (fun h=>?_)<;>(try contradiction))|((first|refine rd ?_|refine ry [] c0 fun nu _ _=>?_);simp -dsimp (disch:=omega) only[go_sem,hl'])|refine e0 (by decide) ?_|(refine zA ?_ ?_;omega)|refine zA (of_eq_true PutAt_put) ?_|refine gT ?_|refine gF ?_|(refine gI (fun h=>?_) (fun h=>?_)<;>(try contradiction)<;>(try refine rd ?_)<;>(try simp -dsimp (disch:=omega) only[go_sem,h,hl']))|refine zX _ (zX _ (zA (zA rfl rfl) ?_)) |fail
theorem eqRng (ka kb : SK) (a b : List Rng) (ha : a.length < 4611686018427387904) (hb : b.length < 4611686018427387904) : Pure Tryz.prog 105 [.sl ka (encL eRng a), .sl kb (encL eRng b)] (.bool (allS qRng a b)) := by
  intro σ
  by_cases hl : a.length = b.length
  · skip
    refine PCall_q [.tmp 4] 26 Tryz.func105 (by rfl) rfl rfl rfl rfl ?_
    repeat' first |refine s1 ?_|refine gS ?_|refine wT rfl ?_|refine wF rfl ?_|refine wt rfl ?_|refine wf rfl ?_|(refine wC rfl (fun h=>?_) (fun h=>?_)<;>(try contradiction))|((first|refine rd ?_|refine ry [] c0 fun nu _ _=>?_);simp -dsimp (disch:=omega) only[go_sem,hl])|refine e0 (by decide) ?_|(refine zA ?_ ?_;omega)|refine zA (of_eq_true PutAt_put) ?_|refine gT ?_|refine gF ?_|(refine gI (fun h=>?_) (fun h=>?_)<;>(try contradiction)<;>(try refine rd ?_)<;>(try simp -dsimp (disch:=omega) only[go_sem,h,hl]))|refine zX _ (zX _ (zA (zA rfl rfl) ?_)) |fail
    refine W_loop_st (fun i : Nat => [(0, .sl ka (encL eRng a)), (1, .sl kb (encL eRng b)), (12, .int .i64 a.length), (13, .int .i64 i)]) (fun _ => σ) (fun i => i ≤ a.length ∧ allS qRng a b = allS qRng (a.drop i) (b.drop i)) (fun i => a.length - i) 0 ⟨Nat.zero_le _, rfl⟩ (Env.Sub_of_has (by simp [Env.Has, Env.get, hl])) (Store.Sub.refl _) ?_
    rintro i ⟨hi, hor⟩
    by_cases hlt : i < a.length
    · have ho := allS_drop qRng a b i hlt (by omega)
      obtain ⟨x, hx⟩ : ∃ x, a.getD i default = x := ⟨_, rfl⟩
      obtain ⟨y, hy⟩ : ∃ y, b.getD i default = y := ⟨_, rfl⟩
      obtain ⟨r, hr⟩ : ∃ r, qRng x y = r := ⟨_, rfl⟩
      rw [hx, hy, hr] at ho
      simp only [qRng] at hr
      have hlt2 : i < b.length := by omega
      cases r with
      | true =>
        repeat' first |refine s1 ?_|refine gS ?_|refine wT rfl ?_|refine wF rfl ?_|refine wt rfl ?_|refine wf rfl ?_|(refine wC rfl (fun h=>?_) (fun h=>?_)<;>(try contradiction))|((first|refine rd ?_|refine ry [] c0 fun nu _ _=>?_);simp -dsimp (disch:=omega) only[go_sem,hl, hx, hy, hr, eRng])|refine e0 (by decide) ?_|(refine zA ?_ ?_;omega)|refine zA (of_eq_true PutAt_put) ?_|refine gT ?_|refine gF ?_|(refine gI (fun h=>?_) (fun h=>?_)<;>(try contradiction)<;>(try refine rd ?_)<;>(try simp -dsimp (disch:=omega) only[go_sem,h,hl, hx, hy, hr, eRng]))|refine zX _ (zX _ (zA (zA rfl rfl) ?_)) |fail
        exact ⟨i + 1, by omega, ⟨by omega, by rw [hor, ho, Bool.true_and]⟩, Env.Sub_of_has (by simp [Env.Has, Env.get, Env.putO, hl]), Store.Sub.refl _⟩
      | false =>
        rw [hor, ho, Bool.false_and]
        repeat' first |refine s1 ?_|refine gS ?_|refine wT rfl ?_|refine wF rfl ?_|refine wt rfl ?_|refine wf rfl ?_|(refine wC rfl (fun h=>?_) (fun h=>?_)<;>(try contradiction))|((first|refine rd ?_|refine ry [] c0 fun nu _ _=>?_);simp -dsimp (disch:=omega) only[go_sem,hl, hx, hy, hr, eRng])|refine e0 (by decide) ?_|(refine zA ?_ ?_;omega)|refine zA (of_eq_true PutAt_put) ?_|refine gT ?_|refine gF ?_|(refine gI (fun h=>?_) (fun h=>?_)<;>(try contradiction)<;>(try refine rd ?_)<;>(try simp -dsimp (disch:=omega) only[go_sem,h,hl, hx, hy, hr, eRng]))|refine zX _ (zX _ (zA (zA rfl rfl) ?_)) |fail
    · have hi' : i = a.length := by omega
      subst hi'
      rw [hor, allS_end qRng a b hl]
      repeat' first |refine s1 ?_|refine gS ?_|refine wT rfl ?_|refine wF rfl ?_|refine wt rfl ?_|refine wf rfl ?_|(refine wC rfl (fun h=>?_) (fun h=>?_)<;>(try contradiction))|((first|refine rd ?_|refine ry [] c0 fun nu _ _=>?_);simp -dsimp (disch:=omega) only[go_sem,hl])|refine e0 (by decide) ?_|(refine zA ?_ ?_;omega)|refine zA (of_eq_true PutAt_put) ?_|refine gT ?_|refine gF ?_|(refine gI (fun h=>?_) (fun h=>?_)<;>(try contradiction)<;>(try refine rd ?_)<;>(try simp -dsimp (disch:=omega) only[go_sem,h,hl]))|refine zX _ (zX _ (zA (zA rfl rfl) ?_)) |fail
  · rw [allS_len qRng hl]
    have hl' : ¬ (a.length : Int) = b.length := by omega
    refine PCall_q [.tmp 4] 26 Tryz.func105 (by rfl) rfl rfl rfl rfl ?_
    repeat' first |refine s1 ?_|refine gS ?_|refine wT rfl ?_|refine wF rfl ?_|refine wt rfl ?_|refine wf rfl ?_|(refine wC rfl (fun h=>?_) (fun h=>?_)<;>(try contradiction))|((first|refine rd ?_|refine ry [] c0 fun nu _ _=>?_);simp -dsimp (disch:=omega) only[go_sem,hl'])|refine e0 (by decide) ?_|(refine zA ?_ ?_;omega)|refine zA (of_eq_true PutAt_put) ?_|refine gT ?_|refine gF ?_|(refine gI (fun h=>?_) (fun h=>?_)<;>(try contradiction)<;>(try refine rd ?_)<;>(try simp -dsimp (disch:=omega) only[go_sem,h,hl']))|refine zX _ (zX _ (zA (zA rfl rfl) ?_)) |fail
theorem eqCom (ka kb : SK) (a b : List Com) (ha : a.length < 4611686018427387904) (hb : b.length < 4611686018427387904) : Pure Tryz.prog 149 [.sl ka (encL eCom a), .sl kb (encL eCom b)] (.bool (allS qCom a b)) := by
  intro σ
  by_cases hl : a.length = b.length
  · skip
    refine PCall_q [.tmp 4] 26 Tryz.func149 (by rfl) rfl rfl rfl rfl ?_
    repeat' first |refine s1 ?_|refine gS ?_|refine wT rfl ?_|refine wF rfl ?_|refine wt rfl ?_|refine wf rfl ?_|(refine wC rfl (fun h=>?_) (fun h=>?_)<;>(try contradiction))|((first|refine rd ?_|refine ry [] c0 fun nu _ _=>?_);simp -dsimp (disch:=omega) only[go_sem,hl])|refine e0 (by decide) ?_|(refine zA ?_ ?_;omega)|refine zA (of_eq_true PutAt_put) ?_|refine gT ?_|refine gF ?_|(refine gI (fun h=>?_) (fun h=>?_)<;>(try contradiction)<;>(try refine rd ?_)<;>(try simp -dsimp (disch:=omega) only[go_sem,h,hl]))|refine zX _ (zX _ (zA (zA rfl rfl) ?_)) |fail
    refine W_loop_st (fun i : Nat => [(0, .sl ka (encL eCom a)), (1, .sl kb (encL eCom b)), (12, .int .i64 a.length), (13, .int .i64 i)]) (fun _ => σ) (fun i => i ≤ a.length ∧ allS qCom a b = allS qCom (a.drop i) (b.drop i)) (fun i => a.length - i) 0 ⟨Nat.zero_le _, rfl⟩ (Env.Sub_of_has (by simp [Env.Has, Env.get, hl])) (Store.Sub.refl _) ?_
    rintro i ⟨hi, hor⟩
    by_cases hlt : i < a.length
    · have ho := allS_drop qCom a b i hlt (by omega)
      obtain ⟨x, hx⟩ : ∃ x, a.getD i default = x := ⟨_, rfl⟩
      obtain ⟨y, hy⟩ : ∃ y, b.getD i default = y := ⟨_, rfl⟩
      obtain ⟨r, hr⟩ : ∃ r, qCom x y = r := ⟨_, rfl⟩
      rw [hx, hy, hr] at ho
      simp only [qCom] at hr
      have hlt2 : i < b.length := by omega
      cases r with
      | true =>
        repeat' first |refine s1 ?_|refine gS ?_|refine wT rfl ?_|refine wF rfl ?_|refine wt rfl ?_|refine wf rfl ?_|(refine wC rfl (fun h=>?_) (fun h=>?_)<;>(try contradiction))|((first|refine rd ?_|refine ry [] c0 fun nu _ _=>?_);simp -dsimp (disch:=omega) only[go_sem,hl, hx, hy, hr, eCom])|refine e0 (by decide) ?_|(refine zA ?_ ?_;omega)|refine zA (of_eq_true PutAt_put) ?_|refine gT ?_|refine gF ?_|(refine gI (fun h=>?_) (fun h=>?_)<;>(try contradiction)<;>(try refine rd ?_)<;>(try simp -dsimp (disch:=omega) only[go_sem,h,hl, hx, hy, hr, eCom]))|refine zX _ (zX _ (zA (zA rfl rfl) ?_)) |fail
        exact ⟨i + 1, by omega, ⟨by omega, by rw [hor, ho, Bool.true_and]⟩, Env.Sub_of_has (by simp [Env.Has, Env.get, Env.putO, hl]), Store.Sub.refl _⟩
      | false =>
        rw [hor, ho, Bool.false_and]
        repeat' first |refine s1 ?_|refine gS ?_|refine wT rfl ?_|refine wF rfl ?_|refine wt rfl ?_|refine wf rfl ?_|(refine wC rfl (fun h=>?_) (fun h=>?_)<;>(try contradiction))|((first|refine rd ?_|refine ry [] c0 fun nu _ _=>?_);simp -dsimp (disch:=omega) only[go_sem,hl, hx, hy, hr, eCom])|refine e0 (by decide) ?_|(refine zA ?_ ?_;omega)|refine zA (of_eq_true PutAt_put) ?_|refine gT ?_|refine gF ?_|(refine gI (fun h=>?_) (fun h=>?_)<;>(try contradiction)<;>(try refine rd ?_)<;>(try simp -dsimp (disch:=omega) only[go_sem,h,hl, hx, hy, hr, eCom]))|refine zX _ (zX _ (zA (zA rfl rfl) ?_)) |fail
    · have hi' : i = a.length := by omega
      subst hi'
      rw [hor, allS_end qCom a b hl]
      repeat' first |refine s1 ?_|refine gS ?_|refine wT rfl ?_|refine wF rfl ?_|refine wt rfl ?_|refine wf rfl ?_|(refine wC rfl (fun h=>?_) (fun h=>?_)<;>(try contradiction))|((first|refine rd ?_|refine ry [] c0 fun nu _ _=>?_);simp -dsimp (disch:=omega) only[go_sem,hl])|refine e0 (by decide) ?_|(refine zA ?_ ?_;omega)|refine zA (of_eq_true PutAt_put) ?_|refine gT ?_|refine gF ?_|(refine gI (fun h=>?_) (fun h=>?_)<;>(try contradiction)<;>(try refine rd ?_)<;>(try simp -dsimp (disch:=omega) only[go_sem,h,hl]))|refine zX _ (zX _ (zA (zA rfl rfl) ?_)) |fail
  · rw [allS_len qCom hl]
    have hl' : ¬ (a.length : Int) = b.length := by omega
    refine PCall_q [.tmp 4] 26 Tryz.func149 (by rfl) rfl rfl rfl rfl ?_
    repeat' first |refine s1 ?_|refine gS ?_|refine wT rfl ?_|refine wF rfl ?_|refine wt rfl ?_|refine wf rfl ?_|(refine wC rfl (fun h=>?_) (fun h=>?_)<;>(try contradiction))|((first|refine rd ?_|refine ry [] c0 fun nu _ _=>?_);simp -dsimp (disch:=omega) only[go_sem,hl'])|refine e0 (by decide) ?_|(refine zA ?_ ?_;omega)|refine zA (of_eq_true PutAt_put) ?_|refine gT ?_|refine gF ?_|(refine gI (fun h=>?_) (fun h=>?_)<;>(try contradiction)<;>(try refine rd ?_)<;>(try simp -dsimp (disch:=omega) only[go_sem,h,hl']))|refine zX _ (zX _ (zA (zA rfl rfl) ?_)) |fail
theorem eqNbr (ka kb : SK) (a b : List Nbr) (ha : a.length < 4611686018427387904) (hb : b.length < 4611686018427387904) : Pure Tryz.prog 112 [.sl ka (encL eNbr a), .sl kb (encL eNbr b)] (.bool (allS qNbr a b)) := by
  intro σ
  by_cases hl : a.length = b.length
  · skip
    refine PCall_q [.tmp 4] 26 Tryz.func112 (by rfl) rfl rfl rfl rfl ?_
    repeat' first |refine s1 ?_|refine gS ?_|refine wT rfl ?_|refine wF rfl ?_|refine wt rfl ?_|refine wf rfl ?_|(refine wC rfl (fun h=>?_) (fun h=>?_)<;>(try contradiction))|((first|refine rd ?_|refine ry [] c0 fun nu _ _=>?_);simp -dsimp (disch:=omega) only[go_sem,hl])|refine e0 (by decide) ?_|(refine zA ?_ ?_;omega)|refine zA (of_eq_true PutAt_put) ?_|refine gT ?_|refine gF ?_|(refine gI (fun h=>?_) (fun h=>?_)<;>(try contradiction)<;>(try refine rd ?_)<;>(try simp -dsimp (disch:=omega) only[go_sem,h,hl]))|refine zX _ (zX _ (zA (zA rfl rfl) ?_)) |fail
    refine W_loop_st (fun i : Nat => [(0, .sl ka (encL eNbr a)), (1, .sl kb (encL eNbr b)), (12, .int .i64 a.length), (13, .int .i64 i)]) (fun _ => σ) (fun i => i ≤ a.length ∧ allS qNbr a b = allS qNbr (a.drop i) (b.drop i)) (fun i => a.length - i) 0 ⟨Nat.zero_le _, rfl⟩ (Env.Sub_of_has (by simp [Env.Has, Env.get, hl])) (Store.Sub.refl _) ?_
    rintro i ⟨hi, hor⟩
    by_cases hlt : i < a.length
    · have ho := allS_drop qNbr a b i hlt (by omega)
      obtain ⟨x, hx⟩ : ∃ x, a.getD i default = x := ⟨_, rfl⟩
      obtain ⟨y, hy⟩ : ∃ y, b.getD i default = y := ⟨_, rfl⟩
      obtain ⟨r, hr⟩ : ∃ r, qNbr x y = r := ⟨_, rfl⟩
      rw [hx, hy, hr] at ho
      simp only [qNbr] at hr
      have hlt2 : i < b.length := by omega
      cases r with
      | true =>
        repeat' first |refine s1 ?_|refine gS ?_|refine wT rfl ?_|refine wF rfl ?_|refine wt rfl ?_|refine wf rfl ?_|(refine wC rfl (fun h=>?_) (fun h=>?_)<;>(try contradiction))|((first|refine rd ?_|refine ry [] c0 fun nu _ _=>?_);simp -dsimp (disch:=omega) only[go_sem,hl, hx, hy, hr, eNbr])|refine e0 (by decide) ?_|(refine zA ?_ ?_;omega)|refine zA (of_eq_true PutAt_put) ?_|refine gT ?_|refine gF ?_|(refine gI (fun h=>?_) (fun h=>?_)<;>(try contradiction)<;>(try refine rd ?_)<;>(try simp -dsimp (disch:=omega) only[go_sem,h,hl, hx, hy, hr, eNbr]))|refine zX _ (zX _ (zA (zA rfl rfl) ?_)) |fail
        exact ⟨i + 1, by omega, ⟨by omega, by rw [hor, ho, Bool.true_and]⟩, Env.Sub_of_has (by simp [Env.Has, Env.get, Env.putO, hl]), Store.Sub.refl _⟩
      | false =>
        rw [hor, ho, Bool.false_and]
        repeat' first |refine s1 ?_|refine gS ?_|refine wT rfl ?_|refine wF rfl ?_|refine wt rfl ?_|refine wf rfl ?_|(refine wC rfl (fun h=>?_) (fun h=>?_)<;>(try contradiction))|((first|refine rd ?_|refine ry [] c0 fun nu _ _=>?_);simp -dsimp (disch:=omega) only[go_sem,hl, hx, hy, hr, eNbr])|refine e0 (by decide) ?_|(refine zA ?_ ?_;omega)|refine zA (of_eq_true PutAt_put) ?_|refine gT ?_|refine gF ?_|(refine gI (fun h=>?_) (fun h=>?_)<;>(try contradiction)<;>(try refine rd ?_)<;>(try simp -dsimp (disch:=omega) only[go_sem,h,hl, hx, hy, hr, eNbr]))|refine zX _ (zX _ (zA (zA rfl rfl) ?_)) |fail
    · have hi' : i = a.length := by omega
      subst hi'
      rw [hor, allS_end qNbr a b hl]
      repeat' first |refine s1 ?_|refine gS ?_|refine wT rfl ?_|refine wF rfl ?_|refine wt rfl ?_|refine wf rfl ?_|(refine wC rfl (fun h=>?_) (fun h=>?_)<;>(try contradiction))|((first|refine rd ?_|refine ry [] c0 fun nu _ _=>?_);simp -dsimp (disch:=omega) only[go_sem,hl])|refine e0 (by decide) ?_|(refine zA ?_ ?_;omega)|refine zA (of_eq_true PutAt_put) ?_|refine gT ?_|refine gF ?_|(refine gI (fun h=>?_) (fun h=>?_)<;>(try contradiction)<;>(try refine rd ?_)<;>(try simp -dsimp (disch:=omega) only[go_sem,h,hl]))|refine zX _ (zX _ (zA (zA rfl rfl) ?_)) |fail
  · rw [allS_len qNbr hl]
    have hl' : ¬ (a.length : Int) = b.length := by omega
    refine PCall_q [.tmp 4] 26 Tryz.func112 (by rfl) rfl rfl rfl rfl ?_
    repeat' first |refine s1 ?_|refine gS ?_|refine wT rfl ?_|refine wF rfl ?_|refine wt rfl ?_|refine wf rfl ?_|(refine wC rfl (fun h=>?_) (fun h=>?_)<;>(try contradiction))|((first|refine rd ?_|refine ry [] c0 fun nu _ _=>?_);simp -dsimp (disch:=omega) only[go_sem,hl'])|refine e0 (by decide) ?_|(refine zA ?_ ?_;omega)|refine zA (of_eq_true PutAt_put) ?_|refine gT ?_|refine gF ?_|(refine gI (fun h=>?_) (fun h=>?_)<;>(try contradiction)<;>(try refine rd ?_)<;>(try simp -dsimp (disch:=omega) only[go_sem,h,hl']))|refine zX _ (zX _ (zA (zA rfl rfl) ?_)) |fail
theorem eqLnk (ka kb : SK) (a b : List Lnk) (ha : a.length < 4611686018427387904) (hb : b.length < 4611686018427387904) : Pure Tryz.prog 113 [.sl ka (encL eLnk a), .sl kb (encL eLnk b)] (.bool (allS qLnk a b)) := by
  intro σ
  by_cases hl : a.length = b.length
  · skip
    refine PCall_q [.tmp 4] 26 Tryz.func113 (by rfl) rfl rfl rfl rfl ?_
    repeat' first |refine s1 ?_|refine gS ?_|refine wT rfl ?_|refine wF rfl ?_|refine wt rfl ?_|refine wf rfl ?_|(refine wC rfl (fun h=>?_) (fun h=>?_)<;>(try contradiction))|((first|refine rd ?_|refine ry [] c0 fun nu _ _=>?_);simp -dsimp (disch:=omega) only[go_sem,hl])|refine e0 (by decide) ?_|(refine zA ?_ ?_;omega)|refine zA (of_eq_true PutAt_put) ?_|refine gT ?_|refine gF ?_|(refine gI (fun h=>?_) (fun h=>?_)<;>(try contradiction)<;>(try refine rd ?_)<;>(try simp -dsimp (disch:=omega) only[go_sem,h,hl]))|refine zX _ (zX _ (zA (zA rfl rfl) ?_)) |fail
    refine W_loop_st (fun i : Nat => [(0, .sl ka (encL eLnk a)), (1, .sl kb (encL eLnk b)), (12, .int .i64 a.length), (13, .int .i64 i)]) (fun _ => σ) (fun i => i ≤ a.length ∧ allS qLnk a b = allS qLnk (a.drop i) (b.drop i)) (fun i => a.length - i) 0 ⟨Nat.zero_le _, rfl⟩ (Env.Sub_of_has (by simp [Env.Has, Env.get, hl])) (Store.Sub.refl _) ?_
    rintro i ⟨hi, hor⟩
    by_cases hlt : i < a.length
    · have ho := allS_drop qLnk a b i hlt (by omega)
      obtain ⟨x, hx⟩ : ∃ x, a.getD i default = x := ⟨_, rfl⟩
      obtain ⟨y, hy⟩ : ∃ y, b.getD i default = y := ⟨_, rfl⟩
      obtain ⟨r, hr⟩ : ∃ r, qLnk x y = r := ⟨_, rfl⟩
      rw [hx, hy, hr] at ho
      simp only [qLnk] at hr
      have hlt2 : i < b.length := by omega
      cases r with
      | true =>
        repeat' first |refine s1 ?_|refine gS ?_|refine wT rfl ?_|refine wF rfl ?_|refine wt rfl ?_|refine wf rfl ?_|(refine wC rfl (fun h=>?_) (fun h=>?_)<;>(try contradiction))|((first|refine rd ?_|refine ry [] c0 fun nu _ _=>?_);simp -dsimp (disch:=omega) only[go_sem,hl, hx, hy, hr, eLnk])|refine e0 (by decide) ?_|(refine zA ?_ ?_;omega)|refine zA (of_eq_true PutAt_put) ?_|refine gT ?_|refine gF ?_|(refine gI (fun h=>?_) (fun h=>?_)<;>(try contradiction)<;>(try refine rd ?_)<;>(try simp -dsimp (disch:=omega) only[go_sem,h,hl, hx, hy, hr, eLnk]))|refine zX _ (zX _ (zA (zA rfl rfl) ?_)) |fail
        exact ⟨i + 1, by omega, ⟨by omega, by rw [hor, ho, Bool.true_and]⟩, Env.Sub_of_has (by simp [Env.Has, Env.get, Env.putO, hl]), Store.Sub.refl _⟩
      | false =>
        rw [hor, ho, Bool.false_and]
        repeat' first |refine s1 ?_|refine gS ?_|refine wT rfl ?_|refine wF rfl ?_|refine wt rfl ?_|refine wf rfl ?_|(refine wC rfl (fun h=>?_) (fun h=>?_)<;>(try contradiction))|((first|refine rd ?_|refine ry [] c0 fun nu _ _=>?_);simp -dsimp (disch:=omega) only[go_sem,hl, hx, hy, hr, eLnk])|refine e0 (by decide) ?_|(refine zA ?_ ?_;omega)|refine zA (of_eq_true PutAt_put) ?_|refine gT ?_|refine gF ?_|(refine gI (fun h=>?_) (fun h=>?_)<;>(try contradiction)<;>(try refine rd ?_)<;>(try simp -dsimp (disch:=omega) only[go_sem,h,hl, hx, hy, hr, eLnk]))|refine zX _ (zX _ (zA (zA rfl rfl) ?_)) |fail
    · have hi' : i = a.length := by omega
      subst hi'
      rw [hor, allS_end qLnk a b hl]
      repeat' first |refine s1 ?_|refine gS ?_|refine wT rfl ?_|refine wF rfl ?_|refine wt rfl ?_|refine wf rfl ?_|(refine wC rfl (fun h=>?_) (fun h=>?_)<;>(try contradiction))|((first|refine rd ?_|refine ry [] c0 fun nu _ _=>?_);simp -dsimp (disch:=omega) only[go_sem,hl])|refine e0 (by decide) ?_|(refine zA ?_ ?_;omega)|refine zA (of_eq_true PutAt_put) ?_|refine gT ?_|refine gF ?_|(refine gI (fun h=>?_) (fun h=>?_)<;>(try contradiction)<;>(try refine rd ?_)<;>(try simp -dsimp (disch:=omega) only[go_sem,h,hl]))|refine zX _ (zX _ (zA (zA rfl rfl) ?_)) |fail
  · rw [allS_len qLnk hl]
    have hl' : ¬ (a.length : Int) = b.length := by omega
    refine PCall_q [.tmp 4] 26 Tryz.func113 (by rfl) rfl rfl rfl rfl ?_
    repeat' first |refine s1 ?_|refine gS ?_|refine wT rfl ?_|refine wF rfl ?_|refine wt rfl ?_|refine wf rfl ?_|(refine wC rfl (fun h=>?_) (fun h=>?_)<;>(try contradiction))|((first|refine rd ?_|refine ry [] c0 fun nu _ _=>?_);simp -dsimp (disch:=omega) only[go_sem,hl'])|refine e0 (by decide) ?_|(refine zA ?_ ?_;omega)|refine zA (of_eq_true PutAt_put) ?_|refine gT ?_|refine gF ?_|(refine gI (fun h=>?_) (fun h=>?_)<;>(try contradiction)<;>(try refine rd ?_)<;>(try simp -dsimp (disch:=omega) only[go_sem,h,hl']))|refine zX _ (zX _ (zA (zA rfl rfl) ?_)) |fail
theorem eqInt (ka kb : SK) (a b : List Int) (ha : a.length < 4611686018427387904) (hb : b.length < 4611686018427387904) : Pure Tryz.prog 150 [.sl ka (ints a), .sl kb (ints b)] (.bool (allS qInt a b)) := by
  intro σ
  by_cases hl : a.length = b.length
  · skip
    refine PCall_q [.tmp 4] 26 Tryz.func150 (by rfl) rfl rfl rfl rfl ?_
    repeat' first |refine s1 ?_|refine gS ?_|refine wT rfl ?_|refine wF rfl ?_|refine wt rfl ?_|refine wf rfl ?_|(refine wC rfl (fun h=>?_) (fun h=>?_)<;>(try contradiction))|((first|refine rd ?_|refine ry [] c0 fun nu _ _=>?_);simp -dsimp (disch:=omega) only[go_sem,hl])|refine e0 (by decide) ?_|(refine zA ?_ ?_;omega)|refine zA (of_eq_true PutAt_put) ?_|refine gT ?_|refine gF ?_|(refine gI (fun h=>?_) (fun h=>?_)<;>(try contradiction)<;>(try refine rd ?_)<;>(try simp -dsimp (disch:=omega) only[go_sem,h,hl]))|refine zX _ (zX _ (zA (zA rfl rfl) ?_)) |fail
    refine W_loop_st (fun i : Nat => [(0, .sl ka (ints a)), (1, .sl kb (ints b)), (12, .int .i64 a.length), (13, .int .i64 i)]) (fun _ => σ) (fun i => i ≤ a.length ∧ allS qInt a b = allS qInt (a.drop i) (b.drop i)) (fun i => a.length - i) 0 ⟨Nat.zero_le _, rfl⟩ (Env.Sub_of_has (by simp [Env.Has, Env.get, hl])) (Store.Sub.refl _) ?_
    rintro i ⟨hi, hor⟩
    by_cases hlt : i < a.length
    · have ho := allS_drop qInt a b i hlt (by omega)
      obtain ⟨x, hx⟩ : ∃ x, a.getD i default = x := ⟨_, rfl⟩
      obtain ⟨y, hy⟩ : ∃ y, b.getD i default = y := ⟨_, rfl⟩
      obtain ⟨r, hr⟩ : ∃ r, qInt x y = r := ⟨_, rfl⟩
      rw [hx, hy, hr] at ho
      simp only [qInt] at hr
      have hlt2 : i < b.length := by omega
      cases r with
      | true =>
        repeat' first |refine s1 ?_|refine gS ?_|refine wT rfl ?_|refine wF rfl ?_|refine wt rfl ?_|refine wf rfl ?_|(refine wC rfl (fun h=>?_) (fun h=>?_)<;>(try contradiction))|((first|refine rd ?_|refine ry [] c0 fun nu _ _=>?_);simp -dsimp (disch:=omega) only[go_sem,hl, hx, hy, hr, eI])|refine e0 (by decide) ?_|(refine zA ?_ ?_;omega)|refine zA (of_eq_true PutAt_put) ?_|refine gT ?_|refine gF ?_|(refine gI (fun h=>?_) (fun h=>?_)<;>(try contradiction)<;>(try refine rd ?_)<;>(try simp -dsimp (disch:=omega) only[go_sem,h,hl, hx, hy, hr, eI]))|refine zX _ (zX _ (zA (zA rfl rfl) ?_)) |fail
        exact ⟨i + 1, by omega, ⟨by omega, by rw [hor, ho, Bool.true_and]⟩, Env.Sub_of_has (by simp [Env.Has, Env.get, Env.putO, hl]), Store.Sub.refl _⟩
      | false =>
        rw [hor, ho, Bool.false_and]
        repeat' first |refine s1 ?_|refine gS ?_|refine wT rfl ?_|refine wF rfl ?_|refine wt rfl ?_|refine wf rfl ?_|(refine wC rfl (fun h=>?_) (fun h=>?_)<;>(try contradiction))|((first|refine rd ?_|refine ry [] c0 fun nu _ _=>?_);simp -dsimp (disch:=omega) only[go_sem,hl, hx, hy, hr, eI])|refine e0 (by decide) ?_|(refine zA ?_ ?_;omega)|refine zA (of_eq_true PutAt_put) ?_|refine gT ?_|refine gF ?_|(refine gI (fun h=>?_) (fun h=>?_)<;>(try contradiction)<;>(try refine rd ?_)<;>(try simp -dsimp (disch:=omega) only[go_sem,h,hl, hx, hy, hr, eI]))|refine zX _ (zX _ (zA (zA rfl rfl) ?_)) |fail
    · have hi' : i = a.length := by omega
      subst hi'
      rw [hor, allS_end qInt a b hl]
      repeat' first |refine s1 ?_|refine gS ?_|refine wT rfl ?_|refine wF rfl ?_|refine wt rfl ?_|refine wf rfl ?_|(refine wC rfl (fun h=>?_) (fun h=>?_)<;>(try contradiction))|((first|refine rd ?_|refine ry [] c0 fun nu _ _=>?_);simp -dsimp (disch:=omega) only[go_sem,hl])|refine e0 (by decide) ?_|(refine zA ?_ ?_;omega)|refine zA (of_eq_true PutAt_put) ?_|refine gT ?_|refine gF ?_|(refine gI (fun h=>?_) (fun h=>?_)<;>(try contradiction)<;>(try refine rd ?_)<;>(try simp -dsimp (disch:=omega) only[go_sem,h,hl]))|refine zX _ (zX _ (zA (zA rfl rfl) ?_)) |fail
  · rw [allS_len qInt hl]
    have hl' : ¬ (a.length : Int) = b.length := by omega
    refine PCall_q [.tmp 4] 26 Tryz.func150 (by rfl) rfl rfl rfl rfl ?_
    repeat' first |refine s1 ?_|refine gS ?_|refine wT rfl ?_|refine wF rfl ?_|refine wt rfl ?_|refine wf rfl ?_|(refine wC rfl (fun h=>?_) (fun h=>?_)<;>(try contradiction))|((first|refine rd ?_|refine ry [] c0 fun nu _ _=>?_);simp -dsimp (disch:=omega) only[go_sem,hl'])|refine e0 (by decide) ?_|(refine zA ?_ ?_;omega)|refine zA (of_eq_true PutAt_put) ?_|refine gT ?_|refine gF ?_|(refine gI (fun h=>?_) (fun h=>?_)<;>(try contradiction)<;>(try refine rd ?_)<;>(try simp -dsimp (disch:=omega) only[go_sem,h,hl']))|refine zX _ (zX _ (zA (zA rfl rfl) ?_)) |fail
theorem rPfx (ka kb : SK) (a b : List Pfx) (ha : a.length < 4611686018427387904) (hb : b.length < 4611686018427387904) : Pure Tryz.prog 100 [.sl ka (encL ePfx a), .sl kb (encL ePfx b)] (.bool (allS qPfx a b)) := by
  intro σ
  by_cases hl : a.length = b.length
  · skip
    refine PCall_q [.tmp 4] 26 Tryz.func100 (by rfl) rfl rfl rfl rfl ?_
    repeat' first |refine s1 ?_|refine gS ?_|refine wT rfl ?_|refine wF rfl ?_|refine wt rfl ?_|refine wf rfl ?_|(refine wC rfl (fun h=>?_) (fun h=>?_)<;>(try contradiction))|((first|refine rd ?_|refine ry [] c0 fun nu _ _=>?_);simp -dsimp (disch:=omega) only[go_sem,hl])|refine e0 (by decide) ?_|(refine zA ?_ ?_;omega)|refine zA (of_eq_true PutAt_put) ?_|refine gT ?_|refine gF ?_|(refine gI (fun h=>?_) (fun h=>?_)<;>(try contradiction)<;>(try refine rd ?_)<;>(try simp -dsimp (disch:=omega) only[go_sem,h,hl]))|refine zX _ (zX _ (zA (zA rfl rfl) ?_)) |fail
    refine W_loop_st (fun i : Nat => [(0, .sl ka (encL ePfx a)), (1, .sl kb (encL ePfx b)), (5, .int .i64 i)]) (fun _ => σ) (fun i => i ≤ a.length ∧ allS qPfx a b = allS qPfx (a.drop i) (b.drop i)) (fun i => a.length - i) 0 ⟨Nat.zero_le _, rfl⟩ (Env.Sub_of_has (by simp [Env.Has, Env.get, hl])) (Store.Sub.refl _) ?_
    rintro i ⟨hi, hor⟩
    by_cases hlt : i < a.length
    · have ho := allS_drop qPfx a b i hlt (by omega)
      obtain ⟨x, hx⟩ : ∃ x, a.getD i default = x := ⟨_, rfl⟩
      obtain ⟨y, hy⟩ : ∃ y, b.getD i default = y := ⟨_, rfl⟩
      obtain ⟨r, hr⟩ : ∃ r, qPfx x y = r := ⟨_, rfl⟩
      rw [hx, hy, hr] at ho
      simp only [qPfx] at hr
      have hlt2 : i < b.length := by omega
      cases r with
      | true =>
        repeat' first |refine s1 ?_|refine gS ?_|refine wT rfl ?_|refine wF rfl ?_|refine wt rfl ?_|refine wf rfl ?_|(refine wC rfl (fun h=>?_) (fun h=>?_)<;>(try contradiction))|((first|refine rd ?_|refine ry [] c0 fun nu _ _=>?_);simp -dsimp (disch:=omega) only[go_sem,hl, hx, hy, hr, ePfx])|refine e0 (by decide) ?_|(refine zA ?_ ?_;omega)|refine zA (of_eq_true PutAt_put) ?_|refine gT ?_|refine gF ?_|(refine gI (fun h=>?_) (fun h=>?_)<;>(try contradiction)<;>(try refine rd ?_)<;>(try simp -dsimp (disch:=omega) only[go_sem,h,hl, hx, hy, hr, ePfx]))|refine zX _ (zX _ (zA (zA rfl rfl) ?_)) |fail
        exact ⟨i + 1, by omega, ⟨by omega, by rw [hor, ho, Bool.true_and]⟩, Env.Sub_of_has (by simp [Env.Has, Env.get, Env.putO, hl]), Store.Sub.refl _⟩
      | false =>
        rw [hor, ho, Bool.false_and]
        repeat' first |refine s1 ?_|refine gS ?_|refine wT rfl ?_|refine wF rfl ?_|refine wt rfl ?_|refine wf rfl ?_|(refine wC rfl (fun h=>?_) (fun h=>?_)<;>(try contradiction))|((first|refine rd ?_|refine ry [] c0 fun nu _ _=>?_);simp -dsimp (disch:=omega) only[go_sem,hl, hx, hy, hr, ePfx])|refine e0 (by decide) ?_|(refine zA ?_ ?_;omega)|refine zA (of_eq_true PutAt_put) ?_|refine gT ?_|refine gF ?_|(refine gI (fun h=>?_) (fun h=>?_)<;>(try contradiction)<;>(try refine rd ?_)<;>(try simp -dsimp (disch:=omega) only[go_sem,h,hl, hx, hy, hr, ePfx]))|refine zX _ (zX _ (zA (zA rfl rfl) ?_)) |fail
    · have hi' : i = a.length := by omega
      subst hi'
      rw [hor, allS_end qPfx a b hl]
      repeat' first |refine s1 ?_|refine gS ?_|refine wT rfl ?_|refine wF rfl ?_|refine wt rfl ?_|refine wf rfl ?_|(refine wC rfl (fun h=>?_) (fun h=>?_)<;>(try contradiction))|((first|refine rd ?_|refine ry [] c0 fun nu _ _=>?_);simp -dsimp (disch:=omega) only[go_sem,hl])|refine e0 (by decide) ?_|(refine zA ?_ ?_;omega)|refine zA (of_eq_true PutAt_put) ?_|refine gT ?_|refine gF ?_|(refine gI (fun h=>?_) (fun h=>?_)<;>(try contradiction)<;>(try refine rd ?_)<;>(try simp -dsimp (disch:=omega) only[go_sem,h,hl]))|refine zX _ (zX _ (zA (zA rfl rfl) ?_)) |fail
  · rw [allS_len qPfx hl]
    have hl' : ¬ (a.length : Int) = b.length := by omega
    refine PCall_q [.tmp 4] 26 Tryz.func100 (by rfl) rfl rfl rfl rfl ?_
    repeat' first |refine s1 ?_|refine gS ?_|refine wT rfl ?_|refine wF rfl ?_|refine wt rfl ?_|refine wf rfl ?_|(refine wC rfl (fun h=>?_) (fun h=>?_)<;>(try contradiction))|((first|refine rd ?_|refine ry [] c0 fun nu _ _=>?_);simp -dsimp (disch:=omega) only[go_sem,hl'])|refine e0 (by decide) ?_|(refine zA ?_ ?_;omega)|refine zA (of_eq_true PutAt_put) ?_|refine gT ?_|refine gF ?_|(refine gI (fun h=>?_) (fun h=>?_)<;>(try contradiction)<;>(try refine rd ?_)<;>(try simp -dsimp (disch:=omega) only[go_sem,h,hl']))|refine zX _ (zX _ (zA (zA rfl rfl) ?_)) |fail
theorem rRng (ka kb : SK) (a b : List Rng) (ha : a.length < 4611686018427387904) (hb : b.length < 4611686018427387904) : Pure Tryz.prog 43 [.sl ka (encL eRng a), .sl kb (encL eRng b)] (.bool (allS qRng a b)) := by
  intro σ
  by_cases hl : a.length = b.length
  · skip
    refine PCall_q [.tmp 4] 26 Tryz.func43 (by rfl) rfl rfl rfl rfl ?_
    repeat' first |refine s1 ?_|refine gS ?_|refine wT rfl ?_|refine wF rfl ?_|refine wt rfl ?_|refine wf rfl ?_|(refine wC rfl (fun h=>?_) (fun h=>?_)<;>(try contradiction))|((first|refine rd ?_|refine ry [] c0 fun nu _ _=>?_);simp -dsimp (disch:=omega) only[go_sem,hl])|refine e0 (by decide) ?_|(refine zA ?_ ?_;omega)|refine zA (of_eq_true PutAt_put) ?_|refine gT ?_|refine gF ?_|(refine gI (fun h=>?_) (fun h=>?_)<;>(try contradiction)<;>(try refine rd ?_)<;>(try simp -dsimp (disch:=omega) only[go_sem,h,hl]))|refine zX _ (zX _ (zA (zA rfl rfl) ?_)) |fail
    refine W_loop_st (fun i : Nat => [(0, .sl ka (encL eRng a)), (1, .sl kb (encL eRng b)), (5, .int .i64 i)]) (fun _ => σ) (fun i => i ≤ a.length ∧ allS qRng a b = allS qRng (a.drop i) (b.drop i)) (fun i => a.length - i) 0 ⟨Nat.zero_le _, rfl⟩ (Env.Sub_of_has (by simp [Env.Has, Env.get, hl])) (Store.Sub.refl _) ?_
    rintro i ⟨hi, hor⟩
    by_cases hlt : i < a.length
    · have ho := allS_drop qRng a b i hlt (by omega)
      obtain ⟨x, hx⟩ : ∃ x, a.getD i default = x := ⟨_, rfl⟩
      obtain ⟨y, hy⟩ : ∃ y, b.getD i default = y := ⟨_, rfl⟩
      obtain ⟨r, hr⟩ : ∃ r, qRng x y = r := ⟨_, rfl⟩
      rw [hx, hy, hr] at ho
      simp only [qRng] at hr
      have hlt2 : i < b.length := by omega
      cases r with
      | true =>
        repeat' first |refine s1 ?_|refine gS ?_|refine wT rfl ?_|refine wF rfl ?_|refine wt rfl ?_|refine wf rfl ?_|(refine wC rfl (fun h=>?_) (fun h=>?_)<;>(try contradiction))|((first|refine rd ?_|refine ry [] c0 fun nu _ _=>?_);simp -dsimp (disch:=omega) only[go_sem,hl, hx, hy, hr, eRng])|refine e0 (by decide) ?_|(refine zA ?_ ?_;omega)|refine zA (of_eq_true PutAt_put) ?_|refine gT ?_|refine gF ?_|(refine gI (fun h=>?_) (fun h=>?_)<;>(try contradiction)<;>(try refine rd ?_)<;>(try simp -dsimp (disch:=omega) only[go_sem,h,hl, hx, hy, hr, eRng]))|refine zX _ (zX _ (zA (zA rfl rfl) ?_)) |fail
        exact ⟨i + 1, by omega, ⟨by omega, by rw [hor, ho, Bool.true_and]⟩, Env.Sub_of_has (by simp [Env.Has, Env.get, Env.putO, hl]), Store.Sub.refl _⟩
      | false =>
        rw [hor, ho, Bool.false_and]
        repeat' first |refine s1 ?_|refine gS ?_|refine wT rfl ?_|refine wF rfl ?_|refine wt rfl ?_|refine wf rfl ?_|(refine wC rfl (fun h=>?_) (fun h=>?_)<;>(try contradiction))|((first|refine rd ?_|refine ry [] c0 fun nu _ _=>?_);simp -dsimp (disch:=omega) only[go_sem,hl, hx, hy, hr, eRng])|refine e0 (by decide) ?_|(refine zA ?_ ?_;omega)|refine zA (of_eq_true PutAt_put) ?_|refine gT ?_|refine gF ?_|(refine gI (fun h=>?_) (fun h=>?_)<;>(try contradiction)<;>(try refine rd ?_)<;>(try simp -dsimp (disch:=omega) only[go_sem,h,hl, hx, hy, hr, eRng]))|refine zX _ (zX _ (zA (zA rfl rfl) ?_)) |fail
    · have hi' : i = a.length := by omega
      subst hi'
      rw [hor, allS_end qRng a b hl]
      repeat' first |refine s1 ?_|refine gS ?_|refine wT rfl ?_|refine wF rfl ?_|refine wt rfl ?_|refine wf rfl ?_|(refine wC rfl (fun h=>?_) (fun h=>?_)<;>(try contradiction))|((first|refine rd ?_|refine ry [] c0 fun nu _ _=>?_);simp -dsimp (disch:=omega) only[go_sem,hl])|refine e0 (by decide) ?_|(refine zA ?_ ?_;omega)|refine zA (of_eq_true PutAt_put) ?_|refine gT ?_|refine gF ?_|(refine gI (fun h=>?_) (fun h=>?_)<;>(try contradiction)<;>(try refine rd ?_)<;>(try simp -dsimp (disch:=omega) only[go_sem,h,hl]))|refine zX _ (zX _ (zA (zA rfl rfl) ?_)) |fail
  · rw [allS_len qRng hl]
    have hl' : ¬ (a.length : Int) = b.length := by omega
    refine PCall_q [.tmp 4] 26 Tryz.func43 (by rfl) rfl rfl rfl rfl ?_
    repeat' first |refine s1 ?_|refine gS ?_|refine wT rfl ?_|refine wF rfl ?_|refine wt rfl ?_|refine wf rfl ?_|(refine wC rfl (fun h=>?_) (fun h=>?_)<;>(try contradiction))|((first|refine rd ?_|refine ry [] c0 fun nu _ _=>?_);simp -dsimp (disch:=omega) only[go_sem,hl'])|refine e0 (by decide) ?_|(refine zA ?_ ?_;omega)|refine zA (of_eq_true PutAt_put) ?_|refine gT ?_|refine gF ?_|(refine gI (fun h=>?_) (fun h=>?_)<;>(try contradiction)<;>(try refine rd ?_)<;>(try simp -dsimp (disch:=omega) only[go_sem,h,hl']))|refine zX _ (zX _ (zA (zA rfl rfl) ?_)) |fail
theorem rCom (ka kb : SK) (a b : List Com) (ha : a.length < 4611686018427387904) (hb : b.length < 4611686018427387904) : Pure Tryz.prog 99 [.sl ka (encL eCom a), .sl kb (encL eCom b)] (.bool (allS qCom a b)) := by
  intro σ
  by_cases hl : a.length = b.length
  · skip
    refine PCall_q [.tmp 4] 26 Tryz.func99 (by rfl) rfl rfl rfl rfl ?_
    repeat' first |refine s1 ?_|refine gS ?_|refine wT rfl ?_|refine wF rfl ?_|refine wt rfl ?_|refine wf rfl ?_|(refine wC rfl (fun h=>?_) (fun h=>?_)<;>(try contradiction))|((first|refine rd ?_|refine ry [] c0 fun nu _ _=>?_);simp -dsimp (disch:=omega) only[go_sem,hl])|refine e0 (by decide) ?_|(refine zA ?_ ?_;omega)|refine zA (of_eq_true PutAt_put) ?_|refine gT ?_|refine gF ?_|(refine gI (fun h=>?_) (fun h=>?_)<;>(try contradiction)<;>(try refine rd ?_)<;>(try simp -dsimp (disch:=omega) only[go_sem,h,hl]))|refine zX _ (zX _ (zA (zA rfl rfl) ?_)) |fail
    refine W_loop_st (fun i : Nat => [(0, .sl ka (encL eCom a)), (1, .sl kb (encL eCom b)), (5, .int .i64 i)]) (fun _ => σ) (fun i => i ≤ a.length ∧ allS qCom a b = allS qCom (a.drop i) (b.drop i)) (fun i => a.length - i) 0 ⟨Nat.zero_le _, rfl⟩ (Env.Sub_of_has (by simp [Env.Has, Env.get, hl])) (Store.Sub.refl _) ?_
    rintro i ⟨hi, hor⟩
    by_cases hlt : i < a.length
    · have ho := allS_drop qCom a b i hlt (by omega)
      obtain ⟨x, hx⟩ : ∃ x, a.getD i default = x := ⟨_, rfl⟩
      obtain ⟨y, hy⟩ : ∃ y, b.getD i default = y := ⟨_, rfl⟩
      obtain ⟨r, hr⟩ : ∃ r, qCom x y = r := ⟨_, rfl⟩
      rw [hx, hy, hr] at ho
      simp only [qCom] at hr
      have hlt2 : i < b.length := by omega
      cases r with
      | true =>
        repeat' first |refine s1 ?_|refine gS ?_|refine wT rfl ?_|refine wF rfl ?_|refine wt rfl ?_|refine wf rfl ?_|(refine wC rfl (fun h=>?_) (fun h=>?_)<;>(try contradiction))|((first|refine rd ?_|refine ry [] c0 fun nu _ _=>?_);simp -dsimp (disch:=omega) only[go_sem,hl, hx, hy, hr, eCom])|refine e0 (by decide) ?_|(refine zA ?_ ?_;omega)|refine zA (of_eq_true PutAt_put) ?_|refine gT ?_|refine gF ?_|(refine gI (fun h=>?_) (fun h=>?_)<;>(try contradiction)<;>(try refine rd ?_)<;>(try simp -dsimp (disch:=omega) only[go_sem,h,hl, hx, hy, hr, eCom]))|refine zX _ (zX _ (zA (zA rfl rfl) ?_)) |fail
        exact ⟨i + 1, by omega, ⟨by omega, by rw [hor, ho, Bool.true_and]⟩, Env.Sub_of_has (by simp [Env.Has, Env.get, Env.putO, hl]), Store.Sub.refl _⟩
      | false =>
        rw [hor, ho, Bool.false_and]
        repeat' first |refine s1 ?_|refine gS ?_|refine wT rfl ?_|refine wF rfl ?_|refine wt rfl ?_|refine wf rfl ?_|(refine wC rfl (fun h=>?_) (fun h=>?_)<;>(try contradiction))|((first|refine rd ?_|refine ry [] c0 fun nu _ _=>?_);simp -dsimp (disch:=omega) only[go_sem,hl, hx, hy, hr, eCom])|refine e0 (by decide) ?_|(refine zA ?_ ?_;omega)|refine zA (of_eq_true PutAt_put) ?_|refine gT ?_|refine gF ?_|(refine gI (fun h=>?_) (fun h=>?_)<;>(try contradiction)<;>(try refine rd ?_)<;>(try simp -dsimp (disch:=omega) only[go_sem,h,hl, hx, hy, hr, eCom]))|refine zX _ (zX _ (zA (zA rfl rfl) ?_)) |fail
    · have hi' : i = a.length := by omega
      subst hi'
      rw [hor, allS_end qCom a b hl]
      repeat' first |refine s1 ?_|refine gS ?_|refine wT rfl ?_|refine wF rfl ?_|refine wt rfl ?_|refine wf rfl ?_|(refine wC rfl (fun h=>?_) (fun h=>?_)<;>(try contradiction))|((first|refine rd ?_|refine ry [] c0 fun nu _ _=>?_);simp -dsimp (disch:=omega) only[go_sem,hl])|refine e0 (by decide) ?_|(refine zA ?_ ?_;omega)|refine zA (of_eq_true PutAt_put) ?_|refine gT ?_|refine gF ?_|(refine gI (fun h=>?_) (fun h=>?_)<;>(try contradiction)<;>(try refine rd ?_)<;>(try simp -dsimp (disch:=omega) only[go_sem,h,hl]))|refine zX _ (zX _ (zA (zA rfl rfl) ?_)) |fail
  · rw [allS_len qCom hl]
    have hl' : ¬ (a.length : Int) = b.length := by omega
    refine PCall_q [.tmp 4] 26 Tryz.func99 (by rfl) rfl rfl rfl rfl ?_
    repeat' first |refine s1 ?_|refine gS ?_|refine wT rfl ?_|refine wF rfl ?_|refine wt rfl ?_|refine wf rfl ?_|(refine wC rfl (fun h=>?_) (fun h=>?_)<;>(try contradiction))|((first|refine rd ?_|refine ry [] c0 fun nu _ _=>?_);simp -dsimp (disch:=omega) only[go_sem,hl'])|refine e0 (by decide) ?_|(refine zA ?_ ?_;omega)|refine zA (of_eq_true PutAt_put) ?_|refine gT ?_|refine gF ?_|(refine gI (fun h=>?_) (fun h=>?_)<;>(try contradiction)<;>(try refine rd ?_)<;>(try simp -dsimp (disch:=omega) only[go_sem,h,hl']))|refine zX _ (zX _ (zA (zA rfl rfl) ?_)) |fail
end Go.Proofs.YtaealcimocpnnaaGreat

