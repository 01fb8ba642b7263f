/- Plain texts of configurations. Conditions: none. -/
import Derived.Test.YtaealcimocpnnaaGreatBc
import Derived.Test.YtaealcimocpnnaaGreatKnW
import Derived.Laws.BitsAllLaws
set_option linter.unusedVariables false
set_option linter.unusedSimpArgs false
namespace Go.Proofs.YtaealcimocpnnaaGreat
open Go.Kern

theorem szA (a b : ByteArray) : (a ++ b).size = a.size + b.size := ByteArray.size_append
theorem asA (a b c : ByteArray) : (a ++ b) ++ c = a ++ (b ++ c) := ByteArray.append_assoc
theorem emA (a : ByteArray) : a ++ (⟨#[]⟩ : ByteArray) = a := ByteArray.append_empty
theorem eA (a : ByteArray) : (⟨#[]⟩ : ByteArray) ++ a = a := ByteArray.empty_append
theorem szL (l : List UInt8) : (⟨l.toArray⟩ : ByteArray).size = l.length := by simp [ByteArray.size]
theorem szE : (⟨#[]⟩ : ByteArray).size = 0 := rfl

/-- A number's digits. -/
def digN (n : Nat) : List UInt8 := if n < 10 then [UInt8.ofNat (48 + n)] else digN (n / 10) ++ [UInt8.ofNat (48 + n % 10)]
termination_by n
decreasing_by omega
theorem digN_len : ∀ (k n : Nat), n < 10 ^ (k + 1) → (digN n).length ≤ k + 1
  | 0, n, h => by
    rw [digN, if_pos (by omega)]; simp
  | k + 1, n, h => by
    rw [digN]
    split
    · simp
    · have := digN_len k (n / 10) (by rw [Nat.pow_succ] at h; omega)
      simp only [List.length_append, List.length_cons, List.length_nil]; omega
def digB (n : Int) : ByteArray := ⟨(digN n.toNat).toArray⟩
theorem digB_size (n : Int) (h : n < 18446744073709551616) : (digB n).size ≤ 20 := by
  rw [digB, szL]
  exact digN_len 19 n.toNat (by omega)
theorem digB_small (n : Int) (h1 : n < 10) : digB n = ⟨#[UInt8.ofNat (48 + n.toNat)]⟩ := by
  rw [digB, digN, if_pos (by omega)]
theorem digB_step (n : Int) (h0 : 0 ≤ n) (h1 : ¬ n < 10) : digB n = digB (n / 10) ++ ⟨#[UInt8.ofNat (48 + (n % 10).toNat)]⟩ := by
  rw [digB, digN, if_neg (by omega)]
  have e1 : n.toNat / 10 = (n / 10).toNat := by omega
  have e2 : n.toNat % 10 = (n % 10).toNat := by omega
  rw [e1, e2, digB]
  apply B_inj.1
  simp [B]

/-- Texts, one behind the other. -/
def catB : List ByteArray → ByteArray
  | [] => ⟨#[]⟩
  | x :: r => x ++ catB r
theorem catB_append : ∀ a b : List ByteArray, catB (a ++ b) = catB a ++ catB b
  | [], b => by rw [List.nil_append, catB, eA]
  | x :: r, b => by rw [List.cons_append, catB, catB, catB_append r b, asA]
theorem catB_size (m : Nat) : ∀ l : List ByteArray, (∀ x ∈ l, x.size ≤ m) → (catB l).size ≤ l.length * m
  | [], _ => by rw [catB, szE]; exact Nat.zero_le _
  | x :: r, h => by
    have h1 := h x List.mem_cons_self
    have h2 := catB_size m r fun y hy => h y (List.mem_cons_of_mem _ hy)
    rw [catB, szA, List.length_cons, Nat.succ_mul]; omega
theorem catB_map {α : Type} (f : α → ByteArray) (m : Nat) (l : List α) (h : ∀ x ∈ l, (f x).size ≤ m) : (catB (l.map f)).size ≤ l.length * m := by
  have := catB_size m (l.map f) fun y hy => by
    obtain ⟨x, hx, rfl⟩ := List.mem_map.1 hy
    exact h x hx
  rwa [List.length_map] at this
theorem joinT_size (m : Nat) (sep : ByteArray) : ∀ l : List ByteArray, (∀ x ∈ l, x.size ≤ m) → (joinT sep l).size ≤ l.length * (m + sep.size)
  | [], _ => by rw [joinT, szE]; exact Nat.zero_le _
  | x :: r, h => by
    have h1 := h x List.mem_cons_self
    have h2 := joinT_size m sep r fun y hy => h y (List.mem_cons_of_mem _ hy)
    rw [joinT, szA, szA, List.length_cons, Nat.succ_mul]; omega
theorem joinOf_size (m : Nat) (sep : ByteArray) (l : List ByteArray) (h : ∀ x ∈ l, x.size ≤ m) : (joinOf sep l).size ≤ l.length * (m + sep.size) := by
  cases l with
  | nil => rw [joinOf, szE]; exact Nat.zero_le _
  | cons x r =>
    have h1 := h x List.mem_cons_self
    have h2 := joinT_size m sep r fun y hy => h y (List.mem_cons_of_mem _ hy)
    rw [joinOf, szA, List.length_cons, Nat.succ_mul]; omega
theorem joinOf_map {α : Type} (f : α → ByteArray) (m : Nat) (sep : ByteArray) (l : List α) (h : ∀ x ∈ l, (f x).size ≤ m) : (joinOf sep (l.map f)).size ≤ l.length * (m + sep.size) := by
  have := joinOf_size m sep (l.map f) fun y hy => by
    obtain ⟨x, hx, rfl⟩ := List.mem_map.1 hy
    exact h x hx
  rwa [List.length_map] at this

/-! Words. -/
def blk : ByteArray := (⟨#[32]⟩ : ByteArray)
def comText (c : Com) : ByteArray :=
  if comMay c = true then
    (if c.asn = 65535 ∧ c.n = 65281 then (⟨#[110, 111, 45, 101, 120, 112, 111, 114, 116]⟩ : ByteArray) else if c.asn = 65535 ∧ c.n = 65282 then (⟨#[110, 111, 45, 97, 100, 118, 101, 114, 116, 105, 115, 101]⟩ : ByteArray) else if c.asn = 65535 ∧ c.n = 65283 then (⟨#[108, 111, 99, 97, 108]⟩ : ByteArray) else digB c.asn ++ (⟨#[58]⟩ : ByteArray) ++ digB c.n)
  else ⟨#[]⟩
theorem comMay_iff (c : Com) : comMay c = true ↔ 1 ≤ c.asn ∧ c.asn ≤ 65535 ∧ 0 ≤ c.n ∧ c.n ≤ 65535 := by
  simp [comMay, withinZ]; omega
theorem comText_size (c : Com) : (comText c).size ≤ 50 := by
  unfold comText
  split
  · rename_i h
    have h := (comMay_iff c).1 h
    split
    · decide
    · split
      · decide
      · split
        · decide
        · have h1 := digB_size c.asn (by omega)
          have h2 := digB_size c.n (by omega)
          rw [szA, szA]
          have : ((⟨#[58]⟩ : ByteArray)).size = 1 := rfl
          omega
  · decide
/-- One of an address's four bytes. -/
def octZ (a : Int) (k : Nat) : Int := bits .and .u32 (a.fdiv (2 ^ k)) 255
def pfxText (p : Pfx) : ByteArray :=
  if pfxMay p = true then joinOf (⟨#[46]⟩ : ByteArray) [digB (octZ p.a 24), digB (octZ p.a 16), digB (octZ p.a 8), digB (octZ p.a 0)] ++ (⟨#[47]⟩ : ByteArray) ++ digB p.b else ⟨#[]⟩
def Pfx.Ok (p : Pfx) : Prop := 0 ≤ p.a ∧ p.a < 4294967296
theorem octZ_eq {a : Int} (h0 : 0 ≤ a) (h1 : a < 4294967296) (k : Nat) : octZ a k = a / 2 ^ k % 256 := by
  unfold octZ
  have hp : (0 : Int) < 2 ^ k := Int.pow_pos (by decide)
  rw [Int.fdiv_eq_ediv_of_nonneg _ (Int.le_of_lt hp)]
  have g0 : 0 ≤ a / 2 ^ k := Int.ediv_nonneg h0 (Int.le_of_lt hp)
  have g1 : a / 2 ^ k ≤ a := Int.ediv_le_self _ h0
  rw [u32_and _ _ g0 (by omega) (by decide) (by decide)]
  have e : (255 : Int).toNat = 2 ^ 8 - 1 := rfl
  rw [e, Nat.and_two_pow_sub_one_eq_mod]
  omega
theorem octZ_ok {a : Int} (h0 : 0 ≤ a) (h1 : a < 4294967296) (k : Nat) : 0 ≤ octZ a k ∧ octZ a k < 256 := by
  rw [octZ_eq h0 h1]; omega
theorem pfxText_size (p : Pfx) (hp : p.Ok) : (pfxText p).size ≤ 200 := by
  unfold pfxText
  split
  · rename_i hm
    have hb : 0 ≤ p.b ∧ p.b ≤ 32 := by
      simp only [pfxMay, Bool.and_eq_true, decide_eq_true_eq] at hm
      exact hm.1
    have h := joinOf_size 20 (⟨#[46]⟩ : ByteArray) [digB (octZ p.a 24), digB (octZ p.a 16), digB (octZ p.a 8), digB (octZ p.a 0)] (by
      intro x hx
      simp only [List.mem_cons, List.not_mem_nil, or_false] at hx
      rcases hx with rfl | rfl | rfl | rfl
      all_goals exact digB_size _ (by have := (octZ_ok hp.1 hp.2 24).2; have := (octZ_ok hp.1 hp.2 16).2; have := (octZ_ok hp.1 hp.2 8).2; have := (octZ_ok hp.1 hp.2 0).2; omega))
    have h2 := digB_size p.b (by omega)
    have y1 : ((⟨#[46]⟩ : ByteArray)).size = 1 := rfl
    have y2 : ((⟨#[47]⟩ : ByteArray)).size = 1 := rfl
    simp only [List.length_cons, List.length_nil, y1] at h
    rw [szA, szA, y2]
    omega
  · rw [szE]; omega
def rngText (r : Rng) : ByteArray :=
  if rngMay r = true then
    (let s := (if r.permit = true then (⟨#[112, 101, 114, 109, 105, 116, 32]⟩ : ByteArray) else (⟨#[100, 101, 110, 121, 32]⟩ : ByteArray)) ++ pfxText r.p
     let s := if r.ge = r.p.b then s else s ++ ((⟨#[32, 103, 101, 32]⟩ : ByteArray) ++ digB r.ge)
     if r.le = r.ge then s else s ++ ((⟨#[32, 108, 101, 32]⟩ : ByteArray) ++ digB r.le))
  else ⟨#[]⟩
theorem rngText_size (r : Rng) (hp : r.p.Ok) : (rngText r).size ≤ 400 := by
  unfold rngText
  split
  · rename_i hm
    have hb : r.ge ≤ 32 ∧ r.le ≤ 32 := by
      simp only [rngMay, Bool.and_eq_true, decide_eq_true_eq] at hm
      omega
    have h1 := pfxText_size r.p hp
    have h2 := digB_size r.ge (by omega)
    have h3 := digB_size r.le (by omega)
    have y1 : ((⟨#[112, 101, 114, 109, 105, 116, 32]⟩ : ByteArray)).size = 7 := rfl
    have y2 : ((⟨#[100, 101, 110, 121, 32]⟩ : ByteArray)).size = 5 := rfl
    have y3 : ((⟨#[32, 103, 101, 32]⟩ : ByteArray)).size = 4 := rfl
    have y4 : ((⟨#[32, 108, 101, 32]⟩ : ByteArray)).size = 4 := rfl
    simp only
    split <;> split <;> split <;> simp only [szA, y1, y2, y3, y4] <;> omega
  · rw [szE]; omega
/-- A line, so many blanks ahead. -/
def repB (n : Nat) : ByteArray := ⟨(List.replicate n 32).toArray⟩
def lineB (n : Nat) (ws : List ByteArray) : ByteArray := repB n ++ (joinOf blk ws ++ (⟨#[10]⟩ : ByteArray))
def semi : List ByteArray → List ByteArray
  | [] => []
  | [x] => [x ++ (⟨#[59]⟩ : ByteArray)]
  | x :: r => x :: semi r
def someB (is : Bool) (ws : List ByteArray) : ByteArray := if is = true then lineB 2 (semi ws) else ⟨#[]⟩
def origin (n : Int) : ByteArray := if n = 1 then (⟨#[101, 103, 112]⟩ : ByteArray) else if n = 2 then (⟨#[110, 111, 110, 101]⟩ : ByteArray) else (⟨#[105, 103, 112]⟩ : ByteArray)
def max0 (n : Int) : Int := if n < 0 then 0 else n
def quoted (s : ByteArray) : ByteArray := (⟨#[34]⟩ : ByteArray) ++ s ++ (⟨#[34]⟩ : ByteArray)
def clsLines (c : Cls) : List ByteArray :=
  [lineB 1 [if c.permit = true then (⟨#[112, 101, 114, 109, 105, 116]⟩ : ByteArray) else (⟨#[100, 101, 110, 121]⟩ : ByteArray), digB c.n, (⟨#[123]⟩ : ByteArray)],
   someB (!decide (c.m.list = ⟨#[]⟩)) [(⟨#[109, 97, 116, 99, 104, 32, 112, 114, 101, 102, 105, 120]⟩ : ByteArray), c.m.list],
   someB (!decide (c.m.path = ⟨#[]⟩)) [(⟨#[109, 97, 116, 99, 104, 32, 112, 97, 116, 104]⟩ : ByteArray), quoted c.m.path],
   someB (!(decide (c.m.c.asn = 0) && decide (c.m.c.n = 0))) [(⟨#[109, 97, 116, 99, 104, 32, 99, 111, 109, 109, 117, 110, 105, 116, 121]⟩ : ByteArray), comText c.m.c],
   someB (decide ((0 : Int) ≤ c.s.pref)) [(⟨#[115, 101, 116, 32, 112, 114, 101, 102]⟩ : ByteArray), digB (max0 c.s.pref)],
   someB (decide ((0 : Int) ≤ c.s.med)) [(⟨#[115, 101, 116, 32, 109, 101, 100]⟩ : ByteArray), digB (max0 c.s.med)],
   someB (decide ((0 : Int) ≤ c.s.origin)) [(⟨#[115, 101, 116, 32, 111, 114, 105, 103, 105, 110]⟩ : ByteArray), origin (max0 c.s.origin)],
   someB c.s.clear [(⟨#[115, 101, 116, 32, 99, 111, 109, 109, 117, 110, 105, 116, 121, 32, 99, 108, 101, 97, 114]⟩ : ByteArray)],
   someB (decide ((0 : Int) < (c.s.del.length : Int))) [(⟨#[115, 101, 116, 32, 99, 111, 109, 109, 117, 110, 105, 116, 121, 32, 100, 101, 108]⟩ : ByteArray), joinOf blk (c.s.del.map comText)],
   someB (decide ((0 : Int) < (c.s.add.length : Int))) [(⟨#[115, 101, 116, 32, 99, 111, 109, 109, 117, 110, 105, 116, 121, 32, 97, 100, 100]⟩ : ByteArray), joinOf blk (c.s.add.map comText)],
   someB (decide ((0 : Int) < (c.s.pre.length : Int))) [(⟨#[115, 101, 116, 32, 112, 114, 101, 112, 101, 110, 100]⟩ : ByteArray), joinOf blk (c.s.pre.map digB)],
   lineB 1 [(⟨#[125]⟩ : ByteArray)]]
def clsText (c : Cls) : ByteArray := catB (clsLines c)
def lstText (x : LstD) : ByteArray := lineB 0 [(⟨#[112, 114, 101, 102, 105, 120, 45, 108, 105, 115, 116]⟩ : ByteArray), x.name, (⟨#[123]⟩ : ByteArray)] ++ (catB (x.l.map fun r => lineB 1 [rngText r ++ (⟨#[59]⟩ : ByteArray)]) ++ lineB 0 [(⟨#[125]⟩ : ByteArray)])
def mapText (x : MapD) : ByteArray := lineB 0 [(⟨#[114, 111, 117, 116, 101, 45, 109, 97, 112]⟩ : ByteArray), x.name, (⟨#[123]⟩ : ByteArray)] ++ (catB (x.l.map clsText) ++ lineB 0 [(⟨#[125]⟩ : ByteArray)])
def nw1 (n : Nbr) : ByteArray := if n.imp = ⟨#[]⟩ then n.name else n.name ++ ((⟨#[32, 105, 109, 112, 111, 114, 116, 32]⟩ : ByteArray) ++ n.imp)
def nw2 (n : Nbr) : ByteArray := if n.exp = ⟨#[]⟩ then nw1 n else nw1 n ++ ((⟨#[32, 101, 120, 112, 111, 114, 116, 32]⟩ : ByteArray) ++ n.exp)
def nbrWord (n : Nbr) : ByteArray := if n.client = true then nw2 n ++ (⟨#[32, 99, 108, 105, 101, 110, 116]⟩ : ByteArray) else nw2 n
def rtrText (x : Rtr) : ByteArray :=
  lineB 0 [(⟨#[114, 111, 117, 116, 101, 114]⟩ : ByteArray), x.name, (⟨#[123]⟩ : ByteArray)] ++ (lineB 1 [(⟨#[97, 115]⟩ : ByteArray), digB x.asn ++ (⟨#[59]⟩ : ByteArray)] ++ (lineB 1 [(⟨#[105, 100]⟩ : ByteArray), digB x.id ++ (⟨#[59]⟩ : ByteArray)] ++
    (catB (x.nets.map fun p => lineB 1 [(⟨#[110, 101, 116, 119, 111, 114, 107]⟩ : ByteArray), pfxText p ++ (⟨#[59]⟩ : ByteArray)]) ++ (catB (x.nbrs.map fun n => lineB 1 [(⟨#[110, 101, 105, 103, 104, 98, 111, 114]⟩ : ByteArray), nbrWord n ++ (⟨#[59]⟩ : ByteArray)]) ++
      (catB (x.links.map fun l => lineB 1 [(⟨#[108, 105, 110, 107]⟩ : ByteArray), l.name, (⟨#[99, 111, 115, 116]⟩ : ByteArray), digB l.cost ++ (⟨#[59]⟩ : ByteArray)]) ++ lineB 0 [(⟨#[125]⟩ : ByteArray)])))))
def cfgText (c : Cfg) : ByteArray := catB (c.lists.map lstText) ++ (catB (c.maps.map mapText) ++ catB (c.routers.map rtrText))
end Go.Proofs.YtaealcimocpnnaaGreat
