/- Plain laws: what a configuration that may be has; how long texts are; parts alone. Conditions: none. -/
import Derived.Test.YtaealcimocpnnaaGreatBu
import Derived.Test.YtaealcimocpnnaaGreatBv
set_option linter.unusedVariables false
set_option linter.unusedSimpArgs false
namespace Go.Proofs.YtaealcimocpnnaaGreat
open Go.Kern Go.RowKit
structure Cfg.Wf (c : Cfg) : Prop where
  rules : ∀ x, x ∈ c.lists → ∀ r, r ∈ x.l → r.p.Ok
  nets : ∀ x, x ∈ c.routers → ∀ p, p ∈ x.nets → p.Ok
  nbrs : ∀ x, x ∈ c.routers → ∀ n, n ∈ x.nbrs → n.name.size ≤ 9223372036854775807 ∧ n.imp.size ≤ 9223372036854775807 ∧ n.exp.size ≤ 9223372036854775807
  links : ∀ x, x ∈ c.routers → ∀ n, n ∈ x.links → n.name.size ≤ 9223372036854775807
theorem in_fits (c : Cfg) (hS : c.S) (hW : c.Wf) : c.Fits := by
  obtain ⟨⟨a1, a2, a3⟩, a4, a5, a6⟩ := hS
  refine ⟨by omega, by omega, by omega, fun x hx => ?_, fun x hx => ?_, fun x hx => ?_⟩
  · obtain ⟨b1, b2⟩ := a4 x hx
    exact ⟨by omega, by omega⟩
  · obtain ⟨⟨b1, b2⟩, b3⟩ := a5 x hx
    refine ⟨by omega, fun y hy => ?_, by omega⟩
    obtain ⟨d1, d2, d3, d4, d5⟩ := b3 y hy
    exact ⟨⟨by omega, by omega, by omega⟩, by omega, by omega⟩
  · obtain ⟨b1, b2, b3, b4⟩ := a6 x hx
    exact ⟨by omega, by omega, by omega, by omega, hW.nbrs x hx, hW.links x hx⟩
theorem eachP_iff {α : Type} {m : Int} {q : α → Bool} {l : List α} : eachP m q l = true ↔ (l.length : Int) ≤ m ∧ ∀ x, x ∈ l → q x = true := by
  simp [eachP]
theorem anyS_neg {α τ : Type} (step : τ → α → Bool × τ) : ∀ (l : List α) (st : τ), (anyS (fun st x => (!(step st x).1, (step st x).2)) st l).1 = false → ∀ x, x ∈ l → ∃ st', (step st' x).1 = true
  | [], st, _, x, hx => by simp at hx
  | y :: l, st, h, x, hx => by
    simp only [anyS] at h
    split at h
    · cases h
    · rename_i hn
      rcases List.mem_cons.1 hx with rfl | hx
      · exact ⟨st, by simpa using hn⟩
      · exact anyS_neg step l _ h x hx
theorem cls_of {m : MapD} (h : mapMayB m = true) {c : Cls} (hc : c ∈ m.l) : ∃ last : Int, 0 ≤ last ∧ clsMay last c = true := by
  unfold mapMayB eachS at h
  split at h
  · simp only [Bool.not_eq_true'] at h
    obtain ⟨st, h2⟩ := anyS_neg clsStep m.l _ h c hc
    exact ⟨st.1, st.2.1, h2⟩
  · cases h
theorem within_iff {n a b : Int} : withinZ n a b = true ↔ a ≤ n ∧ n ≤ b := by simp [withinZ]
theorem cls_good {last : Int} {c : Cls} (h0 : 0 ≤ last) (h : clsMay last c = true) (hS : c.S) : c.Good := by
  simp only [clsMay, chgMay, Bool.and_eq_true, within_iff, eachP_iff] at h
  obtain ⟨⟨n1, n2⟩, _, ⟨p1, p2⟩, ⟨m1, m2⟩, ⟨o1, o2⟩, _, _, _, q⟩ := h
  obtain ⟨d1, d2, d3, d4, d5⟩ := hS
  exact ⟨by omega, by omega, by omega, by omega, by omega, by omega, by omega, by omega, fun n hn => by have := q n hn; omega, by omega, by omega⟩
theorem name_size {s : ByteArray} (h : nameB s = true) : s.size ≤ 12 := by
  simp only [nameB, Bool.and_eq_true, decide_eq_true_eq] at h
  exact h.2
theorem used_size {s : ByteArray} (h : usedB s = true) : s.size ≤ 12 := by
  simp only [usedB, Bool.or_eq_true, decide_eq_true_eq] at h
  rcases h with h | h
  · omega
  · exact name_size h
theorem unlike_name : ∀ (l pre : List ByteArray), unlikeB pre l = true → ∀ s, s ∈ l → nameB s = true
  | [], _, _, s, hs => by simp at hs
  | x :: l, pre, h, s, hs => by
    simp only [unlikeB, Bool.and_eq_true] at h
    rcases List.mem_cons.1 hs with rfl | hs
    · exact h.1.2
    · exact unlike_name l _ h.2 s hs
theorem rtr_good {x : Rtr} (h : rtrMay x = true) (hf : x.Fits) (hn : ∀ p, p ∈ x.nets → p.Ok) : x.Good := by
  simp only [rtrMay, Bool.and_eq_true, within_iff, eachP_iff] at h
  obtain ⟨⟨a1, a2⟩, ⟨b1, b2⟩, _, _, ⟨_, e⟩, ⟨_, f⟩, g, _⟩ := h
  refine ⟨by omega, by omega, hf, hn, fun n hx => ?_, fun n hx => ?_⟩
  · have q1 := e n hx
    simp only [nbrMay, Bool.and_eq_true] at q1
    have q2 := used_size q1.1
    have q3 := used_size q1.2
    have q4 := name_size (unlike_name _ _ g n.name (List.mem_map.2 ⟨n, hx, rfl⟩))
    omega
  · have q1 := f n hx
    rw [lnkMay, within_iff] at q1
    omega
structure Cfg.M (c : Cfg) : Prop where
  lists : ∀ x, x ∈ c.lists → lstMay x = true ∧ nameB x.name = true
  maps : ∀ x, x ∈ c.maps → mapMayB x = true ∧ nameB x.name = true
  routers : ∀ x, x ∈ c.routers → rtrMay x = true ∧ nameB x.name = true
theorem may_parts {c : Cfg} (h : cfgMay c = true) : c.M := by
  simp only [cfgMay, Bool.and_eq_true, eachP_iff] at h
  obtain ⟨⟨_, a⟩, ⟨_, b⟩, ⟨_, d⟩, e, f, g⟩ := h
  exact ⟨fun x hx => ⟨a x hx, unlike_name _ _ e x.name (List.mem_map.2 ⟨x, hx, rfl⟩)⟩, fun x hx => ⟨b x hx, unlike_name _ _ f x.name (List.mem_map.2 ⟨x, hx, rfl⟩)⟩, fun x hx => ⟨d x hx, unlike_name _ _ g x.name (List.mem_map.2 ⟨x, hx, rfl⟩)⟩⟩
theorem in_good {c : Cfg} (hS : c.S) (hW : c.Wf) (h : cfgMay c = true) : c.Good := by
  have hf := in_fits c hS hW
  have hm := may_parts h
  refine ⟨hf, hW.rules, fun x hx r hr => ?_, fun x hx => rtr_good (hm.routers x hx).1 (hf.rtr x hx) (hW.nets x hx)⟩
  obtain ⟨last, h0, h1⟩ := cls_of (hm.maps x hx).1 hr
  exact cls_good h0 h1 ((hS.maps x hx).2 r hr)
/-! How long. -/
theorem rep_size (n : Nat) : (repB n).size = n := by rw [repB, szL, List.length_replicate]
theorem line_size (n m : Nat) (ws : List ByteArray) (h : ∀ w, w ∈ ws → w.size ≤ m) : (lineB n ws).size ≤ n + ws.length * (m + 1) + 1 := by
  have h1 := joinOf_size m blk ws h
  rw [show blk.size = 1 from rfl] at h1
  rw [lineB, szA, szA, rep_size, show ((⟨#[10]⟩ : ByteArray)).size = 1 from rfl]
  omega
theorem semi_size (m : Nat) : ∀ ws : List ByteArray, (∀ w, w ∈ ws → w.size ≤ m) → (∀ w, w ∈ semi ws → w.size ≤ m + 1) ∧ (semi ws).length = ws.length
  | [], h => ⟨fun w hw => by simp [semi] at hw, rfl⟩
  | [x], h => ⟨fun w hw => by
      simp only [semi, List.mem_singleton] at hw
      rw [hw, szA, show ((⟨#[59]⟩ : ByteArray)).size = 1 from rfl]
      have := h x (by simp); omega, rfl⟩
  | x :: y :: r, h => by
    obtain ⟨h1, h2⟩ := semi_size m (y :: r) fun w hw => h w (List.mem_cons_of_mem _ hw)
    refine ⟨fun w hw => ?_, by simp [semi, h2]⟩
    simp only [semi, List.mem_cons] at hw
    rcases hw with rfl | hw
    · have := h w (by simp); omega
    · exact h1 w hw
theorem some_size (is : Bool) (ws : List ByteArray) (hl : ws.length ≤ 3) (h : ∀ w, w ∈ ws → w.size ≤ 60000) : (someB is ws).size ≤ 200000 := by
  unfold someB
  split
  · obtain ⟨h1, h2⟩ := semi_size 60000 ws h
    have h3 := line_size 2 60001 (semi ws) h1
    rw [h2] at h3
    have : ws.length * (60001 + 1) ≤ 3 * (60001 + 1) := Nat.mul_le_mul_right _ hl
    omega
  · rw [szE]; omega
theorem words1 {m : Nat} {a : ByteArray} (h : a.size ≤ m) : ∀ w, w ∈ [a] → w.size ≤ m := fun w hw => by rw [List.mem_singleton.1 hw]; exact h
theorem words2 {m : Nat} {a b : ByteArray} (h : a.size ≤ m) (k : b.size ≤ m) : ∀ w, w ∈ [a, b] → w.size ≤ m := fun w hw => by
  rcases List.mem_cons.1 hw with rfl | hw
  · exact h
  · exact words1 k w hw
theorem words3 {m : Nat} {a b c : ByteArray} (h : a.size ≤ m) (k : b.size ≤ m) (l : c.size ≤ m) : ∀ w, w ∈ [a, b, c] → w.size ≤ m := fun w hw => by
  rcases List.mem_cons.1 hw with rfl | hw
  · exact h
  · exact words2 k l w hw
theorem words4 {m : Nat} {a b c d : ByteArray} (h : a.size ≤ m) (k : b.size ≤ m) (l : c.size ≤ m) (j : d.size ≤ m) : ∀ w, w ∈ [a, b, c, d] → w.size ≤ m := fun w hw => by
  rcases List.mem_cons.1 hw with rfl | hw
  · exact h
  · exact words3 k l j w hw
theorem cls_size {c : Cls} (hc : c.Good) : (clsText c).size ≤ 2400000 := by
  have m1 := max0_ok hc.pref
  have m2 := max0_ok hc.med
  have l1 := hc.list
  have l2 := hc.path
  have g1 := hc.del
  have g2 := hc.add
  have g3 := hc.pre
  have q0 := digB_size c.n (by have := hc.n1; omega)
  have q1 := digB_size (max0 c.s.pref) (by omega)
  have q2 := digB_size (max0 c.s.med) (by omega)
  have q3 := comText_size c.m.c
  have q4 : (origin (max0 c.s.origin)).size ≤ 4 := by unfold origin; split; · decide
                                                      · split <;> decide
  have q5 : (joinOf blk (c.s.del.map comText)).size ≤ 60000 := by
    have x := joinOf_map comText 50 blk c.s.del (fun x _ => comText_size x); rw [show blk.size = 1 from rfl] at x; omega
  have q6 : (joinOf blk (c.s.add.map comText)).size ≤ 60000 := by
    have x := joinOf_map comText 50 blk c.s.add (fun x _ => comText_size x); rw [show blk.size = 1 from rfl] at x; omega
  have q7 : (joinOf blk (c.s.pre.map digB)).size ≤ 60000 := by
    have x := joinOf_map digB 20 blk c.s.pre (fun x hx => digB_size x (by have := hc.each x hx; omega)); rw [show blk.size = 1 from rfl] at x; omega
  have q8 : (quoted c.m.path).size ≤ 60000 := by rw [quoted, szA, szA, show ((⟨#[34]⟩ : ByteArray)).size = 1 from rfl]; omega
  have q9 : (if c.permit = true then (⟨#[112, 101, 114, 109, 105, 116]⟩ : ByteArray) else (⟨#[100, 101, 110, 121]⟩ : ByteArray)).size ≤ 60000 := by split <;> decide
  have k1 := line_size 1 60000 [if c.permit = true then (⟨#[112, 101, 114, 109, 105, 116]⟩ : ByteArray) else (⟨#[100, 101, 110, 121]⟩ : ByteArray), digB c.n, (⟨#[123]⟩ : ByteArray)] (words3 q9 (by omega) (by decide))
  have k2 := line_size 1 60000 [(⟨#[125]⟩ : ByteArray)] (words1 (by decide))
  simp only [List.length_cons, List.length_nil] at k1 k2
  have := catB_size 200000 (clsLines c) (by
    intro x hx
    simp only [clsLines, List.mem_cons, List.not_mem_nil, or_false] at hx
    rcases hx with rfl | rfl | rfl | rfl | rfl | rfl | rfl | rfl | rfl | rfl | rfl | rfl
    · omega
    · exact some_size _ _ (by simp) (words2 (by decide) (by omega))
    · exact some_size _ _ (by simp) (words2 (by decide) q8)
    · exact some_size _ _ (by simp) (words2 (by decide) (by omega))
    · exact some_size _ _ (by simp) (words2 (by decide) (by omega))
    · exact some_size _ _ (by simp) (words2 (by decide) (by omega))
    · exact some_size _ _ (by simp) (words2 (by decide) (by omega))
    · exact some_size _ _ (by simp) (words1 (by decide))
    · exact some_size _ _ (by simp) (words2 (by decide) q5)
    · exact some_size _ _ (by simp) (words2 (by decide) q6)
    · exact some_size _ _ (by simp) (words2 (by decide) q7)
    · omega)
  rw [show (clsLines c).length = 12 from rfl] at this
  exact this
theorem line_le {n m : Nat} {ws : List ByteArray} {k : Nat} (h : ∀ w, w ∈ ws → w.size ≤ m) (hk : n + ws.length * (m + 1) + 1 ≤ k) : (lineB n ws).size ≤ k := Nat.le_trans (line_size n m ws h) hk
theorem end_size : (lineB 0 [(⟨#[125]⟩ : ByteArray)]).size ≤ 60002 := line_le (m := 60000) (words1 (by decide)) (by simp)
theorem rule_size (r : Rng) (hr : r.p.Ok) : (lineB 1 [rngText r ++ (⟨#[59]⟩ : ByteArray)]).size ≤ 60003 := by
  have z := rngText_size r hr
  exact line_le (m := 60000) (words1 (by rw [szA, show ((⟨#[59]⟩ : ByteArray)).size = 1 from rfl]; omega)) (by simp)
theorem lst_size {x : LstD} (h : x.S) (hg : ∀ r, r ∈ x.l → r.p.Ok) : (lstText x).size ≤ 1500000 := by
  obtain ⟨p1, p2⟩ := h
  have k0 := end_size
  have k1 : (lineB 0 [(⟨#[112, 114, 101, 102, 105, 120, 45, 108, 105, 115, 116]⟩ : ByteArray), x.name, (⟨#[123]⟩ : ByteArray)]).size ≤ 180004 := line_le (m := 60000) (words3 (by decide) (by omega) (by decide)) (by simp)
  have k2 := catB_map (fun r => lineB 1 [rngText r ++ (⟨#[59]⟩ : ByteArray)]) 60003 x.l fun r hr => rule_size r (hg r hr)
  have k3 : x.l.length * 60003 ≤ 20 * 60003 := Nat.mul_le_mul_right _ p2
  rw [lstText, szA, szA]; omega
theorem map_size {x : MapD} (h : x.S) (hg : ∀ r, r ∈ x.l → r.Good) : (mapText x).size ≤ 50000000 := by
  obtain ⟨⟨p1, p2⟩, _⟩ := h
  have k0 := end_size
  have k1 : (lineB 0 [(⟨#[114, 111, 117, 116, 101, 45, 109, 97, 112]⟩ : ByteArray), x.name, (⟨#[123]⟩ : ByteArray)]).size ≤ 180004 := line_le (m := 60000) (words3 (by decide) (by omega) (by decide)) (by simp)
  have k2 := catB_map clsText 2400000 x.l fun r hr => cls_size (hg r hr)
  have k3 : x.l.length * 2400000 ≤ 20 * 2400000 := Nat.mul_le_mul_right _ p2
  rw [mapText, szA, szA]; omega
theorem y1s : ((⟨#[59]⟩ : ByteArray)).size = 1 := rfl
theorem two_size (a b : ByteArray) (h : a.size ≤ 60000) (k : b.size ≤ 60000) : (lineB 1 [a, b]).size ≤ 120004 := line_le (m := 60000) (words2 h k) (by simp)
theorem word_size {n : Nbr} (q : n.name.size ≤ 1000 ∧ n.imp.size ≤ 1000 ∧ n.exp.size ≤ 1000) : (nbrWord n).size ≤ 4300 := by
  have z3 : (nw1 n).size ≤ 2100 := by unfold nw1; split <;> first | omega | (simp only [szA, show ((⟨#[32, 105, 109, 112, 111, 114, 116, 32]⟩ : ByteArray)).size = 8 from rfl]; omega)
  have z4 : (nw2 n).size ≤ 4200 := by unfold nw2; split <;> first | omega | (simp only [szA, show ((⟨#[32, 101, 120, 112, 111, 114, 116, 32]⟩ : ByteArray)).size = 8 from rfl]; omega)
  unfold nbrWord; split <;> first | omega | (simp only [szA, show ((⟨#[32, 99, 108, 105, 101, 110, 116]⟩ : ByteArray)).size = 7 from rfl]; omega)
theorem rtr_size {x : Rtr} (h : x.S) (g : x.Good) (hlk : ∀ n, n ∈ x.links → n.name.size ≤ 60000) : (rtrText x).size ≤ 20000000 := by
  obtain ⟨p1, p2, p3, p4⟩ := h
  have z1 := digB_size x.asn (by have := g.asn; omega)
  have z2 := digB_size x.id (by have := g.id; omega)
  have k0 := end_size
  have k1 : (lineB 0 [(⟨#[114, 111, 117, 116, 101, 114]⟩ : ByteArray), x.name, (⟨#[123]⟩ : ByteArray)]).size ≤ 180004 := line_le (m := 60000) (words3 (by decide) (by omega) (by decide)) (by simp)
  have k2 := two_size (⟨#[97, 115]⟩ : ByteArray) (digB x.asn ++ (⟨#[59]⟩ : ByteArray)) (by decide) (by rw [szA, y1s]; omega)
  have k3 := two_size (⟨#[105, 100]⟩ : ByteArray) (digB x.id ++ (⟨#[59]⟩ : ByteArray)) (by decide) (by rw [szA, y1s]; omega)
  have k4 := catB_map (fun p => lineB 1 [(⟨#[110, 101, 116, 119, 111, 114, 107]⟩ : ByteArray), pfxText p ++ (⟨#[59]⟩ : ByteArray)]) 120004 x.nets fun p hp => by
    have z := pfxText_size p (g.nets p hp)
    exact two_size _ _ (by decide) (by rw [szA, y1s]; omega)
  have k5 := catB_map (fun n => lineB 1 [(⟨#[110, 101, 105, 103, 104, 98, 111, 114]⟩ : ByteArray), nbrWord n ++ (⟨#[59]⟩ : ByteArray)]) 120004 x.nbrs fun n hn => by
    have z := word_size (g.nbrs n hn)
    exact two_size _ _ (by decide) (by rw [szA, y1s]; omega)
  have k6 := catB_map (fun l => lineB 1 [(⟨#[108, 105, 110, 107]⟩ : ByteArray), l.name, (⟨#[99, 111, 115, 116]⟩ : ByteArray), digB l.cost ++ (⟨#[59]⟩ : ByteArray)]) 240006 x.links fun n hn => by
    have z := digB_size n.cost (by have := g.links n hn; omega)
    exact line_le (m := 60000) (words4 (by decide) (hlk n hn) (by decide) (by rw [szA, y1s]; omega)) (by simp)
  have t1 : x.nets.length * 120004 ≤ 20 * 120004 := Nat.mul_le_mul_right _ p2
  have t2 : x.nbrs.length * 120004 ≤ 20 * 120004 := Nat.mul_le_mul_right _ p3
  have t3 : x.links.length * 240006 ≤ 20 * 240006 := Nat.mul_le_mul_right _ p4
  rw [rtrText]
  simp only [szA]
  omega
theorem in_size {c : Cfg} (hS : c.S) (hg : c.Good) (hlk : ∀ x, x ∈ c.routers → ∀ n, n ∈ x.links → n.name.size ≤ 60000) : (cfgText c).size ≤ 140737488355328 := by
  obtain ⟨⟨a1, a2, a3⟩, a4, a5, a6⟩ := hS
  have h1 := catB_map lstText 1500000 c.lists fun x hx => lst_size (a4 x hx) (hg.lists x hx)
  have h2 := catB_map mapText 50000000 c.maps fun x hx => map_size (a5 x hx) (hg.maps x hx)
  have h3 := catB_map rtrText 20000000 c.routers fun x hx => rtr_size (a6 x hx) (hg.routers x hx) (hlk x hx)
  have t1 : c.lists.length * 1500000 ≤ 20 * 1500000 := Nat.mul_le_mul_right _ a1
  have t2 : c.maps.length * 50000000 ≤ 20 * 50000000 := Nat.mul_le_mul_right _ a2
  have t3 : c.routers.length * 20000000 ≤ 12 * 20000000 := Nat.mul_le_mul_right _ a3
  rw [cfgText, szA, szA]; omega
theorem in_print {c : Cfg} (hS : c.S) (hW : c.Wf) : Pure Tryz.prog 8 [eCfg c] (.tup [.str (printS c), .int .i64 (printE c)]) :=
  print_spec c (in_fits c hS hW) fun h => ⟨in_good hS hW h, in_size hS (in_good hS hW h) fun x hx n hn => by
    have h1 := ((may_parts h).routers x hx).1
    simp only [rtrMay, Bool.and_eq_true] at h1
    have := name_size (unlike_name _ _ h1.2.2.2.2.2.2.2 n.name (List.mem_map.2 ⟨n, hn, rfl⟩))
    omega⟩
/-! Parts alone. -/
theorem take_one {α : Type} [Inhabited α] {l : List α} {i : Nat} (h : i < l.length) : (l.take (i + 1)).drop i = [l.getD i default] := by
  rw [List.take_succ_eq_append_getElem h, List.drop_append, List.drop_of_length_le (by rw [List.length_take]; omega), List.length_take]
  simp [List.getD_eq_getElem?_getD, h, Nat.min_eq_left (Nat.le_of_lt h)]
theorem mem_getD {α : Type} [Inhabited α] {l : List α} {i : Nat} (h : i < l.length) : l.getD i default ∈ l := by
  rw [List.getD_eq_getElem?_getD, List.getElem?_eq_getElem h]; exact List.getElem_mem h
theorem one_nil {α : Type} (q : α → Bool) (m : Int) (h : 0 ≤ m) : eachP m q [] = true := eachP_iff.2 ⟨by simpa using h, fun x hx => by simp at hx⟩
theorem one_each {α : Type} {q : α → Bool} {m : Int} (h : 1 ≤ m) {x : α} (hx : q x = true) : eachP m q [x] = true := eachP_iff.2 ⟨by simpa using h, fun y hy => by rw [List.mem_singleton.1 hy]; exact hx⟩
theorem one_name {s : ByteArray} (h : nameB s = true) : unlikeB [] [s] = true := by simp [unlikeB, h]
theorem one_print {c : Cfg} {t : ByteArray} (hS : c.S) (hW : c.Wf) (hm : cfgMay c = true) (ht : cfgText c = t) (hz : t.size ≤ 8192) : Pure Tryz.prog 8 [eCfg c] (.tup [.str t, .int .i64 0]) := by
  have h := in_print hS hW
  have hE : printE c = 0 := by rw [printE, if_pos hm, ht, if_neg (by omega)]
  have hP : printS c = t := by rw [printS, hE, ht]; rfl
  rw [hE, hP] at h
  exact h
theorem oneL_print {c : Cfg} (hS : c.S) (hW : c.Wf) (h : cfgMay c = true) {i : Nat} (hi : i < c.lists.length) (hz : (lstText (c.lists.getD i default)).size ≤ 8192) :
    Pure Tryz.prog 8 [eCfg (oneL c i)] (.tup [.str (lstText (c.lists.getD i default)), .int .i64 0]) := by
  have hp := may_parts h
  have hm := mem_getD hi
  unfold oneL
  rw [take_one hi]
  refine one_print ?_ ⟨fun x hx => by rw [List.mem_singleton.1 hx]; exact hW.rules _ hm, fun x hx => by simp at hx, fun x hx => by simp at hx, fun x hx => by simp at hx⟩ ?_ ?_ hz
  · exact ⟨⟨by simp, by simp, by simp⟩, fun x hx => by rw [List.mem_singleton.1 hx]; exact hS.lists _ hm, fun x hx => by simp at hx, fun x hx => by simp at hx⟩
  · simp only [cfgMay, List.map_cons, List.map_nil, one_each (m := 16) (q := lstMay) (by decide) (hp.lists _ hm).1, one_nil, one_name (hp.lists _ hm).2]
    first | rfl | (simp [eachP, unlikeB])
  · simp only [cfgText, List.map_cons, List.map_nil, catB, emA, eA]
theorem oneM_print {c : Cfg} (hS : c.S) (hW : c.Wf) (h : cfgMay c = true) {i : Nat} (hi : i < c.maps.length) (hz : (mapText (c.maps.getD i default)).size ≤ 8192) :
    Pure Tryz.prog 8 [eCfg (oneM c i)] (.tup [.str (mapText (c.maps.getD i default)), .int .i64 0]) := by
  have hp := may_parts h
  have hm := mem_getD hi
  unfold oneM
  rw [take_one hi]
  refine one_print ?_ ⟨fun x hx => by simp at hx, fun x hx => by simp at hx, fun x hx => by simp at hx, fun x hx => by simp at hx⟩ ?_ ?_ hz
  · exact ⟨⟨by simp, by simp, by simp⟩, fun x hx => by simp at hx, fun x hx => by rw [List.mem_singleton.1 hx]; exact hS.maps _ hm, fun x hx => by simp at hx⟩
  · simp only [cfgMay, List.map_cons, List.map_nil, one_each (m := 16) (q := mapMayB) (by decide) (hp.maps _ hm).1, one_nil, one_name (hp.maps _ hm).2]
    first | rfl | (simp [eachP, unlikeB])
  · simp only [cfgText, List.map_cons, List.map_nil, catB, emA, eA]
theorem oneR_print {c : Cfg} (hS : c.S) (hW : c.Wf) (h : cfgMay c = true) {i : Nat} (hi : i < c.routers.length) (hz : (rtrText (c.routers.getD i default)).size ≤ 8192) :
    Pure Tryz.prog 8 [eCfg (oneR c i)] (.tup [.str (rtrText (c.routers.getD i default)), .int .i64 0]) := by
  have hp := may_parts h
  have hm := mem_getD hi
  unfold oneR
  rw [take_one hi]
  refine one_print ?_ ⟨fun x hx => by simp at hx, fun x hx => by rw [List.mem_singleton.1 hx]; exact hW.nets _ hm, fun x hx => by rw [List.mem_singleton.1 hx]; exact hW.nbrs _ hm, fun x hx => by rw [List.mem_singleton.1 hx]; exact hW.links _ hm⟩ ?_ ?_ hz
  · exact ⟨⟨by simp, by simp, by simp⟩, fun x hx => by simp at hx, fun x hx => by simp at hx, fun x hx => by rw [List.mem_singleton.1 hx]; exact hS.routers _ hm⟩
  · simp only [cfgMay, List.map_cons, List.map_nil, one_each (m := 8) (q := rtrMay) (by decide) (hp.routers _ hm).1, one_nil, one_name (hp.routers _ hm).2]
    first | rfl | (simp [eachP, unlikeB])
  · simp only [cfgText, List.map_cons, List.map_nil, catB, emA, eA]
end Go.Proofs.YtaealcimocpnnaaGreat
