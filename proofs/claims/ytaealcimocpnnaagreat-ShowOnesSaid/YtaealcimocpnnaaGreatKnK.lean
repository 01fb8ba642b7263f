/- The abstract layer, eleventh part: make and append of slices. Conditions: none. -/
import Derived.Test.YtaealcimocpnnaaGreatKnJ
import Derived.Laws.MakeOwn
set_option linter.unusedVariables false
set_option linter.unusedSimpArgs false
namespace Go.Kern
open Go.RowKit

/-- The ghost state where a growing slice has come to length n. -/
def Gh.addTip (g : Gh) (o n : Nat) (v : Value) (b : Nat) (cs : List Value) : Gh :=
  { g with imm := fun b' i => if b' = b ∧ i < cs.length then cs[i]? else g.imm b' i, tipv := fun p m => if p = o ∧ m = n then some v else g.tipv p m }

theorem Gh.Le_addTip {g : Gh} {o n : Nat} {v : Value} {b : Nat} {cs : List Value} (ht : g.tipv o n = none) (hi : ∀ i u, i < cs.length → g.imm b i = some u → cs[i]? = some u) : g.Le (g.addTip o n v b cs) :=
  ⟨rfl, fun b' i u h => by
    simp only [Gh.addTip]
    split
    · rename_i hc; obtain ⟨rfl, hl⟩ := hc; exact hi i u hl h
    · exact h, fun _ _ h => h, fun p m u h => by
    simp only [Gh.addTip]
    split
    · rename_i hc; obtain ⟨rfl, rfl⟩ := hc; rw [ht] at h; cases h
    · exact h, rfl⟩

/-- Where the object was before: nowhere, or a tip at a smaller length. -/
def TipBefore (g : Gh) (σ : Store) (o n : Nat) (e : TypeId) (sz : Nat) : Prop :=
  (σ o = none ∧ g.loc o = none ∧ (∀ m, g.tipv o m = none) ∧ ¬ g.res o) ∨ (∃ n0, σ o = some (.tip n0 e sz) ∧ n0 < n ∧ ∀ m, n0 < m → g.tipv o m = none)

theorem TipBefore.later {g : Gh} {σ : Store} {o n : Nat} {e : TypeId} {sz : Nat} (h : TipBefore g σ o n e sz) : ∀ m, n ≤ m → g.tipv o m = none := by
  rcases h with ⟨_, _, h, _⟩ | ⟨n0, _, hn, h⟩
  · exact fun m _ => h m
  · exact fun m hm => h m (by omega)

theorem fresh_put {g : Gh} {σ : Store} {N o : Nat} (hN : ∀ p, N ≤ p → g.loc p = none ∧ (∀ m, g.tipv p m = none) ∧ σ p = none ∧ ¬ g.res p) (n : Nat) (v : Value) (b : Nat) (cs : List Value) (x : Ob) :
    ∃ N, ∀ p, N ≤ p → (g.addTip o n v b cs).loc p = none ∧ (∀ m, (g.addTip o n v b cs).tipv p m = none) ∧ (σ.put o x) p = none ∧ ¬ (g.addTip o n v b cs).res p := by
  refine ⟨max N (o + 1), fun p hp => ?_⟩
  have hpo : p ≠ o := by omega
  have := hN p (by omega)
  exact ⟨this.1, fun m => by simp only [Gh.addTip]; rw [if_neg (fun h => hpo h.1)]; exact this.2.1 m, by simp only [Store.put]; rw [if_neg hpo]; exact this.2.2.1, this.2.2.2⟩

theorem res_put {g : Gh} {w : World} {σ : Store} (hc : Conc g w σ) {o n : Nat} (hno : ¬ g.res o) (v : Value) (b : Nat) (cs : List Value) (x : Ob) :
    ∀ p, (g.addTip o n v b cs).res p → (g.addTip o n v b cs).loc p = none ∧ (∀ m, (g.addTip o n v b cs).tipv p m = none) ∧ (σ.put o x) p = none := by
  intro p hp
  have hp' : g.res p := hp
  have hpo : p ≠ o := fun e => hno (by rw [← e]; exact hp')
  have := hc.res p hp'
  exact ⟨this.1, fun m => by simp only [Gh.addTip]; rw [if_neg (fun h => hpo h.1)]; exact this.2.1 m, by simp only [Store.put]; rw [if_neg hpo]; exact this.2.2⟩

theorem TipBefore.nores {g : Gh} {w : World} {σ : Store} (hc : Conc g w σ) {o n : Nat} {e : TypeId} {sz : Nat} (h : TipBefore g σ o n e sz) : ¬ g.res o := by
  rcases h with ⟨_, _, _, h⟩ | ⟨n0, ho, _, _⟩
  · exact h
  · intro hr; rw [(hc.res o hr).2.2] at ho; cases ho

/-- In a new block. -/
theorem tip_new {g : Gh} {w w' : World} {σ : Store} (hc : Conc g w σ) (hb : Below w.heap.size w w') {o n : Nat} {e : TypeId} {sz cap : Nat} {cur : Array Value} {cs : List Value}
    (hh : w'.heap[w.heap.size]? = some (.cells cur e (0, 0))) (hn : n ≤ cap) (hcm : cap ≤ maxLen) (hcs : cur.size = cap * sz) (hl : cs.length = n * sz) (htk : cur.toList.take (n * sz) = cs) (hbef : TipBefore g σ o n e sz) :
    ∃ g', g.Le g' ∧ Conc g' w' (σ.put o (.tip n e sz)) ∧ g'.tipv o n = some (.slice (some ⟨w.heap.size, 0, none⟩) n cap) ∧ (∀ i v, cs[i]? = some v → g'.imm w.heap.size i = some v) := by
  have hnone : ∀ i, g.imm w.heap.size i = none := fun i => by
    cases hi : g.imm w.heap.size i with
    | none => rfl
    | some v => exact absurd (hc.imm_lt hi) (Nat.lt_irrefl _)
  have hlater := hbef.later
  have hle : g.Le (g.addTip o n (.slice (some ⟨w.heap.size, 0, none⟩) n cap) w.heap.size cs) := Gh.Le_addTip (hlater n (Nat.le_refl _)) (fun i u _ h => by rw [hnone i] at h; cases h)
  have hgrow := hc.grow hb
  refine ⟨_, hle, ⟨hgrow.below, fun b i v hi => ?_, hgrow.loc, ?_, res_put hgrow (hbef.nores hc) _ _ _ _, ?_⟩, by simp [Gh.addTip], fun i v hv => ?_⟩
  · simp only [Gh.addTip] at hi
    split at hi
    · rename_i hcd
      obtain ⟨rfl, hlt⟩ := hcd
      rw [← htk, List.getElem?_take] at hi
      split at hi
      · simp only [World.cell?, hh]
        simpa using hi
      · cases hi
    · exact hgrow.imm b i v hi
  · obtain ⟨N, hN⟩ := hgrow.fresh
    exact fresh_put hN _ _ _ _ _
  · obtain ⟨blk, h1, h2⟩ := hc.obj
    refine ⟨fun p => if p = o then w.heap.size else blk p, fun p x hp => ?_, fun p q x y hp hq he => ?_⟩
    · simp only [Store.put] at hp
      by_cases hpo : p = o
      · subst hpo
        rw [if_pos rfl] at hp
        injection hp with hp
        subst hp
        simp only [if_pos]
        refine ⟨hc.below.size, cap, cur, by simp [Gh.addTip], fun m hm => ?_, hh, hn, hcm, hcs, fun off ho => ?_⟩
        · simp only [Gh.addTip]; rw [if_neg (by omega)]; exact hlater m (by omega)
        · simp only [Gh.addTip]; rw [if_neg (by omega)]; exact hnone off
      · rw [if_neg hpo] at hp
        simp only [if_neg hpo]
        have hlt := (h1 p x hp).2.lt
        exact ⟨(h1 p x hp).1, (h1 p x hp).2.keep hle (hb.block _ hlt) (fun off => by simp only [Gh.addTip]; rw [if_neg (by omega)]) (fun m => by simp only [Gh.addTip]; rw [if_neg (fun h => hpo h.1)])⟩
    · simp only [Store.put] at hp hq
      by_cases hpo : p = o <;> by_cases hqo : q = o
      · rw [hpo, hqo]
      · rw [if_neg hqo] at hq
        simp only [if_pos hpo, if_neg hqo] at he
        exact absurd (h1 q y hq).2.lt (by omega)
      · rw [if_neg hpo] at hp
        simp only [if_neg hpo, if_pos hqo] at he
        exact absurd (h1 p x hp).2.lt (by omega)
      · rw [if_neg hpo] at hp; rw [if_neg hqo] at hq
        simp only [if_neg hpo, if_neg hqo] at he
        exact h2 p q x y hp hq he
  · simp only [Gh.addTip]
    rw [if_pos ⟨trivial, (List.getElem?_eq_some_iff.1 hv).1⟩]
    exact hv

/-- In the block where it lies. -/
theorem tip_in {g : Gh} {w : World} {σ : Store} (hc : Conc g w σ) {o n0 n : Nat} {e : TypeId} {sz b cap : Nat} {cur : Array Value} {news : List Value} (ho : σ o = some (.tip n0 e sz)) (hlt : n0 < n)
    (htip : g.tipv o n0 = some (.slice (some ⟨b, 0, none⟩) n0 cap)) (hh : w.heap[b]? = some (.cells cur e (0, 0))) (hn : n ≤ cap) (hcs : cur.size = cap * sz) (hl : n0 * sz + news.length = n * sz) :
    ∃ g', g.Le g' ∧ Conc g' (w.setRow b (cur.toList.take (n0 * sz) ++ news ++ cur.toList.drop (n0 * sz + news.length)).toArray) (σ.put o (.tip n e sz)) ∧ g'.tipv o n = some (.slice (some ⟨b, 0, none⟩) n cap) ∧
      (∀ i v, (cur.toList.take (n0 * sz) ++ news)[i]? = some v → g'.imm b i = some v) := by
  obtain ⟨blk, h1, h2⟩ := hc.obj
  obtain ⟨hB, cap', cur', ht', hlater, hh', _, hcm, hcs', him⟩ := h1 o _ ho
  rw [htip] at ht'
  injection ht' with ht'
  injection ht' with e1 e2 e3
  injection e1 with e1
  injection e1 with e1
  subst e3
  have hbo : blk o = b := e1.symm
  rw [hbo] at him hB
  have hmul : n * sz ≤ cap * sz := Nat.mul_le_mul_right _ hn
  have hlen0 : (cur.toList.take (n0 * sz)).length = n0 * sz := by rw [List.length_take, Array.length_toList, hcs]; omega
  have himm : ∀ i u, g.imm b i = some u → (cur.toList.take (n0 * sz) ++ news)[i]? = some u := by
    intro i u hi
    have hi0 : i < n0 * sz := by
      rcases Nat.lt_or_ge i (n0 * sz) with h | h
      · exact h
      · rw [him i h] at hi; cases hi
    have := hc.imm _ _ _ hi
    simp only [World.cell?, hh] at this
    rw [List.getElem?_append_left (by omega), List.getElem?_take, if_pos hi0]
    simpa using this
  have hle : g.Le (g.addTip o n (.slice (some ⟨b, 0, none⟩) n cap) b (cur.toList.take (n0 * sz) ++ news)) := Gh.Le_addTip (hlater n hlt) (fun i u _ h => himm i u h)
  have hheap := setRow_heap w b cur (cur.toList.take (n0 * sz) ++ news ++ cur.toList.drop (n0 * sz + news.length)).toArray e _ hh
  have hoth : ∀ k, k ≠ b → (w.setRow b (cur.toList.take (n0 * sz) ++ news ++ cur.toList.drop (n0 * sz + news.length)).toArray).heap[k]? = w.heap[k]? := fun k hk => setRow_other w b k _ hk
  have hlen2 : (cur.toList.take (n0 * sz) ++ news).length = n * sz := by rw [List.length_append, hlen0, hl]
  refine ⟨_, hle, ⟨hc.below.trans ⟨rfl, rfl, rfl, by rw [setRow_size]; exact Nat.le_refl _, fun k hk => hoth k (by omega)⟩, fun b' i v hi => ?_, fun p b' sz' n' hl' => ⟨(hc.loc p b' sz' n' hl').1, by rw [setRow_size]; exact (hc.loc p b' sz' n' hl').2⟩, ?_, res_put hc (fun hr => by rw [(hc.res o hr).2.2] at ho; cases ho) _ _ _ _, ?_⟩, by simp [Gh.addTip], fun i v hv => ?_⟩
  · simp only [Gh.addTip] at hi
    split at hi
    · rename_i hcd
      obtain ⟨rfl, hlt'⟩ := hcd
      simp only [World.cell?, hheap]
      rw [List.getElem?_toArray, List.getElem?_append_left hlt']
      simpa using hi
    · rename_i hnc
      by_cases hbb : b' = b
      · subst hbb
        have := himm i v hi
        exact absurd ⟨rfl, (List.getElem?_eq_some_iff.1 this).1⟩ hnc
      · exact (World.cell?_of_block (a := ⟨b', i, none⟩) (hoth b' hbb)).trans (hc.imm b' i v hi)
  · obtain ⟨N, hN⟩ := hc.fresh
    exact fresh_put hN _ _ _ _ _
  · refine ⟨blk, fun p x hp => ?_, fun p q x y hp hq he => ?_⟩
    · simp only [Store.put] at hp
      by_cases hpo : p = o
      · subst hpo
        rw [if_pos rfl] at hp
        injection hp with hp
        subst hp
        rw [hbo]
        refine ⟨hB, cap, _, by simp [Gh.addTip], fun m hm => ?_, hheap, hn, hcm, ?_, fun off hoff => ?_⟩
        · simp only [Gh.addTip]; rw [if_neg (by omega)]; exact hlater m (by omega)
        · simp only [List.size_toArray, List.length_append, List.length_drop, Array.length_toList, hlen0, hcs]; omega
        · simp only [Gh.addTip]; rw [if_neg (by omega)]; exact him off (by omega)
      · rw [if_neg hpo] at hp
        have hne : blk p ≠ b := fun e => hpo (h2 p o x _ hp ho (by rw [e, hbo]))
        exact ⟨(h1 p x hp).1, (h1 p x hp).2.keep hle (hoth _ hne) (fun off => by simp only [Gh.addTip]; rw [if_neg (fun h => hne h.1)]) (fun m => by simp only [Gh.addTip]; rw [if_neg (fun h => hpo h.1)])⟩
    · have hp' : ∃ u', σ p = some u' := by
        simp only [Store.put] at hp
        by_cases hpo : p = o
        · subst hpo; exact ⟨_, ho⟩
        · rw [if_neg hpo] at hp; exact ⟨x, hp⟩
      have hq' : ∃ u', σ q = some u' := by
        simp only [Store.put] at hq
        by_cases hqo : q = o
        · subst hqo; exact ⟨_, ho⟩
        · rw [if_neg hqo] at hq; exact ⟨y, hq⟩
      exact h2 p q _ _ hp'.choose_spec hq'.choose_spec he
  · simp only [Gh.addTip]
    rw [if_pos ⟨trivial, (List.getElem?_eq_some_iff.1 hv).1⟩]
    exact hv

/-- A slice's cells, as values. -/
theorem sl_cells {g : Gh} {w : World} {σ : Store} (hc : Conc g w σ) {kd : SK} {xs : List AV} {v : Value} (h : R g (.sl kd xs) v) :
    ∃ A cap, v = .slice A xs.length cap ∧ xs.length ≤ cap ∧ (A = none → v = .slice none 0 0 ∧ xs = [] ∧ kd = .nil) ∧ (kd = .full → cap = xs.length) ∧ (kd = .nil → A = none) ∧
      ∃ cs : List Value, cs.length = (cellsL xs).length ∧ (∀ (i : Nat) (c : AV) (u : Value), (cellsL xs)[i]? = some c → cs[i]? = some u → R g c u) ∧ (∀ a, A = some a → ∀ j u, cs[j]? = some u → w.cell? (a.add j) = some u) := by
  cases h with
  | slnil => exact ⟨none, 0, rfl, Nat.le_refl _, fun _ => ⟨rfl, rfl, rfl⟩, nofun, fun _ => rfl, [], rfl, (fun i c u h => by simp [cellsL] at h), nofun⟩
  | sl hk hs hu hi hr =>
    rename_i a cap sz vs
    have hcap : xs.length ≤ cap ∧ (kd = .full → cap = xs.length) ∧ kd ≠ .nil := by
      cases kd with
      | nil => exact hk.elim
      | imm => exact ⟨hk, nofun, nofun⟩
      | full => have e : cap = xs.length := hk; exact ⟨by omega, fun _ => e, nofun⟩
      | tip o => exact ⟨hk.1, nofun, nofun⟩
    refine ⟨some a, cap, rfl, hcap.1, nofun, hcap.2.1, fun h => absurd h hcap.2.2, (List.range (cellsL xs).length).map vs, by simp, fun i c u h1 h2 => ?_, fun a' ha' j u hj => ?_⟩
    · have hlt : i < (cellsL xs).length := (List.getElem?_eq_some_iff.1 h1).1
      simp [hlt] at h2
      subst h2
      exact hr i c h1
    · injection ha' with ha'
      subst ha'
      have hlt : j < (cellsL xs).length := by have := (List.getElem?_eq_some_iff.1 hj).1; simpa using this
      simp [hlt] at hj
      subst hj
      have hne : xs ≠ [] := by rintro rfl; simp [cellsL] at hlt
      rw [add_spot (hs hne)]
      exact hc.imm _ _ _ (hi j hlt)

theorem R_tip {g : Gh} {o b cap sz : Nat} {xs : List AV} {cs : List Value} (ht : g.tipv o xs.length = some (.slice (some ⟨b, 0, none⟩) xs.length cap)) (hcap : xs.length ≤ cap) (hu : ∀ x ∈ xs, x.cells.length = sz)
    (hl : cs.length = (cellsL xs).length) (hr : ∀ (i : Nat) (c : AV) (u : Value), (cellsL xs)[i]? = some c → cs[i]? = some u → R g c u) (hi : ∀ i v, cs[i]? = some v → g.imm b i = some v) : R g (.sl (.tip o) xs) (.slice (some ⟨b, 0, none⟩) xs.length cap) := by
  refine .sl (sz := sz) (vs := fun i => cs.getD i undef) ⟨hcap, ht⟩ (fun _ => rfl) hu (fun i hlt => ?_) (fun i c hic => ?_)
  · simp only [Nat.zero_add]
    exact hi i _ (by simp [List.getD_eq_getElem?_getD, show i < cs.length by omega])
  · have hlt : i < (cellsL xs).length := (List.getElem?_eq_some_iff.1 hic).1
    exact hr i c _ hic (by simp [List.getD_eq_getElem?_getD, show i < cs.length by omega])

theorem cellsL_append (xs ys : List AV) : cellsL (xs ++ ys) = cellsL xs ++ cellsL ys := by simp [cellsL]

theorem append_R {g g' : Gh} (hle : g.Le g') {xs ys : List AV} {cs ds : List Value} (hl : cs.length = (cellsL xs).length) (h1 : ∀ (i : Nat) (c : AV) (u : Value), (cellsL xs)[i]? = some c → cs[i]? = some u → R g c u)
    (h2 : ∀ (i : Nat) (c : AV) (u : Value), (cellsL ys)[i]? = some c → ds[i]? = some u → R g c u) : ∀ (i : Nat) (c : AV) (u : Value), (cellsL (xs ++ ys))[i]? = some c → (cs ++ ds)[i]? = some u → R g' c u := by
  intro i c u hc hu
  rw [cellsL_append, List.getElem?_append] at hc
  rw [List.getElem?_append, hl] at hu
  split at hc
  · rename_i q; rw [if_pos q] at hu; exact (h1 i c u hc hu).le hle
  · rename_i q; rw [if_neg q] at hu; exact (h2 _ c u hc hu).le hle

theorem cells_oneV {g : Gh} {xs : List AV} {cs : List Value} (hl : cs.length = (cellsL xs).length) (hr : ∀ (i : Nat) (c : AV) (u : Value), (cellsL xs)[i]? = some c → cs[i]? = some u → R g c u) (h1 : ∀ x ∈ xs, x.cells.all AV.one = true) : ∀ u ∈ cs, u.oneCell' = true := by
  intro u hu
  obtain ⟨i, hi, rfl⟩ := List.getElem_of_mem hu
  have hi' : i < (cellsL xs).length := by omega
  refine (hr i _ _ (List.getElem?_eq_getElem hi') (List.getElem?_eq_getElem hi)).one ?_
  have hm := List.getElem_mem hi'
  unfold cellsL at hm
  rw [List.mem_flatMap] at hm
  obtain ⟨x, hx, hc⟩ := hm
  exact List.all_eq_true.1 (h1 x hx) _ hc

/-- A new block with rows that may be written. -/
theorem arr_new {g : Gh} {w : World} {σ : Store} (hc : Conc g w σ) {e : TypeId} {rows : List AV} {cs : List Value} {sz gc : Nat} {z : Array Value} (hz : z.size = sz) (hu : ∀ r ∈ rows, r.cells.length = sz) (hl : cs.length = rows.length * sz)
    (hr : ∀ (i : Nat) (c : AV) (u : Value), (cellsL rows)[i]? = some c → cs[i]? = some u → R g c u) (hge : rows.length ≤ gc) {o : Nat} (ho : σ o = none) (hol : g.loc o = none) (hot : ∀ m, g.tipv o m = none) (hor : ¬ g.res o) :
    Conc (g.addLoc o (w.heap.size, sz, gc)) (w.drew.alloc (.cells (cs.toArray ++ Builtin.zeroCells z (gc - rows.length)) e)) (σ.put o (.arr e rows)) ∧
      R (g.addLoc o (w.heap.size, sz, gc)) (.ms o sz 0 rows.length) (.slice (some ⟨w.heap.size, 0, none⟩) rows.length gc) := by
  have hsz : (cs.toArray ++ Builtin.zeroCells z (gc - rows.length)).size = gc * sz := by
    simp only [Array.size_append, List.size_toArray, size_zeroCells, hz, hl, ← Nat.add_mul]
    congr 1
    omega
  refine ⟨hc.addObj (w' := w.drew.alloc (.cells (cs.toArray ++ Builtin.zeroCells z (gc - rows.length)) e)) ((Below.refl _ _).drew.alloc (Nat.le_refl _) _) (by simp) o hol ho hot hor (.arr e rows) sz gc (fun g' hle hl' him =>
    ⟨sz, _, ⟨gc, hl', hsz⟩, heap_alloc_new w.drew _, hu, by rw [hsz]; exact Nat.mul_le_mul_right _ hge, fun i c u hci hui => ?_, him⟩), .ms (b := w.heap.size) (n := gc) (by simp [Gh.addLoc]) (by omega) hge (fun _ => by rw [Nat.zero_mul])⟩
  have hlt := (List.getElem?_eq_some_iff.1 hci).1
  rw [cellsL_length rows hu] at hlt
  rw [Array.getElem?_append_left (by simpa [hl] using hlt)] at hui
  exact (hr i c u hci (by simpa using hui)).le hle

theorem run_append_room3 {P : Program} {w : World} {t tx ty e e2 : TypeId} {i : TypeInfo} (ht : P.underlying t = some (.slice e)) (hi : P.info? e = some i)
    (g sLen sCap : Nat) (cur : Array Value) (hg : w.heap[g]? = some (.cells cur e2 (0, 0)))
    (x : Value) (m : Nat) (news : List Value) (hs : Src P i.size tx x m news w)
    (hroom : sLen + m ≤ sCap) (hfit : sLen * i.size + news.length ≤ cur.size) :
    (Builtin.append_ #[t, tx] ty #[.slice (some ⟨g, 0, none⟩) sLen sCap, x]).run P w =
      .ok (.slice (some ⟨g, 0, none⟩) (sLen + m) sCap) (w.setRow g (cur.toList.take (sLen * i.size) ++ news ++ cur.toList.drop (sLen * i.size + news.length)).toArray) := by
  have hst := run_storeCells_at P g (sLen * i.size) e2 news 0 cur w hg (by simpa using hfit) hs.one
  simp only [Nat.add_zero] at hst
  rcases hs.kind with ⟨e', hk⟩ | hk <;> simp [Builtin.append_, run_underlying ht, run_underlying hk, sizeOf, typeInfo, hi, hs.len, hroom, hs.cells, Addr.add_lit, hst]
theorem run_append_zero3 {P : Program} {w : World} {t tx ty e : TypeId} {i : TypeInfo} (ht : P.underlying t = some (.slice e)) (hi : P.info? e = some i)
    (a : Option Addr) (sLen sCap : Nat) (x : Value) (hs : Src P i.size tx x 0 [] w) (hroom : sLen ≤ sCap) :
    (Builtin.append_ #[t, tx] ty #[.slice a sLen sCap, x]).run P w = .ok (.slice a sLen sCap) w := by
  rcases hs.kind with ⟨e', hk⟩ | hk <;> cases a <;> simp [Builtin.append_, run_underlying ht, run_underlying hk, sizeOf, typeInfo, hi, hs.len, hroom, hs.cells, storeCells]

theorem Src_sl {P : Program} {g : Gh} {w : World} {σ : Store} (hc : Conc g w σ) {ky : SK} {ys : List AV} {u : Value} (hy : R g (.sl ky ys) u) {size : Nat} (hys : ∀ z ∈ ys, z.known = true ∧ z.cells.length = size ∧ z.cells.all AV.one = true) {tx e : TypeId} (hk : P.underlying tx = some (.slice e)) :
    ∃ ds, Src P size tx u ys.length ds w ∧ ds.length = (cellsL ys).length ∧ ∀ (i : Nat) (c : AV) (v : Value), (cellsL ys)[i]? = some c → ds[i]? = some v → R g c v := by
  obtain ⟨B, cap2, rfl, hcap2, hBn, _, _, ds, hdl, hdr, hdc⟩ := sl_cells hc hy
  have hdl' : ds.length = ys.length * size := by rw [hdl, cellsL_length ys (fun q hq => (hys q hq).2.1)]
  have hd1 := cells_oneV hdl hdr (fun q hq => (hys q hq).2.2)
  refine ⟨ds, ?_, hdl, hdr⟩
  cases B with
  | none =>
    obtain ⟨e1, rfl, _⟩ := hBn rfl
    have : ds = [] := List.eq_nil_of_length_eq_zero (by simpa using hdl')
    subst this
    exact Src.ofNil w hk cap2
  | some b => exact Src.ofSlice w hk b ys.length cap2 ds hdl' (hdc b rfl) hd1

/-- append to what may be written: in its block, or in a new one; what was there is not looked at any more. -/
theorem append_ms {P : Program} {g : Gh} {w : World} {σ : Store} (hc : Conc g w σ) {t ty : TypeId} {i : TypeInfo} {z : Value} (hu : P.underlying t = some (.slice (tyOf P t).elem)) (i1 : P.info? (tyOf P t).elem = some i) (hz : i.zero = some z) (hzs : z.cells.size = i.size) (hpos : 0 < i.size)
    {o n : Nat} {tx : TypeId} {ys rows : List AV} {v u : Value} {ds : List Value} (hx : R g (.ms o i.size 0 n) v) (hs : Src P i.size tx u ys.length ds w) (hdl : ds.length = (cellsL ys).length) (hdr : ∀ (i : Nat) (c : AV) (u : Value), (cellsL ys)[i]? = some c → ds[i]? = some u → R g c u) (hys : ∀ z ∈ ys, z.known = true ∧ z.cells.length = i.size ∧ z.cells.all AV.one = true)
    (hbytes : (n + ys.length) * i.bytes ≤ 140737488355328) (hlen : n + ys.length ≤ 140737488355328) (ho : σ o = some (.arr (tyOf P t).elem rows)) {k : KK}
    {o' : Nat} (ho' : σ o' = none) (hol : g.loc o' = none) (hot : ∀ m, g.tipv o' m = none) (hor : ¬ g.res o')
    (hk : n ≤ rows.length ∧ (if ys = [] then k (.ms o i.size 0 n) σ else k (.ms o' i.size 0 (n + ys.length)) ((σ.drop o).put o' (.arr (tyOf P t).elem (rows.take n ++ ys))))) :
    ∃ r w' g' a σ', (Builtin.append_ #[t, tx] ty #[v, u]).run P w = .ok r w' ∧ g.Le g' ∧ Conc g' w' σ' ∧ R g' a r ∧ k a σ' := by
  obtain ⟨hnr, hk⟩ := hk
  have hdl' : ds.length = ys.length * i.size := by rw [hdl, cellsL_length ys (fun q hq => (hys q hq).2.1)]
  have hd1 := cells_oneV hdl hdr (fun q hq => (hys q hq).2.2)
  cases hx with
  | ms hb hcc hln ha =>
    rename_i b nn cap a
    by_cases hy0 : ys = []
    · subst hy0
      rw [if_pos rfl] at hk
      refine ⟨_, w, g, _, σ, ?_, .refl g, hc, .ms hb hcc hln ha, hk⟩
      have hds0 : ds = [] := List.eq_nil_of_length_eq_zero (by simpa using hdl')
      subst hds0
      exact run_append_zero3 hu i1 a n cap u hs hln
    · rw [if_neg hy0] at hk
      have hy1 : 0 < ys.length := by
        rcases Nat.eq_zero_or_pos ys.length with h | h
        · exact absurd (List.eq_nil_of_length_eq_zero h) hy0
        · exact h
      obtain ⟨blk, q1, q2⟩ := hc.obj
      obtain ⟨hB, sz', cells, ⟨n', hl, hcn⟩, hh, hun, hle, hrr, him⟩ := q1 o _ ho
      rw [hb] at hl
      injection hl with hl
      injection hl with hl1 hl2
      injection hl2 with hl2 hl3
      subst hl2; subst hl3
      rw [← hl1] at hh him hB
      have htk : (rows.take n).length = n := by rw [List.length_take]; omega
      have huni : ∀ q ∈ rows.take n ++ ys, q.cells.length = i.size := by
        intro q hq
        rcases List.mem_append.1 hq with h | h
        · exact hun q (List.mem_of_mem_take h)
        · exact (hys q h).2.1
      have hmn : n * i.size ≤ rows.length * i.size := Nat.mul_le_mul_right _ hnr
      have hcl1 : (cellsL (rows.take n)).length = n * i.size := by rw [cellsL_length _ (fun q hq => hun q (List.mem_of_mem_take hq)), htk]
      have hpre : ∀ (j : Nat) (c : AV), (cellsL (rows.take n))[j]? = some c → (cellsL rows)[j]? = some c := by
        intro j c hj
        have e : cellsL rows = cellsL (rows.take n) ++ cellsL (rows.drop n) := by rw [← cellsL_append, List.take_append_drop]
        rw [e, List.getElem?_append_left ((List.getElem?_eq_some_iff.1 hj).1)]
        exact hj
      have hcs1 : (cells.toList.take (n * i.size)).length = n * i.size := by rw [List.length_take, Array.length_toList]; omega
      have hold : ∀ (j : Nat) (c : AV) (u : Value), (cellsL (rows.take n))[j]? = some c → (cells.toList.take (n * i.size))[j]? = some u → R g c u := by
        intro j c u hj hu'
        have hlt := (List.getElem?_eq_some_iff.1 hj).1
        rw [List.getElem?_take, if_pos (by omega)] at hu'
        exact hrr j c u (hpre j c hj) (by simpa using hu')
      by_cases hroom : n + ys.length ≤ cap
      · have hae := ha (by omega)
        rw [Nat.zero_mul] at hae
        subst hae
        have hmul : (n + ys.length) * i.size ≤ nn * i.size := Nat.mul_le_mul_right _ (by omega)
        rw [Nat.add_mul] at hmul
        -- in place: written, then named anew
        have hlen2 : (cells.toList.take (n * i.size) ++ ds ++ cells.toList.drop (n * i.size + ds.length)).toArray.size = nn * i.size := by
          simp only [List.size_toArray, List.length_append, List.length_drop, Array.length_toList, hcs1, hcn, hdl']; omega
        · have hr := run_append_room3 (P := P) (w := w) (ty := ty) (e2 := (tyOf P t).elem) hu i1 b n cap cells hh u ys.length ds hs hroom (by rw [hdl', hcn]; omega)
          have hw := hc.write (w' := w.setRow b (cells.toList.take (n * i.size) ++ ds ++ cells.toList.drop (n * i.size + ds.length)).toArray) (y := .arr (tyOf P t).elem (rows.take n ++ ys)) (b := b) ho (fun blk' hb' => by
            obtain ⟨sz2, cells2, ⟨n2, hl2, _⟩, _⟩ := hb'
            rw [hb] at hl2
            injection hl2 with hl2
            injection hl2 with hl2 _
            exact hl2.symm) (fun q hq => setRow_other w b q _ hq) rfl rfl rfl (setRow_size w b _) him
            ⟨i.size, _, ⟨nn, hb, hlen2⟩, setRow_heap w b cells _ _ _ hh, huni, by rw [hlen2, List.length_append, htk]; exact Nat.mul_le_mul_right _ (by omega), fun j c u hj hu' => by
              rw [List.getElem?_toArray] at hu'
              have hlt := (List.getElem?_eq_some_iff.1 hj).1
              rw [cellsL_append, List.length_append, hcl1, ← hdl, hdl'] at hlt
              rw [List.getElem?_append_left (by rw [List.length_append, hcs1, hdl']; exact hlt)] at hu'
              exact append_R (.refl g) (hcs1.trans hcl1.symm) hold hdr j c u hj hu', him⟩
          have hren := hw.rename (o := o) (o' := o') (et := (tyOf P t).elem) (rows := rows.take n ++ ys) (b := b) (sz := i.size) (n := nn) (by simp [Store.put]) hb hol (by
            simp only [Store.put]
            rw [if_neg (fun e => by rw [e, ho] at ho'; cases ho')]; exact ho') hot hor
          refine ⟨_, _, g.addLoc o' (b, i.size, nn), _, _, hr, Gh.Le_addLoc _ hol, ?_, .ms (b := b) (n := nn) (by simp [Gh.addLoc]) (by omega) hroom (fun _ => by simp), hk⟩
          have hst : (((σ.put o (.arr (tyOf P t).elem (rows.take n ++ ys))).drop o).put o' (.arr (tyOf P t).elem (rows.take n ++ ys))) = ((σ.drop o).put o' (.arr (tyOf P t).elem (rows.take n ++ ys))) := by
            funext p
            simp only [Store.put, Store.drop]
            by_cases h1 : p = o' <;> by_cases h2 : p = o <;> simp [h1, h2]
          rw [hst] at hren
          exact hren
      · have hr := run_append_grow_src (P := P) w t tx ty (tyOf P t).elem i z hu i1 hz (some a) n cap (cells.toList.take (n * i.size)) (run_firstCells_some w.drew i.size n a n cap _ (by rw [hcs1]) (fun j u hj => by
          have hlt := (List.getElem?_eq_some_iff.1 hj).1
          rw [hcs1] at hlt
          have hn0 : 0 < n := by
            rcases Nat.eq_zero_or_pos n with h | h
            · subst h; simp at hlt
            · exact h
          have hae := ha (by omega)
          subst hae
          rw [add_spot rfl]
          rw [List.getElem?_take, if_pos hlt] at hj
          have hhd : w.drew.heap[b]? = some (.cells cells (tyOf P t).elem (0, 0)) := hh
          simp only [World.cell?, hhd, Nat.zero_mul, Nat.zero_add]
          simpa using hj)) u ys.length ds hs (by omega) (by omega) (growslice_fits (by omega) hbytes)
        have hge := grownCap_ge w (n + ys.length) cap (tyOf P t).elem
        obtain ⟨h1, h2⟩ := arr_new hc (e := (tyOf P t).elem) (rows := rows.take n ++ ys) (cs := cells.toList.take (n * i.size) ++ ds) (gc := grownCap w (n + ys.length) cap (tyOf P t).elem) (z := z.cells) hzs huni (by rw [List.length_append, List.length_append, hcs1, hdl', htk, Nat.add_mul])
          (append_R (.refl g) (hcs1.trans hcl1.symm) hold hdr) (by rw [List.length_append, htk]; exact hge) ho' hol hot hor
        rw [List.length_append, htk] at h1 h2
        refine ⟨_, _, _, _, _, hr, Gh.Le_addLoc _ hol, h1.sub ?_, h2, hk⟩
        intro p x hp
        simp only [Store.put, Store.drop] at hp ⊢
        by_cases h1 : p = o'
        · rw [if_pos h1] at hp ⊢; exact hp
        · rw [if_neg h1] at hp ⊢
          by_cases h2 : p = o
          · rw [if_pos h2] at hp; cases hp
          · rw [if_neg h2] at hp; exact hp

theorem sound_appendN {P : Program} {g : Gh} {w : World} {σ : Store} (hc : Conc g w σ) {t ty : TypeId} {x y : AV} {v u : Value} (hx : R g x v) (hy : R g y u) {k : KK} {mu : Bool} {o : Nat} (ho : σ o = none) (hol : g.loc o = none) (hot : ∀ m, g.tipv o m = none) (hor : ¬ g.res o) (hk : appendN P (tyOf P t) mu σ x y o k) :
    ∃ r w' g' a σ', (Builtin.append_ #[t, t] ty #[v, u]).run P w = .ok r w' ∧ g.Le g' ∧ Conc g' w' σ' ∧ R g' a r ∧ k a σ' := by
  obtain ⟨hkind, hoe, hz, hpos, hk⟩ := hk
  have hu := ty_slice hkind
  obtain ⟨i, d, i1, i2, i3, i4, i5, i6⟩ := zero_inv hoe
  unfold zeroFits at hz
  rw [i3, i4] at hz
  obtain ⟨z, hz, hzs⟩ : ∃ z, i.zero = some z ∧ z.cells.size = i.size := by
    cases hzz : i.zero with
    | none => simp [hzz] at hz
    | some z =>
      simp only [hzz, Option.map_some, decide_eq_true_eq] at hz
      refine ⟨z, rfl, ?_⟩
      rw [← hz]
      cases z <;> first | rfl | (simp [ofConst, AV.cells, Value.cells]; done) | (simp only [ofConst, leafOf]; split <;> rfl)
  split at hk
  · rename_i ky ys
    obtain ⟨hys, hk⟩ := hk
    replace hys := rowsOk_spec hys
    split at hk
    · rename_i ox sz st n
      obtain ⟨rfl, rfl, hbytes, hlen, hk⟩ := hk
      rw [i5] at hbytes
      rw [i4] at hpos hys hx hk
      split at hk
      · rename_i e rows hro
        obtain ⟨rfl, hk⟩ := hk
        obtain ⟨ds, q1, q2, q3⟩ := Src_sl hc hy hys hu
        exact append_ms hc hu i1 hz hzs hpos hx q1 q2 q3 hys hbytes hlen hro ho hol hot hor hk
      · exact hk.elim
    · rename_i kd xs
      obtain ⟨hxs, hbytes, hlen, hk⟩ := hk
      replace hxs := rowsOk_spec hxs
      rw [i5] at hbytes
      rw [i4] at hpos hys hxs hk
      obtain ⟨A, cap, rfl, hcap, hAn, hfull, hnil, cs, hcl, hcr, hcc⟩ := sl_cells hc hx
      obtain ⟨B, cap2, rfl, hcap2, hBn, hfull2, hnil2, ds, hdl, hdr, hdc⟩ := sl_cells hc hy
      have hcl' : cs.length = xs.length * i.size := by rw [hcl, cellsL_length xs (fun q hq => (hxs q hq).2.1)]
      have hdl' : ds.length = ys.length * i.size := by rw [hdl, cellsL_length ys (fun q hq => (hys q hq).2.1)]
      have hd1 := cells_oneV hdl hdr (fun q hq => (hys q hq).2.2)
      have h63 : xs.length + ys.length ≤ maxLen := by unfold maxLen; omega
      have huni : ∀ q ∈ xs ++ ys, q.cells.length = i.size := by
        intro q hq
        rcases List.mem_append.1 hq with h | h
        · exact (hxs q h).2.1
        · exact (hys q h).2.1
      have hcds : (cs ++ ds).length = (cellsL (xs ++ ys)).length := by rw [List.length_append, hcl, hdl, cellsL_append, List.length_append]
      by_cases hy0 : ys = []
      · subst hy0
        rw [if_pos rfl] at hk
        refine ⟨_, w, g, _, σ, ?_, .refl g, hc, hx, hk⟩
        have hds0 : ds = [] := List.eq_nil_of_length_eq_zero (by simpa using hdl')
        cases A with
        | none =>
          obtain ⟨e1, rfl, _⟩ := hAn rfl
          injection e1 with _ _ e1
          subst e1
          cases B <;> simp [Builtin.append_, run_underlying hu, sizeOf, typeInfo, i1, Builtin.lenOf, Builtin.firstCells, loadCells, loadCellsFrom]
        | some a =>
          cases B <;> simp [Builtin.append_, run_underlying hu, sizeOf, typeInfo, i1, Builtin.lenOf, Builtin.firstCells, loadCells, loadCellsFrom, hcap, storeCells]
      · rw [if_neg hy0] at hk
        have hy1 : 0 < ys.length := by
          rcases Nat.eq_zero_or_pos ys.length with h | h
          · exact absurd (List.eq_nil_of_length_eq_zero h) hy0
          · exact h
        obtain ⟨b, rfl⟩ : ∃ b, B = some b := by
          cases B with
          | none => exact absurd (hBn rfl).2.1 hy0
          | some b => exact ⟨b, rfl⟩
        have hnews := hdc b rfl
        split at hk
        · obtain ⟨hfr, hk⟩ := hk
          have fin : ∀ (cs' : List Value) (gc : Nat), cs'.length = xs.length * i.size → (∀ (i : Nat) (c : AV) (u : Value), (cellsL xs)[i]? = some c → cs'[i]? = some u → R g c u) → cs'.length = (cellsL xs).length → xs.length + ys.length ≤ gc →
              ∃ g' a σ', g.Le g' ∧ Conc g' (w.drew.alloc (.cells (cs'.toArray ++ ds.toArray ++ Builtin.zeroCells z.cells (gc - (xs.length + ys.length))) (tyOf P t).elem)) σ' ∧
                R g' a (.slice (some ⟨w.heap.size, 0, none⟩) (xs.length + ys.length) gc) ∧ k a σ' := by
            intro cs' gc hcl2 hcr2 hcl3 hge
            have hln : (cs' ++ ds).length = (xs ++ ys).length * i.size := by rw [List.length_append, hcl2, hdl', List.length_append, Nat.add_mul]
            obtain ⟨h1, h2⟩ := arr_new hc (e := (tyOf P t).elem) (rows := xs ++ ys) (cs := cs' ++ ds) (gc := gc) (z := z.cells) hzs huni hln (append_R (.refl g) hcl3 hcr2 hdr) (by rw [List.length_append]; exact hge) ho hol hot hor
            rw [List.length_append] at h1 h2
            refine ⟨_, _, _, Gh.Le_addLoc _ hol, ?_, h2, hk⟩
            rw [show cs'.toArray ++ ds.toArray = (cs' ++ ds).toArray from by simp]
            exact h1
          cases kd with
          | imm => simp [SK.fresh] at hfr
          | tip o => simp [SK.fresh] at hfr
          | nil =>
            have hA := hnil rfl
            subst hA
            obtain ⟨e1, rfl, _⟩ := hAn rfl
            injection e1 with _ _ e1
            subst e1
            have hr := run_append_nil (P := P) w t ty (tyOf P t).elem i z hu i1 hz b ys.length cap2 ds hdl' hnews hy1 (by simp at hlen; omega) (by simp at hbytes; omega)
            obtain ⟨g', a, σ', h1, h2, h3, h4⟩ := fin [] (grownCap w ys.length 0 (tyOf P t).elem) (by simp) (fun i c u h => by simp [cellsL] at h) rfl (by simpa using grownCap_ge w ys.length 0 (tyOf P t).elem)
            simp only [List.length_nil, Nat.zero_add] at h2 h3
            exact ⟨_, _, g', a, σ', hr, h1, by simpa using h2, h3, h4⟩
          | full =>
            have hcapx := hfull rfl
            subst hcapx
            cases A with
            | none => obtain ⟨_, _, h⟩ := hAn rfl; cases h
            | some a0 =>
              have hr := run_append_grow (P := P) w t ty (tyOf P t).elem i z hu i1 hz a0 xs.length xs.length cs hcl' (hcc a0 rfl) b ys.length cap2 ds hdl' hnews (by omega) (by omega) (growslice_fits (by omega) hbytes)
              obtain ⟨g', a, σ', h1, h2, h3, h4⟩ := fin cs (grownCap w (xs.length + ys.length) xs.length (tyOf P t).elem) hcl' hcr hcl (grownCap_ge w _ _ _)
              exact ⟨_, _, g', a, σ', hr, h1, h2, h3, h4⟩
        -- a new block
        have grown : ∀ (old : Nat) (o : Nat) (cs' : List Value), cs'.length = xs.length * i.size → TipBefore g σ o (xs ++ ys).length (tyOf P t).elem i.size →
            (∀ (i : Nat) (c : AV) (u : Value), (cellsL xs)[i]? = some c → cs'[i]? = some u → R g c u) → cs'.length = (cellsL xs).length →
            k (.sl (.tip o) (xs ++ ys)) (σ.put o (.tip (xs ++ ys).length (tyOf P t).elem i.size)) →
            ∃ g' a σ', g.Le g' ∧ Conc g' (w.drew.alloc (.cells (cs'.toArray ++ ds.toArray ++ Builtin.zeroCells z.cells (grownCap w (xs.length + ys.length) old (tyOf P t).elem - (xs.length + ys.length))) (tyOf P t).elem)) σ' ∧
              R g' a (.slice (some ⟨w.heap.size, 0, none⟩) (xs.length + ys.length) (grownCap w (xs.length + ys.length) old (tyOf P t).elem)) ∧ k a σ' := by
          intro old o cs' hcl2 hbef hcr2 hcl3 hk2
          have hge := grownCap_ge w (xs.length + ys.length) old (tyOf P t).elem
          have hle' := grownCap_le_maxLen w (xs.length + ys.length) old (tyOf P t).elem h63
          generalize grownCap w (xs.length + ys.length) old (tyOf P t).elem = gc at hge hle' ⊢
          have hln : (cs' ++ ds).length = (xs ++ ys).length * i.size := by rw [List.length_append, hcl2, hdl', List.length_append, Nat.add_mul]
          obtain ⟨g', h1, h2, h3, h4⟩ := tip_new hc (w' := w.drew.alloc (.cells (cs'.toArray ++ ds.toArray ++ Builtin.zeroCells z.cells (gc - (xs.length + ys.length))) (tyOf P t).elem))
            ((Below.refl _ _).drew.alloc (Nat.le_refl _) _) (heap_alloc_new w.drew _) (n := (xs ++ ys).length) (by rw [List.length_append]; exact hge) hle'
            (by
              simp only [Array.size_append, List.size_toArray, size_zeroCells, hzs, hcl2, hdl', ← Nat.add_mul]
              congr 1
              omega) (cs := cs' ++ ds) hln (by
              simp only [Array.toList_append, List.append_assoc]
              rw [← List.append_assoc, ← hln]
              exact List.take_left) hbef
          refine ⟨g', _, _, h1, h2, ?_, hk2⟩
          have := R_tip h3 (by rw [List.length_append]; exact hge) huni (by rw [List.length_append, hcl3, hdl, cellsL_append, List.length_append]) (append_R h1 hcl3 hcr2 hdr) h4
          rw [List.length_append] at this
          exact this
        have hxy : (xs ++ ys).length = xs.length + ys.length := List.length_append
        cases kd with
        | imm => exact hk.elim
        | nil =>
          have hA := hnil rfl
          subst hA
          obtain ⟨e1, rfl, _⟩ := hAn rfl
          injection e1 with _ _ e1
          subst e1
          have hr := run_append_nil (P := P) w t ty (tyOf P t).elem i z hu i1 hz b ys.length cap2 ds hdl' hnews hy1 (by simp at hlen; omega) (by simp at hbytes; omega)
          obtain ⟨g', a, σ', h1, h2, h3, h4⟩ := grown 0 o [] (by simp) (.inl ⟨ho, hol, hot, hor⟩) (fun i c u h => by simp [cellsL] at h) rfl (by simpa using hk)
          simp only [List.length_nil, Nat.zero_add] at h2 h3
          exact ⟨_, _, g', a, σ', hr, h1, by simpa using h2, h3, h4⟩
        | full =>
          have hcapx := hfull rfl
          subst hcapx
          cases A with
          | none => obtain ⟨_, _, h⟩ := hAn rfl; cases h
          | some a0 =>
            have hr := run_append_grow (P := P) w t ty (tyOf P t).elem i z hu i1 hz a0 xs.length xs.length cs hcl' (hcc a0 rfl) b ys.length cap2 ds hdl' hnews (by omega) (by omega) (growslice_fits (by omega) hbytes)
            obtain ⟨g', a, σ', h1, h2, h3, h4⟩ := grown xs.length o cs hcl' (.inl ⟨ho, hol, hot, hor⟩) hcr hcl hk
            exact ⟨_, _, g', a, σ', hr, h1, h2, h3, h4⟩
        | tip o =>
          clear ho hol hot hor
          obtain ⟨ho, hk⟩ := hk
          obtain ⟨blk, q1, q2⟩ := hc.obj
          obtain ⟨hB, cap', cur, ht, hlater, hh, hnc, hcm, hcs, him⟩ := q1 o _ ho
          have htv : g.tipv o xs.length = some (.slice A xs.length cap) := by
            cases hx with
            | sl hk2 hs2 hu2 hi2 hr2 => exact hk2.2
          rw [htv] at ht
          injection ht with ht
          injection ht with e1 e2 e3
          subst e1; subst e3
          by_cases hroom : xs.length + ys.length ≤ cap
          · have hmul : (xs.length + ys.length) * i.size ≤ cap * i.size := Nat.mul_le_mul_right _ hroom
            rw [Nat.add_mul] at hmul
            have hr := run_append_room (P := P) w t ty (tyOf P t).elem i hu i1 (blk o) xs.length cap cur hh b ys.length cap2 ds hdl' hnews hd1 hroom (by rw [hdl', hcs]; omega)
            obtain ⟨g', h1, h2, h3, h4⟩ := tip_in hc (n := (xs ++ ys).length) ho (by rw [hxy]; omega) htv hh (by rw [hxy]; exact hroom) hcs (news := ds) (by rw [hdl', hxy, Nat.add_mul])
            have hcur : cur.toList.take (xs.length * i.size) = cs := by
              apply List.ext_getElem?
              intro j
              rw [List.getElem?_take]
              by_cases hj : j < xs.length * i.size
              · rw [if_pos hj]
                have hcj : cs[j]? = some (cs[j]'(by omega)) := List.getElem?_eq_getElem _
                have := hcc _ rfl j _ hcj
                rw [add_spot rfl] at this
                simp only [World.cell?, hh, Nat.zero_add] at this
                rw [hcj]
                simpa using this
              · rw [if_neg hj, List.getElem?_eq_none (by omega)]
            rw [hcur] at h2 h4 hr
            refine ⟨_, _, g', _, _, hr, h1, h2, ?_, hk⟩
            rw [← hxy]
            exact R_tip h3 (by rw [hxy]; exact hroom) huni hcds (append_R h1 hcl hcr hdr) h4
          · have hr := run_append_grow (P := P) w t ty (tyOf P t).elem i z hu i1 hz ⟨blk o, 0, none⟩ xs.length cap cs hcl' (hcc _ rfl) b ys.length cap2 ds hdl' hnews (by omega) (by omega) (growslice_fits (by omega) hbytes)
            obtain ⟨g', a, σ', h1, h2, h3, h4⟩ := grown cap o cs hcl' (.inr ⟨xs.length, ho, by rw [hxy]; omega, hlater⟩) hcr hcl hk
            exact ⟨_, _, g', a, σ', hr, h1, h2, h3, h4⟩
    · exact hk.elim
  · exact hk.elim

theorem sound_append {P : Program} {g : Gh} {w : World} {σ : Store} (hc : Conc g w σ) {t ty : TypeId} {x y : AV} {v u : Value} (hx : R g x v) (hy : R g y u) {k : KK} {mu : Bool} (hk : appendA P (tyOf P t) mu σ x y k) :
    ∃ r w' g' a σ', (Builtin.append_ #[t, t] ty #[v, u]).run P w = .ok r w' ∧ g.Le g' ∧ Conc g' w' σ' ∧ R g' a r ∧ k a σ' := by
  obtain ⟨o, ho, hol, hot, hor⟩ := hc.new
  exact sound_appendN hc hx hy ho hol hot hor (appendA_N hk ho)
end Go.Kern
