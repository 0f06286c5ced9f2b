/- Package life: what its methods do. Package life: next, Ripe, at. Package life: Ripe, at, Enter, Leave. Package life: at, Enter, Leave. Package life: Leave. Package life: Scale, New. Package queue: what its methods do. Package life: New. -/
import Derived.Test.YtdgphoemjeakaaaGreatDoorQ01
import Derived.Deep.RegionHeldLaw
/-! Package life: what its methods do. -/
namespace Go.Proofs.YtdgphoemjeakaaaGreatDoor.A
open Go.RowKit Go.Shelf Go.Proofs.YtdgphoemjeakaaaGreatDoor.K
open Go.Proofs.YtdgphoemjeakaaaGreatDoor.M (Pod)
set_option maxRecDepth 100000

def _root_.Go.Proofs.YtdgphoemjeakaaaGreatDoor.M.Pod.cells (q : Pod) : List Value := [.int .i64 q.id, .int .i64 q.st, .int .i64 q.busy, .int .i64 q.since]
/-- Where a pod lies. -/
def ref (x : Nat × Pod) : Value := .pointer (some ⟨x.1, 0, none⟩)

/-- Pods, with their places. -/
structure LifeV (w : World) (S : Nat → Prop) (p : Nat) (v : Value) (es : List (Nat × Pod)) (made : Int) : Prop where
  bd : ∀ k, S k → k < w.heap.size
  own : S p
  blk : Blk w p #[v, .int .i64 made] 83
  row : Own w S 20 1 v es.length (es.map fun x => Value.iface 96 (ref x))
  nodup : (es.map Prod.fst).Nodup
  pods : ∀ x, x ∈ es → S x.1 ∧ Blk w x.1 x.2.cells.toArray 41

def Life (w : World) (S : Nat → Prop) (p : Nat) (ps : List Pod) (made : Int) : Prop := ∃ v es, LifeV w S p v es made ∧ es.map Prod.snd = ps

/-- The cells of pods, one behind the other. -/
def cellsOf (l : List Pod) : List Value := l.flatMap Pod.cells
theorem cells_len (l : List Pod) : (cellsOf l).length = l.length * 4 := by
  induction l with
  | nil => rfl
  | cons q l ih => simp [cellsOf, Pod.cells] at ih ⊢; omega
theorem cells_snoc (l : List Pod) (q : Pod) : cellsOf (l ++ [q]) = cellsOf l ++ q.cells := by simp [cellsOf]
theorem cells_at (l : List Pod) (i j : Nat) (q : Pod) (h : l[i]? = some q) (hj : j < 4) : (cellsOf l)[i * 4 + j]? = q.cells[j]? := by
  induction l generalizing i with
  | nil => simp at h
  | cons a l ih =>
    cases i with
    | zero =>
      simp at h
      subst h
      have : cellsOf (a :: l) = a.cells ++ cellsOf l := by simp [cellsOf]
      rw [this, List.getElem?_append_left (by simp [Pod.cells]; omega)]
      simp
    | succ i =>
      simp at h
      have : cellsOf (a :: l) = a.cells ++ cellsOf l := by simp [cellsOf]
      rw [this, List.getElem?_append_right (by simp [Pod.cells]; omega), ← ih i h]
      congr 1
      simp [Pod.cells]
      omega
theorem pod_one (q : Pod) : ∀ u ∈ q.cells, u.oneCell' = true := by
  intro u hu
  simp [Pod.cells] at hu
  rcases hu with rfl | rfl | rfl | rfl <;> rfl

/-- The cells of element n of a slice of pods. -/
theorem pods_cells {w : World} {S : Nat → Prop} {ps : List Pod} {g o c : Nat} (h : Own w S 41 4 (.slice (some ⟨g, o, none⟩) ps.length c) ps.length (cellsOf ps)) {n : Nat} {q : Pod} (hq : ps[n]? = some q) :
    w.cell? ⟨g, o + n * 4, none⟩ = some (.int .i64 q.id) ∧ w.cell? ⟨g, o + n * 4 + 1, none⟩ = some (.int .i64 q.st) ∧ w.cell? ⟨g, o + n * 4 + 2, none⟩ = some (.int .i64 q.busy) ∧ w.cell? ⟨g, o + n * 4 + 3, none⟩ = some (.int .i64 q.since) := by
  have hn : n < ps.length := (List.getElem?_eq_some_iff.1 hq).1
  have := h.cellAt (n * 4) (by omega)
  have h1 := h.cellAt (n * 4 + 1) (by omega)
  have h2 := h.cellAt (n * 4 + 2) (by omega)
  have h3 := h.cellAt (n * 4 + 3) (by omega)
  rw [cells_at _ _ _ _ hq (by omega)] at h1 h2 h3
  rw [show n * 4 = n * 4 + 0 from rfl, cells_at _ _ _ _ hq (by omega)] at this
  exact ⟨this, h1, h2, h3⟩


section
variable {w w' : World} {S T : Nat → Prop} {p : Nat} {v : Value} {es : List (Nat × Pod)} {ps : List Pod} {made : Int}

theorem LifeV.chg (h : LifeV w S p v es made) (c : Chg T w w') (hd : ∀ k, S k → T k → False) : LifeV w' S p v es made :=
  ⟨fun k hk => Nat.lt_of_lt_of_le (h.bd k hk) c.size, h.own, h.blk.chg c (hd p h.own), h.row.chg c hd, h.nodup, fun x hx => by
    obtain ⟨h1, h2⟩ := h.pods x hx
    exact ⟨h1, h2.chg c (hd x.1 h1)⟩⟩
theorem LifeV.kept (h : LifeV w S p v es made) (c : Chg No w w') : LifeV w' S p v es made := h.chg c fun _ _ h => h
theorem LifeV.mono (h : LifeV w S p v es made) (hs : ∀ k, k < w.heap.size → S k → T k) (hb : ∀ k, T k → k < w.heap.size) : LifeV w T p v es made :=
  ⟨hb, hs p h.blk.lt h.own, h.blk, h.row.mono hs, h.nodup, fun x hx => ⟨hs _ (h.pods x hx).2.lt (h.pods x hx).1, (h.pods x hx).2⟩⟩
theorem Life.chg (h : Life w S p ps made) (c : Chg T w w') (hd : ∀ k, S k → T k → False) : Life w' S p ps made := by
  obtain ⟨v, es, h, he⟩ := h
  exact ⟨v, es, h.chg c hd, he⟩
theorem Life.kept (h : Life w S p ps made) (c : Chg No w w') : Life w' S p ps made := h.chg c fun _ _ h => h
theorem Life.mono (h : Life w S p ps made) (hs : ∀ k, k < w.heap.size → S k → T k) (hb : ∀ k, T k → k < w.heap.size) : Life w T p ps made := by
  obtain ⟨v, es, h, he⟩ := h
  exact ⟨v, es, h.mono hs hb, he⟩
theorem Life.bd (h : Life w S p ps made) : ∀ k, S k → k < w.heap.size := by
  obtain ⟨v, es, h, _⟩ := h
  exact h.bd
/-- Behind a step that turned nothing: the same, with what is new. -/
theorem Life.nx (h : Life w S p ps made) (c : Chg No w w') : Life w' (K.nx S w w') p ps made :=
  (h.kept c).mono (fun _ hk hS => ⟨.inl hS, hk⟩) fun _ hk => hk.2
/-- A pod is another one. -/
theorem LifeV.setPod (h : LifeV w S p v es made) {k b j : Nat} {q q' : Pod} {u : Value} (hk : es[k]? = some (b, q)) (hb : Blk (w.setCell ⟨b, j, none⟩ u) b q'.cells.toArray 41) : LifeV (w.setCell ⟨b, j, none⟩ u) S p v (es.set k (b, q')) made := by
  have hkl : k < es.length := (List.getElem?_eq_some_iff.1 hk).1
  obtain ⟨hSb, hB⟩ := h.pods (b, q) (List.mem_of_getElem? hk)
  have e1 : (es.set k (b, q')).map Prod.fst = es.map Prod.fst := by
    rw [List.map_set]
    apply List.ext_getElem?
    intro t
    rw [List.getElem?_set]
    by_cases e : k = t
    · subst e
      rw [if_pos rfl, if_pos (by simpa using hkl), List.getElem?_map, hk]; rfl
    · rw [if_neg e]
  have e2 : ((es.set k (b, q')).map fun x => Value.iface 96 (ref x)) = es.map fun x => Value.iface 96 (ref x) := by
    have := congrArg (List.map fun n : Nat => Value.iface 96 (.pointer (some ⟨n, 0, none⟩))) e1
    simpa [Function.comp_def, ref] using this
  refine ⟨by simpa [World.setCell] using h.bd, h.own, h.blk.other (h.blk.ne hB (by decide)) u, ?_, by rw [e1]; exact h.nodup, fun x hx => ?_⟩
  · rw [e2, List.length_set]
    exact h.row.other hB (by decide) u
  · obtain ⟨t, ht, hx2⟩ := List.getElem_of_mem hx
    have ht' : t < es.length := by simpa using ht
    by_cases e : k = t
    · subst e
      rw [List.getElem_set_self] at hx2
      rw [← hx2]
      exact ⟨hSb, hb⟩
    · rw [List.getElem_set_ne e] at hx2
      have hm : x ∈ es := by rw [← hx2]; exact List.getElem_mem ht'
      have hne : x.1 ≠ b := by
        intro hxb
        have hk2 : es[k] = (b, q) := (List.getElem?_eq_some_iff.1 hk).2
        refine e ((List.getElem_inj (h₀ := by simpa using hkl) (h₁ := by simpa using ht') h.nodup).1 ?_)
        rw [List.getElem_map, List.getElem_map, hx2, hk2]
        exact hxb.symm
      exact ⟨(h.pods x hm).1, (h.pods x hm).2.other hne u⟩
/-- The first that is struck, by the pods alone. -/
theorem first_idx {f : Pod → Bool} {r : Int} (h : G.First (fun x : Nat × Pod => f x.2) es r) : (r = -1 ∧ (es.map Prod.snd).findIdx? f = none) ∨ ∃ k : Nat, r = k ∧ k < es.length ∧ (es.map Prod.snd).findIdx? f = some k := by
  rcases h with ⟨h1, h2⟩ | ⟨k, x, hx, hr, hp, hall⟩
  · refine .inl ⟨h1, ?_⟩
    rw [List.findIdx?_eq_none_iff]
    intro q hq
    obtain ⟨x, hx, rfl⟩ := List.mem_map.1 hq
    exact h2 x hx
  · have hkl : k < es.length := (List.getElem?_eq_some_iff.1 hx).1
    refine .inr ⟨k, hr, hkl, ?_⟩
    rw [List.findIdx?_eq_some_iff_getElem]
    refine ⟨by simpa using hkl, ?_, fun j hj => ?_⟩
    · rw [List.getElem_map, (List.getElem?_eq_some_iff.1 hx).2]; exact hp
    · rw [List.getElem_map]
      have hjl : j < es.length := by omega
      have := hall j es[j] hj (List.getElem?_eq_getElem hjl)
      simp [this]
end

set_option maxHeartbeats 400000 in
theorem pod_at (w : World) (S : Nat → Prop) (p : Nat) (v : Value) (es : List (Nat × Pod)) (made : Int) (h : LifeV w S p v es made) (k : Int) (b : Nat) (q : Pod) (k0 : 0 ≤ k) (hb : es[k.toNat]? = some (b, q)) :
    Calls Tryz.prog 45 #[.pointer (some ⟨p, 0, none⟩), .int .i64 k] w fun e w' => e = .returned (.pointer (some ⟨b, 0, none⟩)) ∧ w = w' := by
  obtain ⟨n, rfl⟩ := Int.eq_ofNat_of_zero_le k0
  rw [Int.toNat_natCast] at hb
  have hn : n < es.length := (List.getElem?_eq_some_iff.1 hb).1
  have c0 : w.cell? ⟨p, 0, none⟩ = some v := Blk.cell h.blk 0
  obtain ⟨va, cap, rfl⟩ := h.row.sl
  obtain ⟨g, o, rfl, hS, hg, hcap, hmax⟩ := h.row.some_ (by omega)
  have hc : w.cell? ⟨g, o + n, none⟩ = some (.iface 96 (.pointer (some ⟨b, 0, none⟩))) := by
    rw [h.row.cellAt n (by omega), List.getElem?_map, hb]; rfl
  clear h hS hg hcap hmax hb
  go_enter Tryz.func45, Tryz.ntmps45
  go_wp2
  go_ret
  exact ⟨rfl, rfl⟩

theorem info41 : (Tryz.prog.info? 41).map (fun i => (i.zero, i.size, i.bytes)) = some (some (.agg #[.int .i64 0, .int .i64 0, .int .i64 0, .int .i64 0]), 4, 32) := by kernel_rfl
theorem info3 : (Tryz.prog.info? 3).map (fun i => (i.zero, i.size, i.bytes)) = some (some (.int .i64 0), 1, 8) := by kernel_rfl

set_option maxHeartbeats 1000000 in
theorem all_any (w : World) (S : Nat → Prop) (p : Nat) (ps : List Pod) (made : Int) (h : Life w S p ps made) (hn : ps.length ≤ 1099511627776) :
    Calls Tryz.prog 32 #[.pointer (some ⟨p, 0, none⟩)] w fun e w' => ∃ v, e = .returned v ∧ Own w' (New w) 41 4 v ps.length (cellsOf ps) ∧ Chg No w w' := by
  obtain ⟨v, es, h, rfl⟩ := h
  rw [List.length_map] at hn ⊢
  have c0 : w.cell? ⟨p, 0, none⟩ = some v := Blk.cell h.blk 0
  obtain ⟨i0, hi, hz0, hz1, hz2⟩ := info_parts info41
  obtain ⟨va, cap, hv⟩ := h.row.sl
  rw [hv] at c0
  have H := Lib.hid h
  clear h hv
  go_enter Tryz.func32, Tryz.ntmps32
  go_wp2_with fail
  go_loopw [3, 12] (fun o i wr => ∃ n : Nat, n ≤ es.length ∧ i = .int .i64 n ∧ Own wr (New w) 41 4 o n (cellsOf ((es.map Prod.snd).take n)) ∧ Chg No w wr) (fun _ i _ => es.length - (intOf i).toNat)
  case atStart => exact ⟨0, Nat.zero_le _, rfl, Own.nil _ _ _ _, Chg.refl _ _⟩
  case round =>
    obtain ⟨n, hk, rfl, ho, hc⟩ := hrel
    by_cases hlt : n < es.length
    · have HL := Lib.hid (H.out.kept hc)
      obtain ⟨⟨b, q⟩, hq⟩ : ∃ x, es[n]? = some x := ⟨es[n], List.getElem?_eq_getElem hlt⟩
      have hB := (HL.out.pods _ (List.mem_of_getElem? hq)).2
      have b0 : wr.cell? ⟨b, 0, none⟩ = some (.int .i64 q.id) := Blk.cell hB 0
      have b1 : wr.cell? ⟨b, 1, none⟩ = some (.int .i64 q.st) := Blk.cell hB 1
      have b2 : wr.cell? ⟨b, 2, none⟩ = some (.int .i64 q.busy) := Blk.cell hB 2
      have b3 : wr.cell? ⟨b, 3, none⟩ = some (.int .i64 q.since) := Blk.cell hB 3
      have HB := Lib.hid hq
      have HT : Hid ((es.map Prod.snd).take (n + 1) = (es.map Prod.snd).take n ++ [q]) := by show _ = _; rw [List.take_add_one, List.getElem?_map, hq]; rfl
      have HO := Lib.hid ho
      have HC := Lib.hid hc
      clear hB hq ho hc
      go_wp2_with (first | (go_at_call 45; refine (pod_at _ S p v es made HL.out _ b q (by omega) (by rw [Int.toNat_natCast]; exact HB.out)).mono ?_; rintro e w' ⟨rfl, rfl⟩) | (at_builtin; refine wpList_app _ rfl _ _ 35 rfl (New w) 41 i0 _ 4 32 Tryz.underlying35 hi hz0 hz1 hz2 rfl _ _ _ rfl (HO.out.alloc _) ⟨wr.heap.size, 0, none⟩ 1 1 q.cells rfl (by decide) rfl (built_cells _ _ _) (pod_one q) (by simp only [maxLen]; omega) (by omega) ?_; intro g2 o2 c2 w' ho' hc'))
      go_roundw
      case rel =>
        obtain ⟨h1, h2⟩ := fresh_app HC.out ho' hc'
        exact ⟨n + 1, by omega, by go_num, by rw [HT.out, cells_snoc]; exact h1, h2⟩
      case measure => simp [intOf]; omega
    · obtain rfl : n = es.length := by omega
      rw [List.take_of_length_le (by simp)] at ho
      go_wp2
      go_ret
      exact ⟨_, rfl, ho, hc⟩

set_option maxHeartbeats 1000000 in
theorem count_any (w : World) (S : Nat → Prop) (p : Nat) (ps : List Pod) (made : Int) (h : Life w S p ps made) (hn : ps.length ≤ 1099511627776) :
    Calls Tryz.prog 43 #[.pointer (some ⟨p, 0, none⟩)] w fun e w' => e = .returned (.int .i64 (M.count ps)) ∧ Chg No w w' := by
  have H := Lib.hid h
  clear h
  go_enter Tryz.func43, Tryz.ntmps43
  go_wp2_with fail
  refine (all_any w S p ps made H.out hn).mono ?_
  rintro e w1 ⟨v, rfl, ho, hc⟩
  obtain ⟨va, cap, hv⟩ := ho.sl
  subst hv
  have HO := Lib.hid ho
  have HC := Lib.hid hc
  clear ho hc
  go_wp2_with fail
  go_loopw [3, 9] (fun s i wr => ∃ n : Nat, n ≤ ps.length ∧ i = .int .i64 n ∧ s = .int .i64 (M.count (ps.take n)) ∧ Chg No w1 wr) (fun _ i _ => ps.length - (intOf i).toNat)
  case atStart => exact ⟨0, Nat.zero_le _, rfl, rfl, Chg.refl _ _⟩
  case round =>
    obtain ⟨n, hk, rfl, rfl, hc⟩ := hrel
    by_cases hlt : n < ps.length
    · obtain ⟨g, o, rfl, hS, hg, hcap, hmax⟩ := HO.out.some_ (by omega)
      obtain ⟨q, hq⟩ : ∃ q, ps[n]? = some q := ⟨ps[n], List.getElem?_eq_getElem hlt⟩
      obtain ⟨b0, b1, b2, b3⟩ := pods_cells (HO.out.kept hc) hq
      have HT : Hid (ps.take (n + 1) = ps.take n ++ [q]) := by show _ = _; rw [List.take_add_one, hq]; rfl
      have HK := Lib.hid hc
      have hcnt : M.count (ps.take n) ≤ n := Nat.le_trans (List.length_filter_le _ _) (by simp; omega)
      have HN := M.count_snoc (ps.take n) q
      rw [← HT.out] at HN
      have HN' := Lib.hid HN
      clear hq hc hmax hS HN
      generalize M.count (ps.take n) = m at *
      cases hst : q.st != 3
      · rw [hst] at HN'
        go_wp2
        go_roundw
        case rel => exact ⟨n + 1, by omega, by go_num, by rw [HN'.out]; simp, HK.out.alloc _⟩
        case measure => simp [intOf]; omega
      · rw [hst] at HN'
        go_wp2
        go_roundw
        case rel => exact ⟨n + 1, by omega, by go_num, by rw [HN'.out]; simp, HK.out.alloc _⟩
        case measure => simp [intOf]; omega
    · obtain rfl : n = ps.length := by omega
      rw [List.take_length]
      go_wp2
      go_ret
      exact ⟨rfl, HC.out.trans hc⟩

set_option maxHeartbeats 1000000 in
theorem ready_any (w : World) (S : Nat → Prop) (p : Nat) (ps : List Pod) (made : Int) (h : Life w S p ps made) (hn : ps.length ≤ 1099511627776) :
    Calls Tryz.prog 62 #[.pointer (some ⟨p, 0, none⟩)] w fun e w' => ∃ v, e = .returned v ∧ Own w' (New w) 3 1 v (M.ready ps).length ((M.ready ps).map (Value.int .i64)) ∧ Chg No w w' := by
  have H := Lib.hid h
  clear h
  obtain ⟨i0, hi, hz0, hz1, hz2⟩ := info_parts info3
  go_enter Tryz.func62, Tryz.ntmps62
  go_wp2_with fail
  refine (all_any w S p ps made H.out hn).mono ?_
  rintro e w1 ⟨v, rfl, ho, hc⟩
  obtain ⟨va, cap, hv⟩ := ho.sl
  subst hv
  have HO := Lib.hid ho
  have HC := Lib.hid hc
  clear ho hc
  go_wp2_with fail
  go_loopw [3, 9] (fun s i wr => ∃ n : Nat, n ≤ ps.length ∧ i = .int .i64 n ∧ Own wr (New w1) 3 1 s (M.ready (ps.take n)).length ((M.ready (ps.take n)).map (Value.int .i64)) ∧ Chg No w1 wr) (fun _ i _ => ps.length - (intOf i).toNat)
  case atStart => exact ⟨0, Nat.zero_le _, rfl, Own.nil _ _ _ _, Chg.refl _ _⟩
  case round =>
    obtain ⟨n, hk, rfl, hos, hc⟩ := hrel
    by_cases hlt : n < ps.length
    · obtain ⟨g, o, rfl, hS, hg, hcap, hmax⟩ := HO.out.some_ (by omega)
      obtain ⟨q, hq⟩ : ∃ q, ps[n]? = some q := ⟨ps[n], List.getElem?_eq_getElem hlt⟩
      obtain ⟨b0, b1, b2, b3⟩ := pods_cells (HO.out.kept hc) hq
      have HT : Hid (ps.take (n + 1) = ps.take n ++ [q]) := by show _ = _; rw [List.take_add_one, hq]; rfl
      have HK := Lib.hid hc
      have hcnt : (M.ready (ps.take n)).length ≤ n := by unfold M.ready; rw [List.length_map]; exact Nat.le_trans (List.length_filter_le _ _) (by simp; omega)
      have HN := M.ready_snoc (ps.take n) q
      rw [← HT.out] at HN
      have HN' := Lib.hid HN
      have HS := Lib.hid hos
      clear hq hc hmax hS HN hos
      generalize M.ready (ps.take n) = rs at *
      cases hst : q.st == 2
      · rw [hst] at HN'
        go_wp2
        go_roundw
        case rel => exact ⟨n + 1, by omega, by go_num, by rw [HN'.out]; simpa using HS.out.alloc _, HK.out.alloc _⟩
        case measure => simp [intOf]; omega
      · rw [hst] at HN'
        have HS2 := Lib.hid ((HS.out.alloc (.cells q.cells.toArray 41)).alloc (.cells #[.int .i64 q.id] 3))
        go_wp2_with (at_builtin; refine wpList_app _ rfl _ _ 76 rfl (New w1) 3 i0 _ 1 8 Tryz.underlying76 hi hz0 hz1 hz2 rfl _ _ _ rfl HS2.out ⟨wr.heap.size + 1, 0, none⟩ 1 1 [.int .i64 q.id] rfl (by decide) rfl (built_at (by simp)) (by simp [Value.oneCell']) (by simp only [maxLen]; omega) (by omega) ?_; intro g2 o2 c2 w' ho' hc')
        go_roundw
        case rel =>
          obtain ⟨h1, h2⟩ := fresh_app (HK.out.alloc _) ho' hc'
          exact ⟨n + 1, by omega, by go_num, by rw [HN'.out]; simpa using h1, h2⟩
        case measure => simp [intOf]; omega
    · obtain rfl : n = ps.length := by omega
      rw [List.take_length] at hos
      go_wp2
      go_ret
      exact ⟨_, rfl, hos.mono fun k _ hk => New.mono HC.out.size hk, HC.out.trans hc⟩

end Go.Proofs.YtdgphoemjeakaaaGreatDoor.A

/-! Package life: next, Ripe, at. -/
namespace Go.Proofs.YtdgphoemjeakaaaGreatDoor.A
open Go.RowKit Go.Shelf Go.Proofs.YtdgphoemjeakaaaGreatDoor.K
open Go.Proofs.YtdgphoemjeakaaaGreatDoor.M (Pod)
set_option maxRecDepth 100000

theorem next_skip {ps : List Pod} {n : Nat} {q : Pod} (hq : ps[n]? = some q) (h3 : (q.st == 3) = true) : M.nextTo ps (n + 1) = M.nextTo ps n := by
  simp only [M.nextTo, hq, h3, if_true]
theorem next_first {ps : List Pod} {n : Nat} {q : Pod} (hq : ps[n]? = some q) (h3 : (q.st == 3) = false) (h0 : M.nextTo ps n < 0) : M.nextTo ps (n + 1) = n := by
  simp [M.nextTo, hq, h3, h0]
theorem next_turn {ps : List Pod} {n : Nat} {q b : Pod} (hq : ps[n]? = some q) (h3 : (q.st == 3) = false) (h0 : ¬ M.nextTo ps n < 0) (hb : ps[(M.nextTo ps n).toNat]? = some b) (ha : M.ahead q b = true) : M.nextTo ps (n + 1) = n := by
  simp [M.nextTo, hq, h3, h0, hb, ha]
theorem next_stay {ps : List Pod} {n : Nat} {q b : Pod} (hq : ps[n]? = some q) (h3 : (q.st == 3) = false) (h0 : ¬ M.nextTo ps n < 0) (hb : ps[(M.nextTo ps n).toNat]? = some b) (ha : M.ahead q b = false) : M.nextTo ps (n + 1) = M.nextTo ps n := by
  simp [M.nextTo, hq, h3, h0, hb, ha]

set_option maxHeartbeats 2000000 in
theorem next_any (w : World) (S : Nat → Prop) (p : Nat) (ps : List Pod) (made : Int) (h : Life w S p ps made) (hn : ps.length ≤ 1099511627776) :
    Calls Tryz.prog 44 #[.pointer (some ⟨p, 0, none⟩)] w fun e w' => e = .returned (.int .i64 (M.nextTo ps ps.length)) ∧ Chg No w w' := by
  have H := Lib.hid h
  clear h
  go_enter Tryz.func44, Tryz.ntmps44
  go_wp2_with fail
  refine (all_any w S p ps made H.out hn).mono ?_
  rintro e w1 ⟨v, rfl, ho, hc⟩
  obtain ⟨va, cap, hv⟩ := ho.sl
  subst hv
  have HO := Lib.hid ho
  have HC := Lib.hid hc
  clear ho hc
  obtain ⟨v, es, HL, hes⟩ := H.out.kept HC.out
  go_wp2_with fail
  go_loopw [3, 10] (fun s i wr => ∃ n : Nat, n ≤ ps.length ∧ i = .int .i64 n ∧ s = .int .i64 (M.nextTo ps n) ∧ Chg No w1 wr) (fun _ i _ => ps.length - (intOf i).toNat)
  case atStart => exact ⟨0, Nat.zero_le _, rfl, rfl, Chg.refl _ _⟩
  case round =>
    obtain ⟨n, hk, rfl, rfl, hc⟩ := hrel
    obtain ⟨a1, a2⟩ := M.nextTo_bd ps n
    by_cases hlt : n < ps.length
    · obtain ⟨g, o, rfl, hS, hg, hcap, hmax⟩ := HO.out.some_ (by omega)
      obtain ⟨q, hq⟩ : ∃ q, ps[n]? = some q := ⟨ps[n], List.getElem?_eq_getElem hlt⟩
      obtain ⟨b0, b1, b2, b3⟩ := pods_cells (HO.out.kept hc) hq
      have HK := Lib.hid hc
      have HL2 := Lib.hid ((HL.kept hc).kept ((Chg.refl No wr).alloc (.cells #[.int .i64 q.id, .int .i64 q.st, .int .i64 q.busy, .int .i64 q.since] 41)))
      have HLW := Lib.hid (HL.kept hc)
      clear hmax hS hc
      cases h3 : q.st == 3
      · by_cases h0 : M.nextTo ps n < 0
        · have HN := Lib.hid (next_first hq h3 h0)
          clear hq
          generalize M.nextTo ps n = m at *
          go_wp2
          go_roundw
          case rel => exact ⟨n + 1, by omega, by go_num, by rw [HN.out], HK.out.alloc _⟩
          case measure => simp [intOf]; omega
        · obtain ⟨m, hm⟩ : ∃ m : Nat, M.nextTo ps n = m := ⟨(M.nextTo ps n).toNat, by omega⟩
          obtain ⟨b, hb⟩ : ∃ b, ps[m]? = some b := ⟨ps[m]'(by omega), List.getElem?_eq_getElem _⟩
          obtain ⟨⟨bb, b'⟩, hbb⟩ : ∃ x, es[m]? = some x := ⟨es[m]'(by rw [← hes] at hlt; simp at hlt; omega), List.getElem?_eq_getElem _⟩
          have e1 : b' = b := by
            rw [← hes, List.getElem?_map, hbb] at hb
            exact Option.some.inj hb
          subst e1
          obtain ⟨_, hB⟩ := HLW.out.pods _ (List.mem_of_getElem? hbb)
          have c1 : wr.cell? ⟨bb, 1, none⟩ = some (.int .i64 b'.st) := Blk.cell hB 1
          have c2 : wr.cell? ⟨bb, 2, none⟩ = some (.int .i64 b'.busy) := Blk.cell hB 2
          have hbl := hB.lt
          have hb2 : ps[(M.nextTo ps n).toNat]? = some b' := by rw [hm]; exact hb
          have HT : Hid (M.ahead q b' = true → M.nextTo ps (n + 1) = n) := fun ha => next_turn hq h3 h0 hb2 ha
          have HF : Hid (M.ahead q b' = false → M.nextTo ps (n + 1) = m) := fun ha => by rw [next_stay hq h3 h0 hb2 ha, hm]
          have HB := Lib.hid hbb
          rw [hm]
          clear hb2 hbb hb hq hB hm h0 a1 a2
          cases x1 : q.st == 1 <;> cases x2 : b'.st == 2 <;> cases x3 : decide (q.busy ≤ b'.busy)
          all_goals
            go_wp2_with fail
            refine (pod_at _ S p v es made HL2.out _ bb b' (by omega) (by rw [Int.toNat_natCast]; exact HB.out)).mono ?_
            rintro e w' ⟨rfl, rfl⟩
            go_wp2_with fail
            go_quiet (fail)
            go_wp2
            go_roundw
            case rel => exact ⟨n + 1, by omega, by go_num, by first | rw [HT.out (by unfold M.ahead; rw [x1, x2, x3]; rfl)] | rw [HF.out (by unfold M.ahead; rw [x1, x2, x3]; rfl)], (HK.out.alloc _).drewN _⟩
            case measure => simp [intOf]; omega
      · have HN := Lib.hid (next_skip hq h3)
        clear hq
        generalize M.nextTo ps n = m at *
        go_wp2
        go_roundw
        case rel => exact ⟨n + 1, by omega, by go_num, by rw [HN.out], HK.out.alloc _⟩
        case measure => simp [intOf]; omega
    · obtain rfl : n = ps.length := by omega
      go_wp2
      go_ret
      exact ⟨rfl, HC.out.trans hc⟩

end Go.Proofs.YtdgphoemjeakaaaGreatDoor.A

/-! Package life: Ripe, at, Enter, Leave. -/
namespace Go.Proofs.YtdgphoemjeakaaaGreatDoor.A
open Go.RowKit Go.Shelf Go.Proofs.YtdgphoemjeakaaaGreatDoor.K
open Go.Proofs.YtdgphoemjeakaaaGreatDoor.M (Pod)
set_option maxRecDepth 100000

/-- The first n had their look. -/
def ripeTo (now after : Int) (es : List (Nat × Pod)) (n : Nat) : List (Nat × Pod) := (es.take n).map (fun x => (x.1, M.ripe now after x.2)) ++ es.drop n
theorem ripeTo_len (now after : Int) (es : List (Nat × Pod)) (n : Nat) : (ripeTo now after es n).length = es.length := by
  simp [ripeTo]; omega
theorem ripeTo_at {now after : Int} {es : List (Nat × Pod)} {n : Nat} (hn : n < es.length) : (ripeTo now after es n)[n]? = es[n]? := by
  unfold ripeTo
  rw [List.getElem?_append_right (by simp; omega), List.getElem?_drop]
  congr 1
  simp
  omega
theorem ripeTo_set {now after : Int} {es : List (Nat × Pod)} {n : Nat} {b : Nat} {q : Pod} (hq : es[n]? = some (b, q)) : (ripeTo now after es n).set n (b, M.ripe now after q) = ripeTo now after es (n + 1) := by
  have hn : n < es.length := (List.getElem?_eq_some_iff.1 hq).1
  unfold ripeTo
  rw [List.set_append_right _ _ (by simp; omega), List.take_add_one, hq, List.map_append]
  simp only [List.length_map, List.length_take, Nat.min_eq_left (Nat.le_of_lt hn), Nat.sub_self, Option.toList_some, List.map_cons, List.map_nil, List.append_assoc]
  congr 1
  rw [List.drop_eq_getElem_cons hn]
  rfl
theorem ripeTo_same {now after : Int} {es : List (Nat × Pod)} {n : Nat} {b : Nat} {q : Pod} (hq : es[n]? = some (b, q)) (hr : M.ripe now after q = q) : ripeTo now after es (n + 1) = ripeTo now after es n := by
  rw [← ripeTo_set hq, hr]
  have hn : n < es.length := (List.getElem?_eq_some_iff.1 hq).1
  have h2 : (ripeTo now after es n)[n]? = some (b, q) := by rw [ripeTo_at hn, hq]
  apply List.ext_getElem?
  intro t
  rw [List.getElem?_set]
  by_cases e : n = t
  · subst e
    rw [if_pos rfl, if_pos (by rw [ripeTo_len]; exact hn), h2]
  · rw [if_neg e]
theorem ripeTo_all (now after : Int) (es : List (Nat × Pod)) : (ripeTo now after es es.length).map Prod.snd = (es.map Prod.snd).map (M.ripe now after) := by
  simp [ripeTo, Function.comp_def]

set_option maxHeartbeats 2000000 in
theorem ripe_any (w : World) (S : Nat → Prop) (p : Nat) (ps : List Pod) (made : Int) (h : Life w S p ps made) (ok : M.Ok ps) (now after : Int) (a0 : 0 ≤ after) (a1 : after ≤ 100) :
    Calls Tryz.prog 23 #[.pointer (some ⟨p, 0, none⟩), .int .i64 now, .int .i64 after] w fun e w' => e = .returned (.tuple #[]) ∧ Life w' S p (ps.map (M.ripe now after)) made ∧ Chg S w w' := by
  obtain ⟨v, es, h, rfl⟩ := h
  obtain ⟨hn, ok⟩ := ok
  rw [List.length_map] at hn
  have c0 : w.cell? ⟨p, 0, none⟩ = some v := Blk.cell h.blk 0
  obtain ⟨va, cap, hv⟩ := h.row.sl
  rw [hv] at c0
  have H := Lib.hid h
  have OK := Lib.hid ok
  clear h hv ok
  have k1 : decide (after < 0) = false := decide_eq_false (by omega)
  have k2 : decide (100 < after) = false := decide_eq_false (by omega)
  go_enter Tryz.func23, Tryz.ntmps23
  go_wp2_with fail
  go_loopw [23] (fun i wr => ∃ n : Nat, n ≤ es.length ∧ i = .int .i64 n ∧ Hid (LifeV wr S p v (ripeTo now after es n) made) ∧ Hid (Chg S w wr)) (fun i _ => es.length - (intOf i).toNat)
  case atStart => exact ⟨0, Nat.zero_le _, rfl, by rw [show ripeTo now after es 0 = es from by simp [ripeTo]]; exact H, Chg.refl _ _⟩
  case round =>
    obtain ⟨n, hk, rfl, HL, HC⟩ := hrel
    by_cases hlt : n < es.length
    · obtain ⟨⟨b, q⟩, hq⟩ : ∃ x, es[n]? = some x := ⟨es[n], List.getElem?_eq_getElem hlt⟩
      have hq2 : (ripeTo now after es n)[n]? = some (b, q) := by rw [ripeTo_at hlt, hq]
      obtain ⟨hSb, hB⟩ := HL.out.pods _ (List.mem_of_getElem? hq2)
      obtain ⟨_, s0, s1⟩ := OK.out q (List.mem_map.2 ⟨(b, q), List.mem_of_getElem? hq, rfl⟩)
      have b1 : wr.cell? ⟨b, 1, none⟩ = some (.int .i64 q.st) := Blk.cell hB 1
      have b3 : wr.cell? ⟨b, 3, none⟩ = some (.int .i64 q.since) := Blk.cell hB 3
      have f1 := Blk.free hB 1
      have HB := Lib.hid hB
      have HQ := Lib.hid hq
      have HQ2 := Lib.hid hq2
      have HS := Lib.hid hSb
      clear hB hq hq2 hSb
      cases x1 : q.st == 1 <;> cases x2 : decide (q.since + after ≤ now)
      all_goals
        go_wp2_with (go_at_call 45; refine (pod_at _ S p v _ made HL.out _ b q (by omega) (by rw [Int.toNat_natCast]; exact HQ2.out)).mono ?_; rintro e w' ⟨rfl, rfl⟩)
        go_roundw
        case rel =>
          first
          | exact ⟨n + 1, by omega, by go_num, by rw [ripeTo_same HQ.out (by unfold M.ripe; rw [x1, x2]; rfl)]; exact HL.out, HC.out⟩
          | exact ⟨n + 1, by omega, by go_num, by rw [← ripeTo_set HQ.out]; exact HL.out.setPod HQ2.out (by have := HB.out.set 1 (.int .i64 2); unfold M.ripe; rw [x1, x2]; exact this), HC.out.set (fun _ => HS.out) _⟩
        case measure => simp [intOf]; omega
    · obtain rfl : n = es.length := by omega
      go_wp2
      go_end0
      exact ⟨rfl, ⟨v, _, HL.out, ripeTo_all _ _ _⟩, HC.out⟩

end Go.Proofs.YtdgphoemjeakaaaGreatDoor.A

/-! Package life: at, Enter, Leave. -/
namespace Go.Proofs.YtdgphoemjeakaaaGreatDoor.A
open Go.RowKit Go.Shelf Go.Proofs.YtdgphoemjeakaaaGreatDoor.K
open Go.Proofs.YtdgphoemjeakaaaGreatDoor.M (Pod)
set_option maxRecDepth 100000

set_option maxHeartbeats 1000000 in
theorem at_pred (w : World) (b B : Nat) (x id : Int) (hb : w.cell? ⟨b, 0, none⟩ = some (.int .i64 x)) (hB : w.cell? ⟨B, 0, none⟩ = some (.int .i64 id)) :
    Calls Tryz.prog 116 #[.iface 96 (.pointer (some ⟨b, 0, none⟩)), .pointer (some ⟨B, 0, none⟩)] w fun e w' => e = .returned (.bool (x == id)) ∧ Chg No w w' := by
  go_enter Tryz.func116, Tryz.ntmps116
  go_wp2
  go_quiet (fail)
  go_wp2
  go_ret
  exact ⟨rfl, (Chg.refl _ _).drewN _⟩

set_option maxHeartbeats 1000000 in
theorem at_any (w : World) (S : Nat → Prop) (p : Nat) (v : Value) (es : List (Nat × Pod)) (made : Int) (h : LifeV w S p v es made) (hn : es.length ≤ 1099511627776) (id : Int) :
    Calls Tryz.prog 81 #[.pointer (some ⟨p, 0, none⟩), .int .i64 id] w fun e w' => ∃ r, e = .returned (.int .i64 r) ∧ Hid ((r = -1 ∧ (es.map Prod.snd).findIdx? (fun q => q.id == id) = none) ∨ ∃ k : Nat, r = k ∧ k < es.length ∧ (es.map Prod.snd).findIdx? (fun q => q.id == id) = some k) ∧ Chg No w w' := by
  have c0 : w.cell? ⟨p, 0, none⟩ = some v := Blk.cell h.blk 0
  have eg : ∀ args w, (callFunc 116 args).run Tryz.prog w = .ok (.enter 116 args) w := enters_of Tryz.func116 (by kernel_rfl) rfl
  have cA : Chg No w (w.alloc (.cells #[.int .i64 id] 3)) := (Chg.refl No w).alloc _
  have hA : Blk (w.alloc (.cells #[.int .i64 id] 3)) w.heap.size #[.int .i64 id] 3 := Blk.new _ _ _
  have hI := G.index_func (fun x : Nat × Pod => Value.iface 96 (ref x)) (fun x => x.2.id == id) es 116 #[.pointer (some ⟨w.heap.size, 0, none⟩)] eg (w.alloc (.cells #[.int .i64 id] 3)) S v (h.row.kept cA) hn (fun W x hx hc => by
    have hB := ((h.kept cA).kept hc).pods x hx
    exact at_pred W x.1 w.heap.size x.2.id id (Blk.cell hB.2 0) (Blk.cell (hA.kept hc) 0))
  have HI := Lib.hid hI
  have HC := Lib.hid cA
  have hp := h.blk.lt
  clear h hA hI cA
  go_enter Tryz.func81, Tryz.ntmps81
  go_wp2_with fail
  refine HI.out.mono ?_
  rintro e w' ⟨r, rfl, hf, hc⟩
  have HF := Lib.hid hf
  have HC2 := Lib.hid hc
  clear hf hc
  go_wp2
  go_ret
  exact ⟨r, rfl, first_idx (f := fun q => q.id == id) HF.out, HC.out.trans HC2.out⟩

theorem life_set {w' : World} {S : Nat → Prop} {p : Nat} {v : Value} {es : List (Nat × Pod)} {made : Int} {k : Nat} {b : Nat} {q : Pod} (h : LifeV w' S p v (es.set k (b, q)) made) : Life w' S p ((es.map Prod.snd).set k q) made := ⟨v, _, h, by rw [List.map_set]⟩

set_option maxHeartbeats 2000000 in
theorem enter_any (w : World) (S : Nat → Prop) (p : Nat) (ps : List Pod) (made : Int) (h : Life w S p ps made) (ok : M.Ok ps) (id : Int) (hb : ∀ q, q ∈ ps → q.busy < 1099511627776) :
    Calls Tryz.prog 80 #[.pointer (some ⟨p, 0, none⟩), .int .i64 id] w fun e w' => e = .returned (.int .i64 (M.enter ps id).1) ∧ Life w' S p (M.enter ps id).2 made ∧ Chg S w w' := by
  obtain ⟨v, es, h, rfl⟩ := h
  obtain ⟨hn, ok⟩ := ok
  rw [List.length_map] at hn
  have HA := Lib.hid (at_any w S p v es made h hn id)
  have H := Lib.hid h
  have OK := Lib.hid ok
  clear h ok
  go_enter Tryz.func80, Tryz.ntmps80
  go_wp2_with fail
  refine HA.out.mono ?_
  rintro e w1 ⟨r, rfl, hf, hc⟩
  have HC := Lib.hid hc
  clear hc
  have HL := Lib.hid (H.out.kept HC.out)
  rcases hf.out with ⟨rfl, h1⟩ | ⟨k, rfl, hkl, h1⟩
  · have E : Hid (M.enter (es.map Prod.snd) id = (7, es.map Prod.snd)) := by show _ = _; simp only [M.enter, h1]
    clear h1 hf
    go_wp2
    go_ret
    rw [E.out]
    exact ⟨rfl, ⟨v, es, HL.out, rfl⟩, HC.out.of_no⟩
  · obtain ⟨⟨b, q⟩, hq⟩ : ∃ x, es[k]? = some x := ⟨es[k], List.getElem?_eq_getElem hkl⟩
    have hq2 : (es.map Prod.snd)[k]? = some q := by rw [List.getElem?_map, hq]; rfl
    obtain ⟨hSb, hB⟩ := HL.out.pods _ (List.mem_of_getElem? hq)
    have b1 : w1.cell? ⟨b, 1, none⟩ = some (.int .i64 q.st) := Blk.cell hB 1
    have b2 : w1.cell? ⟨b, 2, none⟩ = some (.int .i64 q.busy) := Blk.cell hB 2
    have f2 := Blk.free hB 2
    obtain ⟨⟨q0, q1⟩, _⟩ := OK.out q (List.mem_of_getElem? hq2)
    have q3 := hb q (List.mem_of_getElem? hq2)
    have HB := Lib.hid hB
    have HQ := Lib.hid hq
    have HS := Lib.hid hSb
    have E : Hid (M.enter (es.map Prod.snd) id = if q.st != 2 then (7, es.map Prod.snd) else (0, (es.map Prod.snd).set k { q with busy := q.busy + 1 })) := by show _ = _; simp only [M.enter, h1, hq2]
    clear hB hq hq2 hSb h1 hf hb
    cases x1 : q.st != 2
    · go_wp2_with (go_at_call 45; refine (pod_at _ S p v _ made HL.out _ b q (by omega) (by rw [Int.toNat_natCast]; exact HQ.out)).mono ?_; rintro e w' ⟨rfl, rfl⟩)
      go_ret
      rw [E.out, x1]
      exact ⟨rfl, life_set (HL.out.setPod HQ.out (HB.out.set 2 (.int .i64 (q.busy + 1)))), HC.out.of_no.set (fun _ => HS.out) _⟩
    · go_wp2_with (go_at_call 45; refine (pod_at _ S p v _ made HL.out _ b q (by omega) (by rw [Int.toNat_natCast]; exact HQ.out)).mono ?_; rintro e w' ⟨rfl, rfl⟩)
      go_ret
      rw [E.out, x1]
      exact ⟨rfl, ⟨v, es, HL.out, rfl⟩, HC.out.of_no⟩

end Go.Proofs.YtdgphoemjeakaaaGreatDoor.A

/-! Package life: Leave. -/
namespace Go.Proofs.YtdgphoemjeakaaaGreatDoor.A
open Go.RowKit Go.Shelf Go.Proofs.YtdgphoemjeakaaaGreatDoor.K
open Go.Proofs.YtdgphoemjeakaaaGreatDoor.M (Pod)
set_option maxRecDepth 100000

theorem map_erase {α β : Type} (f : α → β) (l : List α) (k : Nat) : (l.map f).eraseIdx k = (l.eraseIdx k).map f := by
  rw [List.eraseIdx_eq_take_drop_succ, List.eraseIdx_eq_take_drop_succ, List.map_append, List.map_take, List.map_drop]

/-- A pod is gone. -/
theorem LifeV.erase {w w' : World} {S : Nat → Prop} {p : Nat} {v v' : Value} {es : List (Nat × Pod)} {made : Int} (h : LifeV w S p v es made) {k : Nat} (hk : k < es.length) (own : Own w' (Arr w S) 20 1 v' (es.length - 1) ((es.map fun x => Value.iface 96 (ref x)).eraseIdx k)) (c : Chg (Arr w S) w w') :
    LifeV (w'.setCell ⟨p, 0, none⟩ v') S p v' (es.eraseIdx k) made := by
  have hb := h.blk.chg c (h.blk.no_arr (by decide))
  have e1 : (es.map fun x => Value.iface 96 (ref x)).eraseIdx k = (es.eraseIdx k).map fun x => Value.iface 96 (ref x) := map_erase _ _ _
  refine ⟨fun k hk => by have := h.bd k hk; have := c.size; simp [World.setCell]; omega, h.own, hb.set 0 v', ?_, ?_, fun x hx => ?_⟩
  · rw [List.length_eraseIdx_of_lt hk, ← e1]
    exact (own.mono fun _ _ h => h.1).other hb (by decide) v'
  · rw [← map_erase]
    exact h.nodup.sublist (List.eraseIdx_sublist _ _)
  · obtain ⟨h1, h2⟩ := h.pods x (List.mem_of_mem_eraseIdx hx)
    exact ⟨h1, (h2.chg c (h2.no_arr (by decide))).other (h2.ne h.blk (by decide)) v'⟩

theorem ifaces_one (es : List (Nat × Pod)) : ∀ u, u ∈ (es.map fun x => Value.iface 96 (ref x)) → u.oneCell' = true := by
  intro u hu
  obtain ⟨x, _, rfl⟩ := List.mem_map.1 hu
  rfl

set_option maxHeartbeats 2000000 in
theorem leave_any (w : World) (S : Nat → Prop) (p : Nat) (ps : List Pod) (made : Int) (h : Life w S p ps made) (ok : M.Ok ps) (id : Int) :
    Calls Tryz.prog 54 #[.pointer (some ⟨p, 0, none⟩), .int .i64 id] w fun e w' => e = .returned (.int .i64 (M.leave ps id).1) ∧ Life w' S p (M.leave ps id).2 made ∧ Chg S w w' := by
  obtain ⟨v, es, h, rfl⟩ := h
  obtain ⟨hn, ok⟩ := ok
  rw [List.length_map] at hn
  have HA := Lib.hid (at_any w S p v es made h hn id)
  have H := Lib.hid h
  have OK := Lib.hid ok
  clear h ok
  go_enter Tryz.func54, Tryz.ntmps54
  go_wp2_with fail
  refine HA.out.mono ?_
  rintro e w1 ⟨r, rfl, hf, hc⟩
  have HC := Lib.hid hc
  clear hc
  have HL := Lib.hid (H.out.kept HC.out)
  rcases hf.out with ⟨rfl, h1⟩ | ⟨k, rfl, hkl, h1⟩
  · have E : Hid (M.leave (es.map Prod.snd) id = (7, es.map Prod.snd)) := by show _ = _; simp only [M.leave, h1]
    clear h1 hf
    go_wp2
    go_ret
    rw [E.out]
    exact ⟨rfl, ⟨v, es, HL.out, rfl⟩, HC.out.of_no⟩
  · obtain ⟨⟨b, q⟩, hq⟩ : ∃ x, es[k]? = some x := ⟨es[k], List.getElem?_eq_getElem hkl⟩
    have hq2 : (es.map Prod.snd)[k]? = some q := by rw [List.getElem?_map, hq]; rfl
    obtain ⟨hSb, hB⟩ := HL.out.pods _ (List.mem_of_getElem? hq)
    have b1 : w1.cell? ⟨b, 1, none⟩ = some (.int .i64 q.st) := Blk.cell hB 1
    have b2 : w1.cell? ⟨b, 2, none⟩ = some (.int .i64 q.busy) := Blk.cell hB 2
    have f2 := Blk.free hB 2
    obtain ⟨⟨q0, q1⟩, _⟩ := OK.out q (List.mem_of_getElem? hq2)
    have HB := Lib.hid hB
    have HQ := Lib.hid hq
    have HS := Lib.hid hSb
    have hkn : k < (es.map Prod.snd).length := by simpa using hkl
    have E : Hid (M.leave (es.map Prod.snd) id = if q.busy == 0 then (7, es.map Prod.snd) else if q.busy - 1 == 0 && q.st == 3 then (0, (es.map Prod.snd).eraseIdx k) else (0, (es.map Prod.snd).set k { q with busy := q.busy - 1 })) := by show _ = _; simp only [M.leave, h1, hq2]
    have HL2 := Lib.hid (HL.out.setPod (q' := { q with busy := q.busy - 1 }) hq (hB.set 2 (.int .i64 (q.busy - 1))))
    have hp0 : w1.cell? ⟨p, 0, none⟩ = some v := Blk.cell HL.out.blk 0
    have hne : b ≠ p := hB.ne HL.out.blk (by decide)
    have C2 : Hid (Chg S w (w1.setCell ⟨b, 2, none⟩ (.int .i64 (q.busy - 1)))) := HC.out.of_no.set (fun _ => HS.out) _
    clear hB hq hq2 hSb h1 hf
    cases x1 : q.busy == 0
    · rw [x1] at E
      cases x2 : q.busy - 1 == 0 <;> cases x3 : q.st == 3
      case true.true =>
        rw [x2, x3] at E
        have hone := ifaces_one (es.set k (b, { q with busy := q.busy - 1 }))
        have hdel := Lib.hid (G.delete_one _ _ _ _ (by rw [List.length_map]; exact HL2.out.row.arr) (by simpa using hn) hone k (by simpa using hkl))
        clear hone
        go_wp2_with fail
        refine (pod_at _ S p v _ made HL.out _ b q (by omega) (by rw [Int.toNat_natCast]; exact HQ.out)).mono ?_
        rintro e w' ⟨rfl, rfl⟩
        go_wp2_with fail
        refine (pod_at _ S p v _ made HL.out _ b q (by omega) (by rw [Int.toNat_natCast]; exact HQ.out)).mono ?_
        rintro e w' ⟨rfl, rfl⟩
        go_wp2_with fail
        refine hdel.out.mono ?_
        rintro e w2 ⟨v', rfl, ho, hc⟩
        rw [List.length_map, List.length_set] at ho
        have HO := Lib.hid ho
        have HC2 := Lib.hid hc
        have bp := Lib.hid (HL2.out.blk.chg hc (HL2.out.blk.no_arr (by decide)))
        have c0 : w2.cell? ⟨p, 0, none⟩ = some v := Blk.cell bp.out 0
        have fp : w2.frozen? ⟨p, 0, none⟩ = false := Blk.free bp.out 0
        obtain ⟨va', cap', hv'⟩ := HO.out.sl
        subst hv'
        clear ho hc
        go_wp2
        go_ret
        rw [E.out]
        refine ⟨rfl, ⟨_, _, HL2.out.erase (by simpa using hkl) (by rw [List.length_set]; exact HO.out) HC2.out, ?_⟩, (C2.out.step HC2.out fun _ _ h => h.1).set (fun _ => H.out.own) _⟩
        rw [List.eraseIdx_set_eq, ← map_erase]
        rfl
      all_goals
        rw [x2, x3] at E
        go_wp2_with (go_at_call 45; refine (pod_at _ S p v _ made HL.out _ b q (by omega) (by rw [Int.toNat_natCast]; exact HQ.out)).mono ?_; rintro e w' ⟨rfl, rfl⟩)
        go_ret
        rw [E.out]
        exact ⟨rfl, life_set HL2.out, C2.out⟩
    · rw [x1] at E
      go_wp2_with (go_at_call 45; refine (pod_at _ S p v _ made HL.out _ b q (by omega) (by rw [Int.toNat_natCast]; exact HQ.out)).mono ?_; rintro e w' ⟨rfl, rfl⟩)
      go_ret
      rw [E.out]
      exact ⟨rfl, ⟨v, es, HL.out, rfl⟩, HC.out.of_no⟩

end Go.Proofs.YtdgphoemjeakaaaGreatDoor.A

/-! Package life: Scale, New. -/
namespace Go.Proofs.YtdgphoemjeakaaaGreatDoor.A
open Go.RowKit Go.Shelf Go.Proofs.YtdgphoemjeakaaaGreatDoor.K
open Go.Proofs.YtdgphoemjeakaaaGreatDoor.M (Pod)
set_option maxRecDepth 100000

/-- A pod more. -/
theorem LifeV.push {w1 wX w2 : World} {S : Nat → Prop} {p bn : Nat} {v v' : Value} {es : List (Nat × Pod)} {made m : Int} {q : Pod} (h : LifeV w1 S p v es made) (hX : Chg No w1 wX) (hB : Blk wX bn q.cells.toArray 41) (hbn : w1.heap.size ≤ bn)
    (own : Own w2 (K.nx (Arr w1 S) wX w2) 20 1 v' (es.length + 1) ((es.map fun x => Value.iface 96 (ref x)) ++ [.iface 96 (.pointer (some ⟨bn, 0, none⟩))])) (c : Chg (Arr w1 S) wX w2) :
    LifeV ((w2.setCell ⟨p, 0, none⟩ v').setCell ⟨p, 1, none⟩ (.int .i64 m)) (K.nx S w1 ((w2.setCell ⟨p, 0, none⟩ v').setCell ⟨p, 1, none⟩ (.int .i64 m))) p v' (es ++ [(bn, q)]) m := by
  have hp2 := (h.blk.kept hX).chg c (h.blk.no_arr (by decide))
  have hB2 := hB.chg c (fun hA => by have := h.bd bn hA.1; omega)
  have hsz : ((w2.setCell ⟨p, 0, none⟩ v').setCell ⟨p, 1, none⟩ (.int .i64 m)).heap.size = w2.heap.size := by simp [World.setCell]
  have s1 := hX.size
  have s2 := c.size
  refine ⟨fun k hk => hk.2, ⟨.inl h.own, by rw [hsz]; exact hp2.lt⟩, (hp2.set 0 v').set 1 _, ?_, ?_, fun x hx => ?_⟩
  · rw [List.length_append, List.map_append]
    refine Own.other (Own.other (own.mono fun k hk hS => ?_) hp2 (by decide) v') (hp2.set 0 v') (by decide) _
    exact ⟨hS.1.imp (fun h => h.1) (by omega), by rw [hsz]; exact hS.2⟩
  · rw [List.map_append, List.nodup_append]
    refine ⟨h.nodup, by simp, fun a ha b hb => ?_⟩
    obtain ⟨x, hx, rfl⟩ := List.mem_map.1 ha
    have hlt := h.bd _ (h.pods x hx).1
    simp at hb
    omega
  · rcases List.mem_append.1 hx with hx | hx
    · obtain ⟨h1, h2⟩ := h.pods x hx
      have h3 := (h2.kept hX).chg c (h2.no_arr (by decide))
      exact ⟨⟨.inl h1, by rw [hsz]; exact h3.lt⟩, (h3.other (h3.ne hp2 (by decide)) _).other (h3.ne hp2 (by decide)) _⟩
    · rw [List.mem_singleton.1 hx]
      exact ⟨⟨.inr hbn, by rw [hsz]; exact hB2.lt⟩, (hB2.other (hB2.ne hp2 (by decide)) _).other (hB2.ne hp2 (by decide)) _⟩

set_option maxHeartbeats 6000000 in
theorem scale_any (w : World) (S : Nat → Prop) (p : Nat) (ps : List Pod) (made : Int) (h : Life w S p ps made) (ok : M.Ok ps) (want : Nat) (now : Int) (hw : want ≤ 100) (n0 : 0 ≤ now) (n1 : now ≤ 1099511627776) (hl : ps.length + 200 ≤ 1099511627776) (m0 : 0 ≤ made) (m1 : made + 200 ≤ 1099511627776) :
    Calls Tryz.prog 22 #[.pointer (some ⟨p, 0, none⟩), .int .i64 want, .int .i64 now] w fun e w' => e = .returned (.int .i64 0) ∧ Life w' (K.nx S w w') p (M.scale want now ps made).1 (M.scale want now ps made).2 ∧ Chg S w w' := by
  have H := Lib.hid h
  have OK := Lib.hid ok
  clear h ok
  obtain ⟨i0, hi, hz0, hz1, hz2⟩ := info_parts G.info20
  have k1 : decide ((want : Int) < 0) = false := decide_eq_false (by omega)
  have k2 : decide ((100 : Int) < want) = false := decide_eq_false (by omega)
  have k3 : decide (now < 0) = false := decide_eq_false (by omega)
  have k4 : decide ((1099511627776 : Int) < now) = false := decide_eq_false (by omega)
  go_enter Tryz.func22, Tryz.ntmps22
  go_wp2_with fail
  go_loopg [] (want - M.count ps) (fun g wr => ∃ (ps' : List Pod) (made' : Int), g = want - M.count ps' ∧ Hid (Life wr (K.nx S w wr) p ps' made' ∧ Chg S w wr ∧ M.more now (want - M.count ps') (ps', made') = M.more now (want - M.count ps) (ps, made) ∧ M.Ok ps' ∧ ps'.length + (want - M.count ps') ≤ 1099511627776 ∧ 0 ≤ made' ∧ made' + (want - M.count ps' : Nat) ≤ 1099511627776))
  case atStart => exact ⟨ps, made, rfl, H.out.nx (Chg.refl _ _), Chg.refl _ _, rfl, OK.out, by omega, m0, by omega⟩
  case round =>
    obtain ⟨ps', made', rfl, HR⟩ := hrel
    have hl' := HR.out.2.2.2.1.1
    go_wp2_with fail
    refine (count_any _ _ p ps' made' HR.out.1 hl').mono ?_
    rintro e w1 ⟨rfl, hc⟩
    by_cases hlt : M.count ps' < want
    · obtain ⟨v', es, hL, rfl⟩ := HR.out.1.kept hc
      obtain ⟨r1, r2, r3, r4, r5, r6, r7⟩ := HR.out
      rw [List.length_map] at r5 hl'
      obtain ⟨g', hg⟩ : ∃ g', want - M.count (es.map Prod.snd) = g' + 1 := ⟨want - M.count (es.map Prod.snd) - 1, by omega⟩
      have c0 : w1.cell? ⟨p, 0, none⟩ = some v' := Blk.cell hL.blk 0
      have c1 : w1.cell? ⟨p, 1, none⟩ = some (.int .i64 made') := Blk.cell hL.blk 1
      have HL := Lib.hid hL
      have HC := Lib.hid hc
      have HA := Lib.hid hL.row.arr
      have R2 := Lib.hid r2
      have R3 := Lib.hid r3
      have R4 := Lib.hid r4
      have HG := Lib.hid hg
      have hpl := hL.blk.lt
      have m1' : made' + 1 ≤ 1099511627776 := by omega
      have hl2 : es.length + 1 ≤ 1099511627776 := by omega
      have hcn : Hid (want - M.count (es.map Prod.snd ++ [⟨made', 1, 0, now⟩]) = g') := by
        show _ = _
        rw [M.count_snoc]
        show want - (_ + 1) = g'
        have := HG.out
        omega
      have hs1 : w.heap.size ≤ w1.heap.size := Nat.le_trans R2.out.size HC.out.size
      have HR7 : Hid (made' + 1 + (g' : Nat) ≤ 1099511627776) := by show _ ≤ _; omega
      have HR5 : Hid (es.length + 1 + g' ≤ 1099511627776) := by show _ ≤ _; omega
      clear r1 r2 r3 r4 r5 r7 hL hc hg HR
      go_wp2_with fail
      go_region_law (refine step_app rfl (.tmp 35) (.tmp 44) 58 rfl (Arr w1 (K.nx S w wr)) 20 i0 .nilIface 1 16 Tryz.underlying58 hi hz0 hz1 hz2 rfl _ _ _ (by simp [Act.eval]) (HA.out.kept ((((Chg.refl No w1).drew).alloc _).alloc _)) ⟨w1.heap.size + 1, 0, none⟩ 1 1 [.iface 96 (.pointer (some ⟨w1.heap.size, 0, none⟩))] (by simp [Act.eval]) (by decide) rfl (built_at (by simp)) (by simp [Value.oneCell']) (by simp only [maxLen]; omega) (by omega) ?_; intro g2 o2 c2 w2 ho hc2; have hb2 := (HL.out.blk.kept ((((Chg.refl No w1).drew).alloc (.cells #[.int .i64 made', .int .i64 1, .int .i64 0, .int .i64 now] 41)).alloc (.cells #[.iface 96 (.pointer (some ⟨w1.heap.size, 0, none⟩))] 20))).chg hc2 (HL.out.blk.no_arr (by decide)); have c0' : w2.cell? ⟨p, 0, none⟩ = some v' := Blk.cell hb2 0; have c1' : w2.cell? ⟨p, 1, none⟩ = some (.int .i64 made') := Blk.cell hb2 1; have f0' := Blk.free hb2 0; have f1' := Blk.free hb2 1; have HO := Lib.hid ho; have HC2 := Lib.hid hc2; clear ho hc2 hb2)
      all_goals
        go_wp2
        go_roundg (want - M.count (es.map Prod.snd ++ [⟨made', 1, 0, now⟩]))
        case measure => have := HG.out; rw [hcn.out, this]; omega
        case rel =>
          have hX : Chg No w1 (((w1.alloc (.cells #[.int .i64 made', .int .i64 1, .int .i64 0, .int .i64 now] 41)).alloc (.cells #[.iface 96 (.pointer (some ⟨w1.heap.size, 0, none⟩))] 20)).drew) := (((Chg.refl No w1).alloc _).alloc _).drew
          have hL2 := HL.out.push (q := ⟨made', 1, 0, now⟩) (m := made' + 1) hX (((Blk.new w1 _ 41).alloc _)) (Nat.le_refl _) HO.out HC2.out
          refine ⟨es.map Prod.snd ++ [⟨made', 1, 0, now⟩], made' + 1, rfl, ⟨_, _, hL2.mono (fun k _ hk => nx_trans hs1 hk) (fun k hk => hk.2), by rw [List.map_append]; rfl⟩, ?_, ?_, ?_, ?_, by omega, ?_⟩
          · exact (((R2.out.trans (HC.out.of_no)).trans hX.of_no).step HC2.out fun k hk hA => hA.1.1.resolve_right (by omega)).set (fun hlt => (HL.out.own.1.resolve_right (by exact Nat.not_le.2 hlt))) _ |>.set (fun hlt => (HL.out.own.1.resolve_right (by exact Nat.not_le.2 hlt))) _
          · rw [hcn.out, ← R3.out, HG.out]; rfl
          · exact R4.out.more_one made' now (by rw [List.length_map]; omega) n0 n1
          · rw [hcn.out, List.length_append, List.length_map]; exact HR5.out
          · rw [hcn.out]; exact HR7.out
    · obtain ⟨r1, r2, r3, r4, r5, r6, r7⟩ := HR.out
      have hz : want - M.count ps' = 0 := by omega
      rw [hz] at r3
      have hfin : M.scale want now ps made = (M.fewer now (M.count ps' - want) ps', made') := by
        unfold M.scale
        rw [← r3]
        rfl
      have HF := Lib.hid hfin
      have R1 := Lib.hid (r1.kept hc)
      have R2 := Lib.hid (r2.trans hc.of_no)
      have R4 := Lib.hid r4
      have hge : want ≤ M.count ps' := by omega
      have hs1 : w.heap.size ≤ w1.heap.size := R2.out.size
      clear r1 r2 r3 r4 r5 r7 hc hfin HR
      go_wp2_with fail
      go_loopg [] (M.count ps' - want) (fun g wr => ∃ (qs : List Pod), g = M.count qs - want ∧ Hid (Life wr (K.nx S w wr) p qs made' ∧ Chg S w wr ∧ M.fewer now (M.count qs - want) qs = M.fewer now (M.count ps' - want) ps' ∧ M.Ok qs ∧ want ≤ M.count qs))
      case atStart => exact ⟨ps', rfl, R1.out.mono (fun k hk hS => ⟨hS.1, hk⟩) (fun k hk => hk.2), R2.out, rfl, R4.out, hge⟩
      case round =>
        obtain ⟨qs, rfl, HR⟩ := hrel
        have hl' := HR.out.2.2.2.1.1
        go_wp2_with fail
        refine (count_any _ _ p qs made' HR.out.1 hl').mono ?_
        rintro e w2 ⟨rfl, hc⟩
        by_cases hlt : want < M.count qs
        · obtain ⟨r1, r2, r3, r4, r5⟩ := HR.out
          obtain ⟨q, q0, hq, h3⟩ : ∃ q, 0 ≤ M.nextTo qs qs.length ∧ qs[(M.nextTo qs qs.length).toNat]? = some q ∧ (q.st == 3) = false := by
            rcases M.nextTo_ok qs qs.length (Nat.le_refl _) with h | ⟨_, h⟩
            · exact h
            · rw [List.take_length] at h
              omega
          obtain ⟨k, hk⟩ : ∃ k : Nat, M.nextTo qs qs.length = k := ⟨_, (Int.toNat_of_nonneg q0).symm⟩
          have hgone : M.gone now qs = if q.busy == 0 then qs.eraseIdx k else qs.set k { q with st := 3, since := now } := by
            unfold M.gone
            rw [hk, Int.toNat_natCast]
            rw [hk, Int.toNat_natCast] at hq
            rw [hq]
          rw [hk, Int.toNat_natCast] at hq
          obtain ⟨g', hg⟩ : ∃ g', M.count qs - want = g' + 1 := ⟨M.count qs - want - 1, by omega⟩
          have hcg := M.count_gone now qs (by omega)
          have hcn : Hid (M.count (M.gone now qs) - want = g') := by show _ = _; omega
          have hcw : Hid (want ≤ M.count (M.gone now qs)) := by show _ ≤ _; omega
          have R4' := Lib.hid (r4.gone_one now n0 n1)
          have HG := Lib.hid hg
          have R2 := Lib.hid (r2.trans hc.of_no)
          have R3 := Lib.hid r3
          have HN := Lib.hid (next_any w2 _ p qs made' (r1.kept hc) hl')
          obtain ⟨v', es, hL, rfl⟩ := r1.kept hc
          have HGO := Lib.hid hgone
          have hs2 : w.heap.size ≤ w2.heap.size := R2.out.size
          clear hgone hcg hg r1 r2 r3 r4 r5 hc h3 HR
          rw [hk] at HN
          clear hk q0
          go_wp2_with fail
          refine HN.out.mono ?_
          rintro e w3 ⟨rfl, hc⟩
          have HL := Lib.hid (hL.kept hc)
          have R2' := Lib.hid (R2.out.trans hc.of_no)
          have hkl : k < es.length := by have := (List.getElem?_eq_some_iff.1 hq).1; simpa using this
          obtain ⟨⟨b, q'⟩, hb⟩ : ∃ x, es[k]? = some x := ⟨es[k], List.getElem?_eq_getElem hkl⟩
          obtain rfl : q' = q := by rw [List.getElem?_map, hb] at hq; exact Option.some.inj hq
          obtain ⟨hSb, hB⟩ := HL.out.pods _ (List.mem_of_getElem? hb)
          have b1 : w3.cell? ⟨b, 1, none⟩ = some (.int .i64 q'.st) := Blk.cell hB 1
          have b2 : w3.cell? ⟨b, 2, none⟩ = some (.int .i64 q'.busy) := Blk.cell hB 2
          have b3 : w3.cell? ⟨b, 3, none⟩ = some (.int .i64 q'.since) := Blk.cell hB 3
          have f1 := Blk.free hB 1
          have f3 := Blk.free hB 3
          have c0 : w3.cell? ⟨p, 0, none⟩ = some v' := Blk.cell HL.out.blk 0
          have hs3 : w.heap.size ≤ w3.heap.size := Nat.le_trans hs2 hc.size
          have hll : es.length ≤ 1099511627776 := by simpa using hl'
          have HQ := Lib.hid hb
          have HB := Lib.hid hB
          have HS := Lib.hid hSb
          have hdel := Lib.hid (G.delete_one w3 _ _ _ (by rw [List.length_map]; exact HL.out.row.arr) (by simpa using hll) (ifaces_one es) k (by simpa using hkl))
          have hkb : k + 1 ≤ 1099511627776 := by omega
          clear hL hc hq hb hB hSb hl' hll
          go_wp2_with fail
          refine (pod_at _ _ p v' _ made' HL.out _ b q' (by omega) (by rw [Int.toNat_natCast]; exact HQ.out)).mono ?_
          rintro e w' ⟨rfl, rfl⟩
          cases x1 : q'.busy == 0
          · rw [x1] at HGO
            go_wp2
            go_roundg (M.count (M.gone now (es.map Prod.snd)) - want)
            case measure => have := HG.out; rw [hcn.out, this]; omega
            case rel =>
              have hL2 := (HL.out.setPod (q' := { q' with st := 3 }) HQ.out (HB.out.set 1 (.int .i64 3)))
              have hB2 : Blk ((w3.setCell ⟨b, 1, none⟩ (.int .i64 3)).setCell ⟨b, 3, none⟩ (.int .i64 now)) b _ 41 := (HB.out.set 1 (.int .i64 3)).set 3 (.int .i64 now)
              have hL3 := hL2.setPod (k := k) (q := { q' with st := 3 }) (q' := { q' with st := 3, since := now }) (by rw [List.getElem?_set_self hkl]) hB2
              refine ⟨_, rfl, ⟨v', _, hL3.mono (fun k hk hS => ⟨hS.1, by simpa [World.setCell] using hk⟩) (fun k hk => hk.2), ?_⟩, ?_, ?_, R4'.out, hcw.out⟩
              · rw [List.set_set, HGO.out, List.map_set]; rfl
              · exact (R2'.out.set (fun hlt => (HS.out.1.resolve_right (by exact Nat.not_le.2 hlt))) _).set (fun hlt => (HS.out.1.resolve_right (by exact Nat.not_le.2 hlt))) _
              · rw [hcn.out, ← R3.out, HG.out]; rfl
          · rw [x1] at HGO
            go_wp2_with fail
            refine hdel.out.mono ?_
            rintro e w4 ⟨v2, rfl, ho, hc⟩
            rw [List.length_map] at ho
            have HO := Lib.hid ho
            have HC2 := Lib.hid hc
            have bp := Lib.hid (HL.out.blk.chg hc (HL.out.blk.no_arr (by decide)))
            have c0 : w4.cell? ⟨p, 0, none⟩ = some v' := Blk.cell bp.out 0
            have fp : w4.frozen? ⟨p, 0, none⟩ = false := Blk.free bp.out 0
            obtain ⟨va', cap', hv'⟩ := HO.out.sl
            subst hv'
            clear ho hc
            go_wp2
            go_roundg (M.count (M.gone now (es.map Prod.snd)) - want)
            case measure => have := HG.out; rw [hcn.out, this]; omega
            case rel =>
              have hL2 := HL.out.erase hkl HO.out HC2.out
              refine ⟨_, rfl, ⟨_, _, hL2.mono (fun k hk hS => ⟨hS.1, hk⟩) (fun k hk => hk.2), ?_⟩, ?_, ?_, R4'.out, hcw.out⟩
              · rw [HGO.out, ← map_erase]; rfl
              · exact (R2'.out.step HC2.out fun k hk hA => hA.1.1.resolve_right (by omega)).set (fun hlt => (HL.out.own.1.resolve_right (by exact Nat.not_le.2 hlt))) _
              · rw [hcn.out, ← R3.out, HG.out]; rfl
        · obtain ⟨r1, r2, r3, r4, r5⟩ := HR.out
          have hz : M.count qs - want = 0 := by omega
          rw [hz] at r3
          have R1' := Lib.hid (r1.kept hc)
          have R2' := Lib.hid (r2.trans hc.of_no)
          have R3 := Lib.hid r3
          clear r1 r2 r3 r4 r5 hc HR
          go_wp2
          go_ret
          rw [HF.out]
          refine ⟨rfl, ?_, R2'.out⟩
          rw [← R3.out]
          exact R1'.out.mono (fun k hk hS => ⟨hS.1, hk⟩) fun k hk => hk.2
end Go.Proofs.YtdgphoemjeakaaaGreatDoor.A

/-! Package queue: what its methods do. Package life: New. -/
namespace Go.Proofs.YtdgphoemjeakaaaGreatDoor.B
open Go.RowKit Go.Shelf Go.Proofs.YtdgphoemjeakaaaGreatDoor.K Go.Proofs.YtdgphoemjeakaaaGreatDoor.A
set_option maxRecDepth 100000

/-- One that waits. -/
def one (x : Int × Int) : Value := .agg #[.int .i64 x.1, .int .i64 x.2]
/-- A queue: who waits, since when; how many may; when one was put last. -/
structure QueueV (w : World) (S : Nat → Prop) (p : Nat) (v : Value) (l : List (Int × Int)) (depth last : Int) : Prop where
  bd : ∀ k, S k → k < w.heap.size
  own : S p
  blk : Blk w p #[v, .int .i64 depth, .int .i64 last] 85
  row : Own w S 20 1 v l.length (l.map fun x => Value.iface 117 (one x))
def Queue (w : World) (S : Nat → Prop) (p : Nat) (l : List (Int × Int)) (depth last : Int) : Prop := ∃ v, QueueV w S p v l depth last

section
variable {w w' : World} {S T : Nat → Prop} {p : Nat} {v : Value} {l : List (Int × Int)} {depth last : Int}
theorem QueueV.chg (h : QueueV w S p v l depth last) (c : Chg T w w') (hd : ∀ k, S k → T k → False) : QueueV w' S p v l depth last :=
  ⟨fun k hk => Nat.lt_of_lt_of_le (h.bd k hk) c.size, h.own, h.blk.chg c (hd p h.own), h.row.chg c hd⟩
theorem QueueV.kept (h : QueueV w S p v l depth last) (c : Chg No w w') : QueueV w' S p v l depth last := h.chg c fun _ _ h => h
theorem QueueV.mono (h : QueueV w S p v l depth last) (hs : ∀ k, k < w.heap.size → S k → T k) (hb : ∀ k, T k → k < w.heap.size) : QueueV w T p v l depth last :=
  ⟨hb, hs p h.blk.lt h.own, h.blk, h.row.mono hs⟩
theorem Queue.chg (h : Queue w S p l depth last) (c : Chg T w w') (hd : ∀ k, S k → T k → False) : Queue w' S p l depth last := by
  obtain ⟨v, h⟩ := h
  exact ⟨v, h.chg c hd⟩
theorem Queue.kept (h : Queue w S p l depth last) (c : Chg No w w') : Queue w' S p l depth last := h.chg c fun _ _ h => h
theorem Queue.mono (h : Queue w S p l depth last) (hs : ∀ k, k < w.heap.size → S k → T k) (hb : ∀ k, T k → k < w.heap.size) : Queue w T p l depth last := by
  obtain ⟨v, h⟩ := h
  exact ⟨v, h.mono hs hb⟩
end

/-- 's[k:]', where it ends at the row's end too. -/
theorem own_from {w : World} {S : Nat → Prop} {e : TypeId} {g o cap n : Nat} {xs : List Value} (h : Own w S e 1 (.slice (some ⟨g, o, none⟩) n cap) n xs) (k : Nat) (hk : k ≤ n) : Own w S e 1 (.slice (if cap = k then some ⟨g, o, none⟩ else some ⟨g, o + k, none⟩) (n - k) (cap - k)) (n - k) (xs.drop k) := by
  have h1 := h.drop k hk
  simp only [Nat.mul_one] at h1
  by_cases hc : cap = k
  · rw [if_pos hc]
    obtain ⟨hS, hl, cur, hb, h2, h3, h4, h5⟩ := h.blk
    have hz : n - k = 0 := by omega
    refine ⟨h1.len, .inr ⟨g, o, cap - k, cur, rfl, hS, hb, by omega, by omega, by omega, ?_⟩⟩
    have hl2 := h1.len
    rw [hz] at hl2 ⊢
    rw [List.eq_nil_of_length_eq_zero (l := xs.drop k) (by simpa using hl2)]
    simp
  · rw [if_neg hc]
    exact h1

theorem life_new (w : World) : Calls Tryz.prog 17 #[] w fun e w' => e = .returned (.pointer (some ⟨w.heap.size, 0, none⟩)) ∧ w' = w.alloc (.cells #[.slice none 0 0, .int .i64 0] 83) := by
  go_enter Tryz.func17, Tryz.ntmps17
  go_wp2
  go_ret
  exact ⟨rfl, rfl⟩
theorem life_new_rep (w : World) : Life (w.alloc (.cells #[.slice none 0 0, .int .i64 0] 83)) (fun k => k = w.heap.size) w.heap.size [] 0 :=
  ⟨.slice none 0 0, [], ⟨fun k hk => by subst hk; simp, rfl, Blk.new _ _ _, Own.nil _ _ _ _, List.nodup_nil, fun x hx => by cases hx⟩, rfl⟩

theorem queue_new (w : World) (depth : Int) (d0 : 0 ≤ depth) (d1 : depth ≤ 200) : Calls Tryz.prog 18 #[.int .i64 depth] w fun e w' => e = .returned (.pointer (some ⟨w.heap.size, 0, none⟩)) ∧ w' = w.alloc (.cells #[.slice none 0 0, .int .i64 depth, .int .i64 (-9223372036854775808)] 85) := by
  have k1 : decide (depth < 0) = false := decide_eq_false (by omega)
  have k2 : decide (200 < depth) = false := decide_eq_false (by omega)
  go_enter Tryz.func18, Tryz.ntmps18
  go_wp2
  go_ret
  exact ⟨rfl, rfl⟩
theorem queue_new_rep (w : World) (depth last : Int) : Queue (w.alloc (.cells #[.slice none 0 0, .int .i64 depth, .int .i64 last] 85)) (fun k => k = w.heap.size) w.heap.size [] depth last :=
  ⟨.slice none 0 0, fun k hk => by subst hk; simp, rfl, Blk.new _ _ _, Own.nil _ _ _ _⟩

set_option maxHeartbeats 2000000 in
theorem put_full (w : World) (S : Nat → Prop) (p : Nat) (l : List (Int × Int)) (depth last id t : Int) (h : Queue w S p l depth last) (i0 : 0 ≤ id) (t0 : last ≤ t) (hd : depth ≤ l.length) :
    Calls Tryz.prog 50 #[.pointer (some ⟨p, 0, none⟩), .int .i64 id, .int .i64 t] w fun e w' => e = .returned (.int .i64 6) ∧ Chg No w w' := by
  obtain ⟨v, h⟩ := h
  have c0 : w.cell? ⟨p, 0, none⟩ = some v := Blk.cell h.blk 0
  have c1 : w.cell? ⟨p, 1, none⟩ = some (.int .i64 depth) := Blk.cell h.blk 1
  have c2 : w.cell? ⟨p, 2, none⟩ = some (.int .i64 last) := Blk.cell h.blk 2
  obtain ⟨va, cap, rfl⟩ := h.row.sl
  clear h
  have k1 : decide (id < 0) = false := decide_eq_false (by omega)
  have k2 : decide (t < last) = false := decide_eq_false (by omega)
  have k3 : decide (depth ≤ (l.length : Int)) = true := decide_eq_true hd
  go_enter Tryz.func50, Tryz.ntmps50
  go_wp2
  go_quiet (fail)
  go_wp2
  go_ret
  exact ⟨rfl, (Chg.refl _ _).drewN _⟩

theorem QueueV.setLast {w : World} {S : Nat → Prop} {p : Nat} {v : Value} {l : List (Int × Int)} {depth last : Int} (h : QueueV w S p v l depth last) (t : Int) : QueueV (w.setCell ⟨p, 2, none⟩ (.int .i64 t)) S p v l depth t :=
  ⟨by simpa [World.setCell] using h.bd, h.own, h.blk.set 2 _, h.row.other h.blk (by decide) _⟩
theorem QueueV.push {w1 w2 : World} {S : Nat → Prop} {p : Nat} {v v' : Value} {l : List (Int × Int)} {depth last id t : Int} (h : QueueV w1 S p v l depth last) (own : Own w2 (K.nx (Arr w1 S) w1 w2) 20 1 v' (l.length + 1) ((l.map fun x => Value.iface 117 (one x)) ++ [.iface 117 (one (id, t))])) (c : Chg (Arr w1 S) w1 w2) :
    QueueV (w2.setCell ⟨p, 0, none⟩ v') (K.nx S w1 (w2.setCell ⟨p, 0, none⟩ v')) p v' (l ++ [(id, t)]) depth last := by
  have hb := h.blk.chg c (h.blk.no_arr (by decide))
  have hsz : (w2.setCell ⟨p, 0, none⟩ v').heap.size = w2.heap.size := by simp [World.setCell]
  refine ⟨fun k hk => hk.2, ⟨.inl h.own, by rw [hsz]; exact hb.lt⟩, hb.set 0 v', ?_⟩
  rw [List.length_append, List.map_append]
  refine Own.other (own.mono fun k hk hS => ?_) hb (by decide) v'
  exact ⟨hS.1.imp (fun h => h.1) (fun h => h), by rw [hsz]; exact hS.2⟩

set_option maxHeartbeats 2000000 in
theorem put_yes (w : World) (S : Nat → Prop) (p : Nat) (l : List (Int × Int)) (depth last id t : Int) (h : Queue w S p l depth last) (i0 : 0 ≤ id) (t0 : last ≤ t) (hd : (l.length : Int) < depth) (hn : l.length + 1 ≤ 1099511627776) :
    Calls Tryz.prog 50 #[.pointer (some ⟨p, 0, none⟩), .int .i64 id, .int .i64 t] w fun e w' => e = .returned (.int .i64 0) ∧ Queue w' (K.nx S w w') p (l ++ [(id, t)]) depth t ∧ Chg S w w' := by
  obtain ⟨v, h⟩ := h
  obtain ⟨i0', hi, hz0, hz1, hz2⟩ := info_parts G.info20
  have c0 : w.cell? ⟨p, 0, none⟩ = some v := Blk.cell h.blk 0
  have c1 : w.cell? ⟨p, 1, none⟩ = some (.int .i64 depth) := Blk.cell h.blk 1
  have c2 : w.cell? ⟨p, 2, none⟩ = some (.int .i64 last) := Blk.cell h.blk 2
  have f0 := Blk.free h.blk 0
  have f2 := Blk.free h.blk 2
  obtain ⟨va, cap, hv⟩ := h.row.sl
  subst hv
  have H := Lib.hid h
  clear h
  have k1 : decide (id < 0) = false := decide_eq_false (by omega)
  have k2 : decide (t < last) = false := decide_eq_false (by omega)
  have k3 : decide (depth ≤ (l.length : Int)) = false := decide_eq_false (by omega)
  go_enter Tryz.func50, Tryz.ntmps50
  go_wp2
  go_quiet (fail)
  have HU := Lib.hid ((((H.out.kept ((Chg.refl No w).drewN nq)).setLast t).kept ((Chg.refl No _).alloc (.cells #[.iface 117 (.agg #[.int .i64 id, .int .i64 t])] 20))))
  have HA := Lib.hid HU.out.row.arr
  go_wp2_with (at_builtin; refine wpList_app _ rfl _ _ 58 rfl _ 20 i0' .nilIface 1 16 Tryz.underlying58 hi hz0 hz1 hz2 rfl _ _ _ rfl HA.out ⟨w.heap.size, 0, none⟩ 1 1 [.iface 117 (.agg #[.int .i64 id, .int .i64 t])] rfl (by decide) rfl (built_at (by simp [World.setCell])) (by simp [Value.oneCell']) (by simp only [maxLen]; omega) (by omega) ?_; intro g2 o2 c2' w2 ho hc2; have hb2 := HU.out.blk.chg hc2 (HU.out.blk.no_arr (by decide)); have c0' : w2.cell? ⟨p, 0, none⟩ = some (.slice va l.length cap) := Blk.cell hb2 0; have f0' := Blk.free hb2 0; have HO := Lib.hid ho; have HC2 := Lib.hid hc2; clear ho hc2 hb2)
  go_ret
  have hL := HU.out.push HO.out HC2.out
  refine ⟨rfl, ⟨_, hL.mono (fun k _ hk => nx_no (by simp [World.setCell]) hk) fun k hk => hk.2⟩, ?_⟩
  exact (((((Chg.refl S w).drewN nq).set (fun _ => H.out.own) _).alloc _).step HC2.out fun k _ h => h.1).set (fun _ => H.out.own) _

end Go.Proofs.YtdgphoemjeakaaaGreatDoor.B
