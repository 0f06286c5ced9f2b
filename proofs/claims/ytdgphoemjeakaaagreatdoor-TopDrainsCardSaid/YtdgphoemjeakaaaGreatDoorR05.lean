/- The service as plain functions: pods. Package life: what its methods do. Package queue: what its methods do. Package life: New. Package queue: Take, Late, All. Packages stat, sample: what their functions give. -/
import Derived.Test.YtdgphoemjeakaaaGreatDoorR01
import Derived.Test.YtdgphoemjeakaaaGreatDoorR02
import Derived.Handy
namespace Go.Proofs.YtdgphoemjeakaaaGreatDoor.M
structure Pod where
  id : Int
  st : Int
  busy : Int
  since : Int
deriving DecidableEq
def count (ps : List Pod) : Nat := (ps.filter fun q => q.st != 3).length
theorem count_snoc (ps : List Pod) (q : Pod) : count (ps ++ [q]) = count ps + if q.st != 3 then 1 else 0 := by
  unfold count
  rw [List.filter_append, List.length_append]
  cases h : q.st != 3 <;> simp [h]
def ready (ps : List Pod) : List Int := (ps.filter fun q => q.st == 2).map Pod.id
theorem ready_snoc (ps : List Pod) (q : Pod) : ready (ps ++ [q]) = ready ps ++ if q.st == 2 then [q.id] else [] := by
  unfold ready
  rw [List.filter_append, List.map_append]
  cases h : q.st == 2 <;> simp [h]
def ahead (q b : Pod) : Bool := q.st == 1 || (b.st == 2 && decide (q.busy ≤ b.busy))
def nextTo (ps : List Pod) : Nat → Int
  | 0 => -1
  | n + 1 => match ps[n]? with
    | none => nextTo ps n
    | some q => if q.st == 3 then nextTo ps n else if nextTo ps n < 0 then n else match ps[(nextTo ps n).toNat]? with
      | none => nextTo ps n
      | some b => if ahead q b then n else nextTo ps n
theorem nextTo_bd (ps : List Pod) (n : Nat) : -1 ≤ nextTo ps n ∧ nextTo ps n < n := by
  induction n with
  | zero => simp [nextTo]
  | succ n ih =>
    unfold nextTo
    split
    · omega
    · split
      · omega
      · split
        · omega
        · split
          · omega
          · split <;> omega
def ripe (now after : Int) (q : Pod) : Pod := if q.st == 1 && decide (q.since + after ≤ now) then { q with st := 2 } else q
def enter (ps : List Pod) (id : Int) : Int × List Pod := match ps.findIdx? fun q => q.id == id with
  | none => (7, ps)
  | some k => match ps[k]? with
    | none => (7, ps)
    | some q => if q.st != 2 then (7, ps) else (0, ps.set k { q with busy := q.busy + 1 })
def leave (ps : List Pod) (id : Int) : Int × List Pod := match ps.findIdx? fun q => q.id == id with
  | none => (7, ps)
  | some k => match ps[k]? with
    | none => (7, ps)
    | some q => if q.busy == 0 then (7, ps) else if q.busy - 1 == 0 && q.st == 3 then (0, ps.eraseIdx k) else (0, ps.set k { q with busy := q.busy - 1 })
def gone (now : Int) (ps : List Pod) : List Pod := match ps[(nextTo ps ps.length).toNat]? with
  | none => ps
  | some q => if q.busy == 0 then ps.eraseIdx (nextTo ps ps.length).toNat else ps.set (nextTo ps ps.length).toNat { q with st := 3, since := now }
def fewer (now : Int) : Nat → List Pod → List Pod
  | 0, ps => ps
  | n + 1, ps => fewer now n (gone now ps)
def more (now : Int) : Nat → List Pod × Int → List Pod × Int
  | 0, x => x
  | n + 1, (ps, made) => more now n (ps ++ [⟨made, 1, 0, now⟩], made + 1)
def scale (want : Nat) (now : Int) (ps : List Pod) (made : Int) : List Pod × Int :=
  let x := more now (want - count ps) (ps, made)
  (fewer now (count x.1 - want) x.1, x.2)
def Ok (ps : List Pod) : Prop := ps.length ≤ 1099511627776 ∧ ∀ q, q ∈ ps → (0 ≤ q.busy ∧ q.busy ≤ 1099511627776) ∧ (0 ≤ q.since ∧ q.since ≤ 1099511627776)
theorem count_cons (q : Pod) (ps : List Pod) : count (q :: ps) = (if q.st != 3 then 1 else 0) + count ps := by
  unfold count
  cases h : q.st != 3 <;> simp [h, Nat.add_comm]
theorem nextTo_ok (ps : List Pod) (n : Nat) (hn : n ≤ ps.length) : (∃ q, 0 ≤ nextTo ps n ∧ ps[(nextTo ps n).toNat]? = some q ∧ (q.st == 3) = false) ∨ (nextTo ps n < 0 ∧ count (ps.take n) = 0) := by
  induction n with
  | zero => exact .inr ⟨by simp [nextTo], by simp [count]⟩
  | succ n ih =>
    obtain ⟨q, hq⟩ : ∃ q, ps[n]? = some q := ⟨ps[n], List.getElem?_eq_getElem (by omega)⟩
    have hT : ps.take (n + 1) = ps.take n ++ [q] := by rw [List.take_add_one, hq]; rfl
    cases h3 : q.st == 3
    · refine .inl ?_
      rcases ih (by omega) with ⟨b, h0, hb, hb3⟩ | ⟨h0, hc⟩
      · have h0' : ¬ nextTo ps n < 0 := by omega
        cases ha : ahead q b
        · refine ⟨b, ?_⟩
          have e : nextTo ps (n + 1) = nextTo ps n := by simp [nextTo, hq, h3, h0', hb, ha]
          rw [e]
          exact ⟨h0, hb, hb3⟩
        · refine ⟨q, ?_⟩
          have e : nextTo ps (n + 1) = n := by simp [nextTo, hq, h3, h0', hb, ha]
          rw [e]
          exact ⟨by omega, by simpa using hq, h3⟩
      · refine ⟨q, ?_⟩
        have e : nextTo ps (n + 1) = n := by simp [nextTo, hq, h3, h0]
        rw [e]
        exact ⟨by omega, by simpa using hq, h3⟩
    · have e : nextTo ps (n + 1) = nextTo ps n := by simp [nextTo, hq, h3]
      rw [e, hT, count_snoc]
      rcases ih (by omega) with h | ⟨h0, hc⟩
      · exact .inl h
      · refine .inr ⟨h0, ?_⟩
        have : (q.st != 3) = false := by simp [bne, h3]
        rw [hc, this]
        rfl
theorem count_erase : ∀ (ps : List Pod) (k : Nat) (q : Pod), ps[k]? = some q → (q.st == 3) = false → count (ps.eraseIdx k) + 1 = count ps
  | [], _, _, h, _ => by simp at h
  | a :: l, 0, q, h, h3 => by
    simp at h
    subst h
    have : (a.st != 3) = true := by simp [bne, h3]
    rw [count_cons, this]
    simp [Nat.add_comm]
  | a :: l, k + 1, q, h, h3 => by
    simp at h
    have := count_erase l k q h h3
    rw [List.eraseIdx_cons_succ, count_cons, count_cons]
    omega
theorem count_set : ∀ (ps : List Pod) (k : Nat) (q q' : Pod), ps[k]? = some q → (q.st == 3) = false → q'.st = 3 → count (ps.set k q') + 1 = count ps
  | [], _, _, _, h, _, _ => by simp at h
  | a :: l, 0, q, q', h, h3, h4 => by
    simp at h
    subst h
    have : (a.st != 3) = true := by simp [bne, h3]
    rw [List.set_cons_zero, count_cons, count_cons, this]
    simp [h4, Nat.add_comm]
  | a :: l, k + 1, q, q', h, h3, h4 => by
    simp at h
    have := count_set l k q q' h h3 h4
    rw [List.set_cons_succ, count_cons, count_cons]
    omega
theorem count_gone (now : Int) (ps : List Pod) (h : 0 < count ps) : count (gone now ps) + 1 = count ps := by
  rcases nextTo_ok ps ps.length (Nat.le_refl _) with ⟨q, h0, hq, h3⟩ | ⟨_, hc⟩
  · unfold gone
    rw [hq]
    show count (if _ then _ else _) + 1 = _
    split
    · exact count_erase _ _ _ hq h3
    · exact count_set _ _ _ _ hq h3 rfl
  · rw [List.take_length] at hc
    omega
theorem Ok.more_one {ps : List Pod} (h : Ok ps) (made now : Int) (hl : ps.length < 1099511627776) (n0 : 0 ≤ now) (n1 : now ≤ 1099511627776) : Ok (ps ++ [⟨made, 1, 0, now⟩]) := by
  refine ⟨by simp; omega, fun q hq => ?_⟩
  rcases List.mem_append.1 hq with hq | hq
  · exact h.2 q hq
  · rw [List.mem_singleton.1 hq]
    exact ⟨⟨Int.le_refl 0, by show (0 : Int) ≤ 1099511627776; omega⟩, n0, n1⟩
theorem Ok.gone_one {ps : List Pod} (h : Ok ps) (now : Int) (n0 : 0 ≤ now) (n1 : now ≤ 1099511627776) : Ok (gone now ps) := by
  unfold gone
  split
  · exact h
  · rename_i q hq
    split
    · refine ⟨?_, fun x hx => h.2 x (List.mem_of_mem_eraseIdx hx)⟩
      have := h.1
      exact Nat.le_trans (List.length_eraseIdx_le _ _) this
    · refine ⟨by simpa using h.1, fun x hx => ?_⟩
      rcases List.mem_or_eq_of_mem_set hx with hx | rfl
      · exact h.2 x hx
      · exact ⟨(h.2 q (List.mem_of_getElem? hq)).1, n0, n1⟩
end Go.Proofs.YtdgphoemjeakaaaGreatDoor.M
namespace Go.Proofs.YtdgphoemjeakaaaGreatDoor.A
open Go.RowKit Go.Shelf K
open M (Pod)
set_option maxRecDepth 100000
def _root_.Go.Proofs.YtdgphoemjeakaaaGreatDoor.M.Pod.cells (q : Pod) : List Value := [.int .i64 q.id, .int .i64 q.st, .int .i64 q.busy, .int .i64 q.since]
def ref (x : Nat × Pod) : Value := .pointer (some ⟨x.1, 0, none⟩)
structure LifeV (w : World) (S : Nat → Prop) (p : Nat) (v : Value) (es : List (Nat × Pod)) (made : Int) : Prop where
  bd : ∀ k, S k → k < w.heap.size
  own : S p
  blk : Blk w p #[v, .int .i64 made] 83
  row : Own w S 20 1 v es.length (es.map fun x => Value.iface 96 (ref x))
  nodup : (es.map Prod.fst).Nodup
  pods : ∀ x, x ∈ es → S x.1 ∧ Blk w x.1 x.2.cells.toArray 41
def Life (w : World) (S : Nat → Prop) (p : Nat) (ps : List Pod) (made : Int) : Prop := ∃ v es, LifeV w S p v es made ∧ es.map Prod.snd = ps
def cellsOf (l : List Pod) : List Value := l.flatMap Pod.cells
theorem cells_snoc (l : List Pod) (q : Pod) : cellsOf (l ++ [q]) = cellsOf l ++ q.cells := by simp [cellsOf]
theorem cells_at (l : List Pod) (i j : Nat) (q : Pod) (h : l[i]? = some q) (hj : j < 4) : (cellsOf l)[i * 4 + j]? = q.cells[j]? := by
  induction l generalizing i with
  | nil => simp at h
  | cons a l ih =>
    cases i with
    | zero =>
      simp at h
      subst h
      have : cellsOf (a :: l) = a.cells ++ cellsOf l := by simp [cellsOf]
      rw [this, List.getElem?_append_left (by simp [Pod.cells]; omega)]
      simp
    | succ i =>
      simp at h
      have : cellsOf (a :: l) = a.cells ++ cellsOf l := by simp [cellsOf]
      rw [this, List.getElem?_append_right (by simp [Pod.cells]; omega), ← ih i h]
      congr 1
      simp [Pod.cells]
      omega
theorem pod_one (q : Pod) : ∀ u ∈ q.cells, u.oneCell' = true := by
  intro u hu
  simp [Pod.cells] at hu
  rcases hu with rfl | rfl | rfl | rfl <;> rfl
theorem pods_cells {w : World} {S : Nat → Prop} {ps : List Pod} {g o c : Nat} (h : Own w S 41 4 (.slice (some ⟨g, o, none⟩) ps.length c) ps.length (cellsOf ps)) {n : Nat} {q : Pod} (hq : ps[n]? = some q) :
    w.cell? ⟨g, o + n * 4, none⟩ = some (.int .i64 q.id) ∧ w.cell? ⟨g, o + n * 4 + 1, none⟩ = some (.int .i64 q.st) ∧ w.cell? ⟨g, o + n * 4 + 2, none⟩ = some (.int .i64 q.busy) ∧ w.cell? ⟨g, o + n * 4 + 3, none⟩ = some (.int .i64 q.since) := by
  have hn : n < ps.length := (List.getElem?_eq_some_iff.1 hq).1
  have := h.cellAt (n * 4) (by omega)
  have h1 := h.cellAt (n * 4 + 1) (by omega)
  have h2 := h.cellAt (n * 4 + 2) (by omega)
  have h3 := h.cellAt (n * 4 + 3) (by omega)
  rw [cells_at _ _ _ _ hq (by omega)] at h1 h2 h3
  rw [show n * 4 = n * 4 + 0 from rfl, cells_at _ _ _ _ hq (by omega)] at this
  exact ⟨this, h1, h2, h3⟩
section
variable {w w' : World} {S T : Nat → Prop} {p : Nat} {v : Value} {es : List (Nat × Pod)} {ps : List Pod} {made : Int}
theorem LifeV.chg (h : LifeV w S p v es made) (c : Chg T w w') (hd : ∀ k, S k → T k → False) : LifeV w' S p v es made :=
  ⟨fun k hk => Nat.lt_of_lt_of_le (h.bd k hk) c.size, h.own, h.blk.chg c (hd p h.own), h.row.chg c hd, h.nodup, fun x hx => by
    obtain ⟨h1, h2⟩ := h.pods x hx
    exact ⟨h1, h2.chg c (hd x.1 h1)⟩⟩
theorem LifeV.kept (h : LifeV w S p v es made) (c : Chg No w w') : LifeV w' S p v es made := h.chg c fun _ _ h => h
theorem LifeV.mono (h : LifeV w S p v es made) (hs : ∀ k, k < w.heap.size → S k → T k) (hb : ∀ k, T k → k < w.heap.size) : LifeV w T p v es made :=
  ⟨hb, hs p h.blk.lt h.own, h.blk, h.row.mono hs, h.nodup, fun x hx => ⟨hs _ (h.pods x hx).2.lt (h.pods x hx).1, (h.pods x hx).2⟩⟩
theorem Life.chg (h : Life w S p ps made) (c : Chg T w w') (hd : ∀ k, S k → T k → False) : Life w' S p ps made := by
  obtain ⟨v, es, h, he⟩ := h
  exact ⟨v, es, h.chg c hd, he⟩
theorem Life.kept (h : Life w S p ps made) (c : Chg No w w') : Life w' S p ps made := h.chg c fun _ _ h => h
theorem Life.mono (h : Life w S p ps made) (hs : ∀ k, k < w.heap.size → S k → T k) (hb : ∀ k, T k → k < w.heap.size) : Life w T p ps made := by
  obtain ⟨v, es, h, he⟩ := h
  exact ⟨v, es, h.mono hs hb, he⟩
theorem Life.bd (h : Life w S p ps made) : ∀ k, S k → k < w.heap.size := by
  obtain ⟨v, es, h, _⟩ := h
  exact h.bd
theorem Life.nx (h : Life w S p ps made) (c : Chg No w w') : Life w' (K.nx S w w') p ps made :=
  (h.kept c).mono (fun _ hk hS => ⟨.inl hS, hk⟩) fun _ hk => hk.2
theorem LifeV.setPod (h : LifeV w S p v es made) {k b j : Nat} {q q' : Pod} {u : Value} (hk : es[k]? = some (b, q)) (hb : Blk (w.setCell ⟨b, j, none⟩ u) b q'.cells.toArray 41) : LifeV (w.setCell ⟨b, j, none⟩ u) S p v (es.set k (b, q')) made := by
  have hkl : k < es.length := (List.getElem?_eq_some_iff.1 hk).1
  obtain ⟨hSb, hB⟩ := h.pods (b, q) (List.mem_of_getElem? hk)
  have e1 : (es.set k (b, q')).map Prod.fst = es.map Prod.fst := by
    rw [List.map_set]
    apply List.ext_getElem?
    intro t
    rw [List.getElem?_set]
    by_cases e : k = t
    · subst e
      rw [if_pos rfl, if_pos (by simpa using hkl), List.getElem?_map, hk]; rfl
    · rw [if_neg e]
  have e2 : ((es.set k (b, q')).map fun x => Value.iface 96 (ref x)) = es.map fun x => Value.iface 96 (ref x) := by
    have := congrArg (List.map fun n : Nat => Value.iface 96 (.pointer (some ⟨n, 0, none⟩))) e1
    simpa [Function.comp_def, ref] using this
  refine ⟨by simpa [World.setCell] using h.bd, h.own, h.blk.other (h.blk.ne hB (by decide)) u, ?_, by rw [e1]; exact h.nodup, fun x hx => ?_⟩
  · rw [e2, List.length_set]
    exact h.row.other hB (by decide) u
  · obtain ⟨t, ht, hx2⟩ := List.getElem_of_mem hx
    have ht' : t < es.length := by simpa using ht
    by_cases e : k = t
    · subst e
      rw [List.getElem_set_self] at hx2
      rw [← hx2]
      exact ⟨hSb, hb⟩
    · rw [List.getElem_set_ne e] at hx2
      have hm : x ∈ es := by rw [← hx2]; exact List.getElem_mem ht'
      have hne : x.1 ≠ b := by
        intro hxb
        have hk2 : es[k] = (b, q) := (List.getElem?_eq_some_iff.1 hk).2
        refine e ((List.getElem_inj (h₀ := by simpa using hkl) (h₁ := by simpa using ht') h.nodup).1 ?_)
        rw [List.getElem_map, List.getElem_map, hx2, hk2]
        exact hxb.symm
      exact ⟨(h.pods x hm).1, (h.pods x hm).2.other hne u⟩
theorem first_idx {f : Pod → Bool} {r : Int} (h : G.First (fun x : Nat × Pod => f x.2) es r) : (r = -1 ∧ (es.map Prod.snd).findIdx? f = none) ∨ ∃ k : Nat, r = k ∧ k < es.length ∧ (es.map Prod.snd).findIdx? f = some k := by
  rcases h with ⟨h1, h2⟩ | ⟨k, x, hx, hr, hp, hall⟩
  · refine .inl ⟨h1, ?_⟩
    rw [List.findIdx?_eq_none_iff]
    intro q hq
    obtain ⟨x, hx, rfl⟩ := List.mem_map.1 hq
    exact h2 x hx
  · have hkl : k < es.length := (List.getElem?_eq_some_iff.1 hx).1
    refine .inr ⟨k, hr, hkl, ?_⟩
    rw [List.findIdx?_eq_some_iff_getElem]
    refine ⟨by simpa using hkl, ?_, fun j hj => ?_⟩
    · rw [List.getElem_map, (List.getElem?_eq_some_iff.1 hx).2]; exact hp
    · rw [List.getElem_map]
      have hjl : j < es.length := by omega
      have := hall j es[j] hj (List.getElem?_eq_getElem hjl)
      simp [this]
end
set_option maxHeartbeats 400000 in
theorem pod_at (w : World) (S : Nat → Prop) (p : Nat) (v : Value) (es : List (Nat × Pod)) (made : Int) (h : LifeV w S p v es made) (k : Int) (b : Nat) (q : Pod) (k0 : 0 ≤ k) (hb : es[k.toNat]? = some (b, q)) :
    Calls Tryz.prog 45 #[.pointer (some ⟨p, 0, none⟩), .int .i64 k] w fun e w' => e = .returned (.pointer (some ⟨b, 0, none⟩)) ∧ w = w' := by
  obtain ⟨n, rfl⟩ := Int.eq_ofNat_of_zero_le k0
  rw [Int.toNat_natCast] at hb
  have hn : n < es.length := (List.getElem?_eq_some_iff.1 hb).1
  have c0 : w.cell? ⟨p, 0, none⟩ = some v := Blk.cell h.blk 0
  obtain ⟨va, cap, rfl⟩ := h.row.sl
  obtain ⟨g, o, rfl, hS, hg, hcap, hmax⟩ := h.row.some_ (by omega)
  have hc : w.cell? ⟨g, o + n, none⟩ = some (.iface 96 (.pointer (some ⟨b, 0, none⟩))) := by
    rw [h.row.cellAt n (by omega), List.getElem?_map, hb]; rfl
  clear h hS hg hcap hmax hb
  go_enter Tryz.func45, Tryz.ntmps45
  go_wp2
  go_ret
  exact ⟨rfl, rfl⟩
theorem info41 : (Tryz.prog.info? 41).map (fun i => (i.zero, i.size, i.bytes)) = some (some (.agg #[.int .i64 0, .int .i64 0, .int .i64 0, .int .i64 0]), 4, 32) := by kernel_rfl
theorem info3 : (Tryz.prog.info? 3).map (fun i => (i.zero, i.size, i.bytes)) = some (some (.int .i64 0), 1, 8) := by kernel_rfl
set_option maxHeartbeats 1000000 in
theorem all_any (w : World) (S : Nat → Prop) (p : Nat) (ps : List Pod) (made : Int) (h : Life w S p ps made) (hn : ps.length ≤ 1099511627776) :
    Calls Tryz.prog 32 #[.pointer (some ⟨p, 0, none⟩)] w fun e w' => ∃ v, e = .returned v ∧ Own w' (New w) 41 4 v ps.length (cellsOf ps) ∧ Chg No w w' := by
  obtain ⟨v, es, h, rfl⟩ := h
  rw [List.length_map] at hn ⊢
  have c0 : w.cell? ⟨p, 0, none⟩ = some v := Blk.cell h.blk 0
  obtain ⟨i0, hi, hz0, hz1, hz2⟩ := info_parts info41
  obtain ⟨va, cap, hv⟩ := h.row.sl
  rw [hv] at c0
  have H := Lib.hid h
  clear h hv
  go_enter Tryz.func32, Tryz.ntmps32
  go_wp2_with fail
  go_loopw [3, 12] (fun o i wr => ∃ n : Nat, n ≤ es.length ∧ i = .int .i64 n ∧ Own wr (New w) 41 4 o n (cellsOf ((es.map Prod.snd).take n)) ∧ Chg No w wr) (fun _ i _ => es.length - (intOf i).toNat)
  case atStart => exact ⟨0, Nat.zero_le _, rfl, Own.nil _ _ _ _, Chg.refl _ _⟩
  case round =>
    obtain ⟨n, hk, rfl, ho, hc⟩ := hrel
    by_cases hlt : n < es.length
    · have HL := Lib.hid (H.out.kept hc)
      obtain ⟨⟨b, q⟩, hq⟩ : ∃ x, es[n]? = some x := ⟨es[n], List.getElem?_eq_getElem hlt⟩
      have hB := (HL.out.pods _ (List.mem_of_getElem? hq)).2
      have b0 : wr.cell? ⟨b, 0, none⟩ = some (.int .i64 q.id) := Blk.cell hB 0
      have b1 : wr.cell? ⟨b, 1, none⟩ = some (.int .i64 q.st) := Blk.cell hB 1
      have b2 : wr.cell? ⟨b, 2, none⟩ = some (.int .i64 q.busy) := Blk.cell hB 2
      have b3 : wr.cell? ⟨b, 3, none⟩ = some (.int .i64 q.since) := Blk.cell hB 3
      have HB := Lib.hid hq
      have HT : Hid ((es.map Prod.snd).take (n + 1) = (es.map Prod.snd).take n ++ [q]) := by show _ = _; rw [List.take_add_one, List.getElem?_map, hq]; rfl
      have HO := Lib.hid ho
      have HC := Lib.hid hc
      clear hB hq ho hc
      go_wp2_with (first | (go_at_call 45; refine (pod_at _ S p v es made HL.out _ b q (by omega) (by rw [Int.toNat_natCast]; exact HB.out)).mono ?_; rintro e w' ⟨rfl, rfl⟩) | (at_builtin; refine wpList_app _ rfl _ _ 35 rfl (New w) 41 i0 _ 4 32 Tryz.underlying35 hi hz0 hz1 hz2 rfl _ _ _ rfl (HO.out.alloc _) ⟨wr.heap.size, 0, none⟩ 1 1 q.cells rfl (by decide) rfl (built_cells _ _ _) (pod_one q) (by simp only [maxLen]; omega) (by omega) ?_; intro g2 o2 c2 w' ho' hc'))
      go_roundw
      case rel =>
        obtain ⟨h1, h2⟩ := fresh_app HC.out ho' hc'
        exact ⟨n + 1, by omega, by go_num, by rw [HT.out, cells_snoc]; exact h1, h2⟩
      case measure => simp [intOf]; omega
    · obtain rfl : n = es.length := by omega
      rw [List.take_of_length_le (by simp)] at ho
      go_wp2
      go_ret
      exact ⟨_, rfl, ho, hc⟩
set_option maxHeartbeats 1000000 in
theorem count_any (w : World) (S : Nat → Prop) (p : Nat) (ps : List Pod) (made : Int) (h : Life w S p ps made) (hn : ps.length ≤ 1099511627776) :
    Calls Tryz.prog 43 #[.pointer (some ⟨p, 0, none⟩)] w fun e w' => e = .returned (.int .i64 (M.count ps)) ∧ Chg No w w' := by
  have H := Lib.hid h
  clear h
  go_enter Tryz.func43, Tryz.ntmps43
  go_wp2_with fail
  refine (all_any w S p ps made H.out hn).mono ?_
  rintro e w1 ⟨v, rfl, ho, hc⟩
  obtain ⟨va, cap, hv⟩ := ho.sl
  subst hv
  have HO := Lib.hid ho
  have HC := Lib.hid hc
  clear ho hc
  go_wp2_with fail
  go_loopw [3, 9] (fun s i wr => ∃ n : Nat, n ≤ ps.length ∧ i = .int .i64 n ∧ s = .int .i64 (M.count (ps.take n)) ∧ Chg No w1 wr) (fun _ i _ => ps.length - (intOf i).toNat)
  case atStart => exact ⟨0, Nat.zero_le _, rfl, rfl, Chg.refl _ _⟩
  case round =>
    obtain ⟨n, hk, rfl, rfl, hc⟩ := hrel
    by_cases hlt : n < ps.length
    · obtain ⟨g, o, rfl, hS, hg, hcap, hmax⟩ := HO.out.some_ (by omega)
      obtain ⟨q, hq⟩ : ∃ q, ps[n]? = some q := ⟨ps[n], List.getElem?_eq_getElem hlt⟩
      obtain ⟨b0, b1, b2, b3⟩ := pods_cells (HO.out.kept hc) hq
      have HT : Hid (ps.take (n + 1) = ps.take n ++ [q]) := by show _ = _; rw [List.take_add_one, hq]; rfl
      have HK := Lib.hid hc
      have hcnt : M.count (ps.take n) ≤ n := Nat.le_trans (List.length_filter_le _ _) (by simp; omega)
      have HN := M.count_snoc (ps.take n) q
      rw [← HT.out] at HN
      have HN' := Lib.hid HN
      clear hq hc hmax hS HN
      generalize M.count (ps.take n) = m at *
      cases hst : q.st != 3
      · rw [hst] at HN'
        go_wp2
        go_roundw
        case rel => exact ⟨n + 1, by omega, by go_num, by rw [HN'.out]; simp, HK.out.alloc _⟩
        case measure => simp [intOf]; omega
      · rw [hst] at HN'
        go_wp2
        go_roundw
        case rel => exact ⟨n + 1, by omega, by go_num, by rw [HN'.out]; simp, HK.out.alloc _⟩
        case measure => simp [intOf]; omega
    · obtain rfl : n = ps.length := by omega
      rw [List.take_length]
      go_wp2
      go_ret
      exact ⟨rfl, HC.out.trans hc⟩
set_option maxHeartbeats 1000000 in
theorem ready_any (w : World) (S : Nat → Prop) (p : Nat) (ps : List Pod) (made : Int) (h : Life w S p ps made) (hn : ps.length ≤ 1099511627776) :
    Calls Tryz.prog 62 #[.pointer (some ⟨p, 0, none⟩)] w fun e w' => ∃ v, e = .returned v ∧ Own w' (New w) 3 1 v (M.ready ps).length ((M.ready ps).map (Value.int .i64)) ∧ Chg No w w' := by
  have H := Lib.hid h
  clear h
  obtain ⟨i0, hi, hz0, hz1, hz2⟩ := info_parts info3
  go_enter Tryz.func62, Tryz.ntmps62
  go_wp2_with fail
  refine (all_any w S p ps made H.out hn).mono ?_
  rintro e w1 ⟨v, rfl, ho, hc⟩
  obtain ⟨va, cap, hv⟩ := ho.sl
  subst hv
  have HO := Lib.hid ho
  have HC := Lib.hid hc
  clear ho hc
  go_wp2_with fail
  go_loopw [3, 9] (fun s i wr => ∃ n : Nat, n ≤ ps.length ∧ i = .int .i64 n ∧ Own wr (New w1) 3 1 s (M.ready (ps.take n)).length ((M.ready (ps.take n)).map (Value.int .i64)) ∧ Chg No w1 wr) (fun _ i _ => ps.length - (intOf i).toNat)
  case atStart => exact ⟨0, Nat.zero_le _, rfl, Own.nil _ _ _ _, Chg.refl _ _⟩
  case round =>
    obtain ⟨n, hk, rfl, hos, hc⟩ := hrel
    by_cases hlt : n < ps.length
    · obtain ⟨g, o, rfl, hS, hg, hcap, hmax⟩ := HO.out.some_ (by omega)
      obtain ⟨q, hq⟩ : ∃ q, ps[n]? = some q := ⟨ps[n], List.getElem?_eq_getElem hlt⟩
      obtain ⟨b0, b1, b2, b3⟩ := pods_cells (HO.out.kept hc) hq
      have HT : Hid (ps.take (n + 1) = ps.take n ++ [q]) := by show _ = _; rw [List.take_add_one, hq]; rfl
      have HK := Lib.hid hc
      have hcnt : (M.ready (ps.take n)).length ≤ n := by unfold M.ready; rw [List.length_map]; exact Nat.le_trans (List.length_filter_le _ _) (by simp; omega)
      have HN := M.ready_snoc (ps.take n) q
      rw [← HT.out] at HN
      have HN' := Lib.hid HN
      have HS := Lib.hid hos
      clear hq hc hmax hS HN hos
      generalize M.ready (ps.take n) = rs at *
      cases hst : q.st == 2
      · rw [hst] at HN'
        go_wp2
        go_roundw
        case rel => exact ⟨n + 1, by omega, by go_num, by rw [HN'.out]; simpa using HS.out.alloc _, HK.out.alloc _⟩
        case measure => simp [intOf]; omega
      · rw [hst] at HN'
        have HS2 := Lib.hid ((HS.out.alloc (.cells q.cells.toArray 41)).alloc (.cells #[.int .i64 q.id] 3))
        go_wp2_with (at_builtin; refine wpList_app _ rfl _ _ 76 rfl (New w1) 3 i0 _ 1 8 Tryz.underlying76 hi hz0 hz1 hz2 rfl _ _ _ rfl HS2.out ⟨wr.heap.size + 1, 0, none⟩ 1 1 [.int .i64 q.id] rfl (by decide) rfl (built_at (by simp)) (by simp [Value.oneCell']) (by simp only [maxLen]; omega) (by omega) ?_; intro g2 o2 c2 w' ho' hc')
        go_roundw
        case rel =>
          obtain ⟨h1, h2⟩ := fresh_app (HK.out.alloc _) ho' hc'
          exact ⟨n + 1, by omega, by go_num, by rw [HN'.out]; simpa using h1, h2⟩
        case measure => simp [intOf]; omega
    · obtain rfl : n = ps.length := by omega
      rw [List.take_length] at hos
      go_wp2
      go_ret
      exact ⟨_, rfl, hos.mono fun k _ hk => New.mono HC.out.size hk, HC.out.trans hc⟩
end Go.Proofs.YtdgphoemjeakaaaGreatDoor.A
namespace Go.Proofs.YtdgphoemjeakaaaGreatDoor.B
open Go.RowKit Go.Shelf K A
set_option maxRecDepth 100000
def one (x : Int × Int) : Value := .agg #[.int .i64 x.1, .int .i64 x.2]
structure QueueV (w : World) (S : Nat → Prop) (p : Nat) (v : Value) (l : List (Int × Int)) (depth last : Int) : Prop where
  bd : ∀ k, S k → k < w.heap.size
  own : S p
  blk : Blk w p #[v, .int .i64 depth, .int .i64 last] 85
  row : Own w S 20 1 v l.length (l.map fun x => Value.iface 117 (one x))
def Queue (w : World) (S : Nat → Prop) (p : Nat) (l : List (Int × Int)) (depth last : Int) : Prop := ∃ v, QueueV w S p v l depth last
section
variable {w w' : World} {S T : Nat → Prop} {p : Nat} {v : Value} {l : List (Int × Int)} {depth last : Int}
theorem QueueV.chg (h : QueueV w S p v l depth last) (c : Chg T w w') (hd : ∀ k, S k → T k → False) : QueueV w' S p v l depth last :=
  ⟨fun k hk => Nat.lt_of_lt_of_le (h.bd k hk) c.size, h.own, h.blk.chg c (hd p h.own), h.row.chg c hd⟩
theorem QueueV.kept (h : QueueV w S p v l depth last) (c : Chg No w w') : QueueV w' S p v l depth last := h.chg c fun _ _ h => h
theorem QueueV.mono (h : QueueV w S p v l depth last) (hs : ∀ k, k < w.heap.size → S k → T k) (hb : ∀ k, T k → k < w.heap.size) : QueueV w T p v l depth last :=
  ⟨hb, hs p h.blk.lt h.own, h.blk, h.row.mono hs⟩
theorem Queue.chg (h : Queue w S p l depth last) (c : Chg T w w') (hd : ∀ k, S k → T k → False) : Queue w' S p l depth last := by
  obtain ⟨v, h⟩ := h
  exact ⟨v, h.chg c hd⟩
theorem Queue.kept (h : Queue w S p l depth last) (c : Chg No w w') : Queue w' S p l depth last := h.chg c fun _ _ h => h
theorem Queue.mono (h : Queue w S p l depth last) (hs : ∀ k, k < w.heap.size → S k → T k) (hb : ∀ k, T k → k < w.heap.size) : Queue w T p l depth last := by
  obtain ⟨v, h⟩ := h
  exact ⟨v, h.mono hs hb⟩
end
theorem own_from {w : World} {S : Nat → Prop} {e : TypeId} {g o cap n : Nat} {xs : List Value} (h : Own w S e 1 (.slice (some ⟨g, o, none⟩) n cap) n xs) (k : Nat) (hk : k ≤ n) : Own w S e 1 (.slice (if cap = k then some ⟨g, o, none⟩ else some ⟨g, o + k, none⟩) (n - k) (cap - k)) (n - k) (xs.drop k) := by
  have h1 := h.drop k hk
  simp only [Nat.mul_one] at h1
  by_cases hc : cap = k
  · rw [if_pos hc]
    obtain ⟨hS, hl, cur, hb, h2, h3, h4, h5⟩ := h.blk
    have hz : n - k = 0 := by omega
    refine ⟨h1.len, .inr ⟨g, o, cap - k, cur, rfl, hS, hb, by omega, by omega, by omega, ?_⟩⟩
    have hl2 := h1.len
    rw [hz] at hl2 ⊢
    rw [List.eq_nil_of_length_eq_zero (l := xs.drop k) (by simpa using hl2)]
    simp
  · rw [if_neg hc]
    exact h1
theorem life_new (w : World) : Calls Tryz.prog 17 #[] w fun e w' => e = .returned (.pointer (some ⟨w.heap.size, 0, none⟩)) ∧ w' = w.alloc (.cells #[.slice none 0 0, .int .i64 0] 83) := by
  go_enter Tryz.func17, Tryz.ntmps17
  go_wp2
  go_ret
  exact ⟨rfl, rfl⟩
theorem life_new_rep (w : World) : Life (w.alloc (.cells #[.slice none 0 0, .int .i64 0] 83)) (fun k => k = w.heap.size) w.heap.size [] 0 :=
  ⟨.slice none 0 0, [], ⟨fun k hk => by subst hk; simp, rfl, Blk.new _ _ _, Own.nil _ _ _ _, List.nodup_nil, fun x hx => by cases hx⟩, rfl⟩
theorem queue_new (w : World) (depth : Int) (d0 : 0 ≤ depth) (d1 : depth ≤ 200) : Calls Tryz.prog 18 #[.int .i64 depth] w fun e w' => e = .returned (.pointer (some ⟨w.heap.size, 0, none⟩)) ∧ w' = w.alloc (.cells #[.slice none 0 0, .int .i64 depth, .int .i64 (-9223372036854775808)] 85) := by
  have k1 : decide (depth < 0) = false := decide_eq_false (by omega)
  have k2 : decide (200 < depth) = false := decide_eq_false (by omega)
  go_enter Tryz.func18, Tryz.ntmps18
  go_wp2
  go_ret
  exact ⟨rfl, rfl⟩
theorem queue_new_rep (w : World) (depth last : Int) : Queue (w.alloc (.cells #[.slice none 0 0, .int .i64 depth, .int .i64 last] 85)) (fun k => k = w.heap.size) w.heap.size [] depth last :=
  ⟨.slice none 0 0, fun k hk => by subst hk; simp, rfl, Blk.new _ _ _, Own.nil _ _ _ _⟩
set_option maxHeartbeats 2000000 in
theorem put_full (w : World) (S : Nat → Prop) (p : Nat) (l : List (Int × Int)) (depth last id t : Int) (h : Queue w S p l depth last) (i0 : 0 ≤ id) (t0 : last ≤ t) (hd : depth ≤ l.length) :
    Calls Tryz.prog 50 #[.pointer (some ⟨p, 0, none⟩), .int .i64 id, .int .i64 t] w fun e w' => e = .returned (.int .i64 6) ∧ Chg No w w' := by
  obtain ⟨v, h⟩ := h
  have c0 : w.cell? ⟨p, 0, none⟩ = some v := Blk.cell h.blk 0
  have c1 : w.cell? ⟨p, 1, none⟩ = some (.int .i64 depth) := Blk.cell h.blk 1
  have c2 : w.cell? ⟨p, 2, none⟩ = some (.int .i64 last) := Blk.cell h.blk 2
  obtain ⟨va, cap, rfl⟩ := h.row.sl
  clear h
  have k1 : decide (id < 0) = false := decide_eq_false (by omega)
  have k2 : decide (t < last) = false := decide_eq_false (by omega)
  have k3 : decide (depth ≤ (l.length : Int)) = true := decide_eq_true hd
  go_enter Tryz.func50, Tryz.ntmps50
  go_wp2
  go_quiet (fail)
  go_wp2
  go_ret
  exact ⟨rfl, (Chg.refl _ _).drewN _⟩
theorem QueueV.setLast {w : World} {S : Nat → Prop} {p : Nat} {v : Value} {l : List (Int × Int)} {depth last : Int} (h : QueueV w S p v l depth last) (t : Int) : QueueV (w.setCell ⟨p, 2, none⟩ (.int .i64 t)) S p v l depth t :=
  ⟨by simpa [World.setCell] using h.bd, h.own, h.blk.set 2 _, h.row.other h.blk (by decide) _⟩
theorem QueueV.push {w1 w2 : World} {S : Nat → Prop} {p : Nat} {v v' : Value} {l : List (Int × Int)} {depth last id t : Int} (h : QueueV w1 S p v l depth last) (own : Own w2 (K.nx (Arr w1 S) w1 w2) 20 1 v' (l.length + 1) ((l.map fun x => Value.iface 117 (one x)) ++ [.iface 117 (one (id, t))])) (c : Chg (Arr w1 S) w1 w2) :
    QueueV (w2.setCell ⟨p, 0, none⟩ v') (K.nx S w1 (w2.setCell ⟨p, 0, none⟩ v')) p v' (l ++ [(id, t)]) depth last := by
  have hb := h.blk.chg c (h.blk.no_arr (by decide))
  have hsz : (w2.setCell ⟨p, 0, none⟩ v').heap.size = w2.heap.size := by simp [World.setCell]
  refine ⟨fun k hk => hk.2, ⟨.inl h.own, by rw [hsz]; exact hb.lt⟩, hb.set 0 v', ?_⟩
  rw [List.length_append, List.map_append]
  refine Own.other (own.mono fun k hk hS => ?_) hb (by decide) v'
  exact ⟨hS.1.imp (fun h => h.1) (fun h => h), by rw [hsz]; exact hS.2⟩
set_option maxHeartbeats 2000000 in
theorem put_yes (w : World) (S : Nat → Prop) (p : Nat) (l : List (Int × Int)) (depth last id t : Int) (h : Queue w S p l depth last) (i0 : 0 ≤ id) (t0 : last ≤ t) (hd : (l.length : Int) < depth) (hn : l.length + 1 ≤ 1099511627776) :
    Calls Tryz.prog 50 #[.pointer (some ⟨p, 0, none⟩), .int .i64 id, .int .i64 t] w fun e w' => e = .returned (.int .i64 0) ∧ Queue w' (K.nx S w w') p (l ++ [(id, t)]) depth t ∧ Chg S w w' := by
  obtain ⟨v, h⟩ := h
  obtain ⟨i0', hi, hz0, hz1, hz2⟩ := info_parts G.info20
  have c0 : w.cell? ⟨p, 0, none⟩ = some v := Blk.cell h.blk 0
  have c1 : w.cell? ⟨p, 1, none⟩ = some (.int .i64 depth) := Blk.cell h.blk 1
  have c2 : w.cell? ⟨p, 2, none⟩ = some (.int .i64 last) := Blk.cell h.blk 2
  have f0 := Blk.free h.blk 0
  have f2 := Blk.free h.blk 2
  obtain ⟨va, cap, hv⟩ := h.row.sl
  subst hv
  have H := Lib.hid h
  clear h
  have k1 : decide (id < 0) = false := decide_eq_false (by omega)
  have k2 : decide (t < last) = false := decide_eq_false (by omega)
  have k3 : decide (depth ≤ (l.length : Int)) = false := decide_eq_false (by omega)
  go_enter Tryz.func50, Tryz.ntmps50
  go_wp2
  go_quiet (fail)
  have HU := Lib.hid ((((H.out.kept ((Chg.refl No w).drewN nq)).setLast t).kept ((Chg.refl No _).alloc (.cells #[.iface 117 (.agg #[.int .i64 id, .int .i64 t])] 20))))
  have HA := Lib.hid HU.out.row.arr
  go_wp2_with (at_builtin; refine wpList_app _ rfl _ _ 58 rfl _ 20 i0' .nilIface 1 16 Tryz.underlying58 hi hz0 hz1 hz2 rfl _ _ _ rfl HA.out ⟨w.heap.size, 0, none⟩ 1 1 [.iface 117 (.agg #[.int .i64 id, .int .i64 t])] rfl (by decide) rfl (built_at (by simp [World.setCell])) (by simp [Value.oneCell']) (by simp only [maxLen]; omega) (by omega) ?_; intro g2 o2 c2' w2 ho hc2; have hb2 := HU.out.blk.chg hc2 (HU.out.blk.no_arr (by decide)); have c0' : w2.cell? ⟨p, 0, none⟩ = some (.slice va l.length cap) := Blk.cell hb2 0; have f0' := Blk.free hb2 0; have HO := Lib.hid ho; have HC2 := Lib.hid hc2; clear ho hc2 hb2)
  go_ret
  have hL := HU.out.push HO.out HC2.out
  refine ⟨rfl, ⟨_, hL.mono (fun k _ hk => nx_no (by simp [World.setCell]) hk) fun k hk => hk.2⟩, ?_⟩
  exact (((((Chg.refl S w).drewN nq).set (fun _ => H.out.own) _).alloc _).step HC2.out fun k _ h => h.1).set (fun _ => H.out.own) _
end Go.Proofs.YtdgphoemjeakaaaGreatDoor.B
namespace Go.Proofs.YtdgphoemjeakaaaGreatDoor.B
open Go.RowKit Go.Shelf K A
set_option maxRecDepth 100000
theorem QueueV.behind {w : World} {S : Nat → Prop} {p g o cap : Nat} {l : List (Int × Int)} {depth last : Int} (h : QueueV w S p (.slice (some ⟨g, o, none⟩) l.length cap) l depth last) (k : Nat) (hk : k ≤ l.length) :
    QueueV (w.setCell ⟨p, 0, none⟩ (.slice (if cap = k then some ⟨g, o, none⟩ else some ⟨g, o + k, none⟩) (l.length - k) (cap - k))) S p (.slice (if cap = k then some ⟨g, o, none⟩ else some ⟨g, o + k, none⟩) (l.length - k) (cap - k)) (l.drop k) depth last := by
  refine ⟨by simpa [World.setCell] using h.bd, h.own, h.blk.set 0 _, ?_⟩
  rw [List.length_drop, List.map_drop]
  exact (own_from h.row k hk).other h.blk (by decide) _
set_option maxHeartbeats 2000000 in
theorem take_any (w : World) (S : Nat → Prop) (p : Nat) (x : Int × Int) (l : List (Int × Int)) (depth last : Int) (h : Queue w S p (x :: l) depth last) (hn : l.length + 1 ≤ 1099511627776) :
    Calls Tryz.prog 79 #[.pointer (some ⟨p, 0, none⟩)] w fun e w' => e = .returned (.tuple #[.int .i64 x.1, .bool true]) ∧ Queue w' S p l depth last ∧ Chg S w w' := by
  obtain ⟨v, h⟩ := h
  have c0 : w.cell? ⟨p, 0, none⟩ = some v := Blk.cell h.blk 0
  have f0 := Blk.free h.blk 0
  obtain ⟨va, cap, rfl⟩ := h.row.sl
  obtain ⟨g, o, rfl, hS, hg, hcap, hmax⟩ := h.row.some_ (by simp)
  have e0 : w.cell? ⟨g, o, none⟩ = some (.iface 117 (.agg #[.int .i64 x.1, .int .i64 x.2])) := by
    have := h.row.cellAt 0 (by simp)
    rw [Nat.add_zero] at this
    rw [this]
    rfl
  have hp := h.blk.lt
  have H := Lib.hid h
  simp only [List.length_cons] at hcap c0
  have hcap1 : 1 ≤ cap := by omega
  have ne0 : (((l.length + 1 : Nat) : Int) == 0) = false := beq_eq_false_iff_ne.2 (by omega)
  have hne : g ≠ p := by
    obtain ⟨_, _, cur, hb, _⟩ := h.row.blk
    exact hb.ne h.blk (by decide)
  clear h hS hmax
  by_cases hc1 : cap = 1
  all_goals
    go_enter Tryz.func79, Tryz.ntmps79
    go_wp2
    go_ret2
    have hL := (H.out.behind 1 (by simp)).kept ((Chg.refl No _).alloc (.cells #[.int .i64 x.1, .int .i64 x.2] 117))
    first | (subst hc1; rw [if_pos rfl] at hL) | rw [if_neg hc1] at hL
    refine ⟨rfl, ⟨_, hL⟩, ?_⟩
    exact ((Chg.refl S w).set (a := ⟨p, 0, none⟩) (fun _ => H.out.own) _).alloc _
theorem info3 : (Tryz.prog.info? 3).map (fun i => (i.zero, i.size, i.bytes)) = some (some (.int .i64 0), 1, 8) := by kernel_rfl
set_option maxHeartbeats 2000000 in
theorem all_any (w : World) (S : Nat → Prop) (p : Nat) (l : List (Int × Int)) (depth last : Int) (h : Queue w S p l depth last) (hn : l.length ≤ 1099511627776) :
    Calls Tryz.prog 34 #[.pointer (some ⟨p, 0, none⟩)] w fun e w' => ∃ v, e = .returned v ∧ Own w' (New w) 3 1 v l.length (l.map fun x => .int .i64 x.1) ∧ Chg No w w' := by
  obtain ⟨v, h⟩ := h
  have c0 : w.cell? ⟨p, 0, none⟩ = some v := Blk.cell h.blk 0
  obtain ⟨i0, hi, hz0, hz1, hz2⟩ := info_parts info3
  obtain ⟨va, cap, rfl⟩ := h.row.sl
  have H := Lib.hid h
  clear h
  go_enter Tryz.func34, Tryz.ntmps34
  go_wp2_with fail
  go_loopw [3, 13] (fun s i wr => ∃ n : Nat, n ≤ l.length ∧ i = .int .i64 n ∧ Own wr (New w) 3 1 s n ((l.take n).map fun x => .int .i64 x.1) ∧ Chg No w wr) (fun _ i _ => l.length - (intOf i).toNat)
  case atStart => exact ⟨0, Nat.zero_le _, rfl, Own.nil _ _ _ _, Chg.refl _ _⟩
  case round =>
    obtain ⟨n, hk, rfl, ho, hc⟩ := hrel
    by_cases hlt : n < l.length
    · obtain ⟨g, o, rfl, hS, hg, hcap, hmax⟩ := H.out.row.some_ (by omega)
      obtain ⟨x, hx⟩ : ∃ x, l[n]? = some x := ⟨l[n], List.getElem?_eq_getElem hlt⟩
      have e0 : wr.cell? ⟨g, o + n, none⟩ = some (.iface 117 (.agg #[.int .i64 x.1, .int .i64 x.2])) := by
        rw [(H.out.row.kept hc).cellAt n (by omega), List.getElem?_map, hx]
        rfl
      have HT : Hid (l.take (n + 1) = l.take n ++ [x]) := by show _ = _; rw [List.take_add_one, hx]; rfl
      have HO := Lib.hid ho
      have HC := Lib.hid hc
      clear ho hc hx hS hmax
      go_wp2_with (at_builtin; refine wpList_app _ rfl _ _ 76 rfl (New w) 3 i0 _ 1 8 Tryz.underlying76 hi hz0 hz1 hz2 rfl _ _ _ rfl (HO.out.alloc _) ⟨wr.heap.size, 0, none⟩ 1 1 [.int .i64 x.1] rfl (by decide) rfl (built_at (by simp)) (by simp [Value.oneCell']) (by simp only [maxLen]; omega) (by omega) ?_; intro g2 o2 c2 w' ho' hc')
      go_roundw
      case rel =>
        obtain ⟨h1, h2⟩ := fresh_app HC.out ho' hc'
        exact ⟨n + 1, by omega, by go_num, by rw [HT.out, List.map_append]; exact h1, h2⟩
      case measure => simp [intOf]; omega
    · obtain rfl : n = l.length := by omega
      rw [List.take_length] at ho
      go_wp2
      go_ret
      exact ⟨_, rfl, ho, hc⟩
theorem while_split {α : Type} {f : α → Bool} {l a b : List α} (h : l = a ++ b) (h1 : ∀ x, x ∈ a → f x = true) (h2 : ∀ x r, b = x :: r → f x = false) : l.takeWhile f = a ∧ l.dropWhile f = b := by
  subst h
  have hb : b.takeWhile f = [] ∧ b.dropWhile f = b := by
    cases b with
    | nil => exact ⟨rfl, rfl⟩
    | cons x r => have := h2 x r rfl; simp [this]
  rw [List.takeWhile_append_of_pos h1, List.dropWhile_append_of_pos h1, hb.1, hb.2]
  simp
def late (now age : Int) (x : Int × Int) : Bool := decide (age ≤ now - x.2)
set_option maxHeartbeats 4000000 in
theorem late_any (w : World) (S : Nat → Prop) (p : Nat) (l : List (Int × Int)) (depth last now age : Int) (h : Queue w S p l depth last) (hn : l.length ≤ 1099511627776) (hl : ∀ x, x ∈ l → 0 ≤ x.2 ∧ x.2 ≤ now) (n1 : now ≤ 1099511627776) (a0 : 0 ≤ age) (a1 : age ≤ 1099511627776) :
    Calls Tryz.prog 59 #[.pointer (some ⟨p, 0, none⟩), .int .i64 now, .int .i64 age] w fun e w' => ∃ v, e = .returned v ∧ Own w' (New w) 3 1 v (l.takeWhile (late now age)).length ((l.takeWhile (late now age)).map fun x => .int .i64 x.1) ∧ Queue w' S p (l.dropWhile (late now age)) depth last ∧ Chg S w w' := by
  obtain ⟨i0, hi, hz0, hz1, hz2⟩ := info_parts info3
  have H := Lib.hid h
  have HL := Lib.hid hl
  have hpw : ¬ New w p := by obtain ⟨_, hh⟩ := h; have := hh.blk.lt; unfold New; omega
  have hSw : Hid (∀ k, S k → New w k → False) := by obtain ⟨_, hh⟩ := h; intro k h1 h2; have := hh.bd k h1; unfold New at h2; omega
  have HPW := Lib.hid hpw
  clear h hl hpw
  go_enter Tryz.func59, Tryz.ntmps59
  go_wp2_with fail
  go_loopg [7] l.length (fun g s wr => ∃ a b : List (Int × Int), g = b.length ∧ Hid (l = a ++ b ∧ (∀ x, x ∈ a → late now age x = true) ∧ Own wr (New w) 3 1 s a.length (a.map fun x => .int .i64 x.1) ∧ Queue wr S p b depth last ∧ Chg S w wr))
  case atStart => exact ⟨[], l, rfl, ⟨rfl, (fun x hx => absurd hx (by simp)), Own.nil _ _ _ _, H.out, Chg.refl _ _⟩⟩
  case round =>
    obtain ⟨a, b, rfl, HR⟩ := hrel
    obtain ⟨v, hq⟩ := HR.out.2.2.2.1
    have hal : a.length + b.length = l.length := by have := congrArg List.length HR.out.1; simpa using this.symm
    have c0 : wr.cell? ⟨p, 0, none⟩ = some v := Blk.cell hq.blk 0
    have f0 := Blk.free hq.blk 0
    have hp := hq.blk.lt
    obtain ⟨va, cap, rfl⟩ := hq.row.sl
    cases b with
    | nil =>
      clear hq
      go_wp2
      go_ret
      obtain ⟨h1, h2, h3, h4, h5⟩ := HR.out
      obtain ⟨e1, e2⟩ := while_split h1 h2 (by intro x r hx; simp at hx)
      rw [e1, e2]
      exact ⟨_, rfl, h3, h4, h5⟩
    | cons x r =>
      obtain ⟨g, o, rfl, hS, hg, hcap, hmax⟩ := hq.row.some_ (by simp)
      have e0 : wr.cell? ⟨g, o, none⟩ = some (.iface 117 (.agg #[.int .i64 x.1, .int .i64 x.2])) := by
        have := hq.row.cellAt 0 (by simp)
        rw [Nat.add_zero] at this
        rw [this]
        rfl
      simp only [List.length_cons] at hcap c0 hal
      have hcap1 : 1 ≤ cap := by omega
      have hne : g ≠ p := by
        obtain ⟨_, _, cur, hb, _⟩ := hq.row.blk
        exact hb.ne hq.blk (by decide)
      obtain ⟨t0, t1⟩ := HL.out x (by rw [HR.out.1]; simp)
      have HQ := Lib.hid hq
      have k1 : decide (now < x.2) = false := decide_eq_false (by omega)
      clear hq hS hmax
      have hsub : IntKind.u64.wrap (now - x.2) = now - x.2 := by rw [IntKind.wrap_u64]; omega
      cases hlate : late now age x
      · have k2 : decide (now - x.2 < age) = true := by unfold late at hlate; simpa using hlate
        have HLT := Lib.hid hlate
        clear hlate
        go_wp2
        go_ret
        obtain ⟨h1, h2, h3, h4, h5⟩ := HR.out
        obtain ⟨e1, e2⟩ := while_split h1 h2 (by intro y r' hx; injection hx with hx; rw [← hx]; exact HLT.out)
        rw [e1, e2]
        have cA : Chg No wr (wr.alloc (.cells #[.int .i64 x.1, .int .i64 x.2] 117)) := (Chg.refl No wr).alloc _
        exact ⟨_, rfl, h3.kept cA, h4.kept cA, h5.trans cA.of_no⟩
      · have k2 : decide (now - x.2 < age) = false := by unfold late at hlate; simp at hlate; simp; omega
        have HLT := Lib.hid hlate
        have HO := Lib.hid HR.out.2.2.1
        clear hlate
        have hal2 : a.length + 1 ≤ 1099511627776 := by omega
        by_cases hc1 : cap = 1
        all_goals
          go_wp2_with (at_builtin; refine wpList_app _ rfl _ _ 76 rfl (New w) 3 i0 _ 1 8 Tryz.underlying76 hi hz0 hz1 hz2 rfl _ _ _ rfl ((HO.out.alloc (.cells #[.int .i64 x.1, .int .i64 x.2] 117)).alloc (.cells #[.int .i64 x.1] 3)) ⟨wr.heap.size + 1, 0, none⟩ 1 1 [.int .i64 x.1] rfl (by decide) rfl (built_at (by simp)) (by simp [Value.oneCell']) (by simp only [maxLen]; omega) (by omega) ?_; intro g2 o2 c2 w' ho' hc'; have hb2 := ((HQ.out.kept (((Chg.refl No wr).alloc (.cells #[.int .i64 x.1, .int .i64 x.2] 117)).alloc (.cells #[.int .i64 x.1] 3))).chg hc' hSw.out); have c0' : w'.cell? ⟨p, 0, none⟩ = some (.slice (some ⟨g, o, none⟩) (r.length + 1) cap) := Blk.cell hb2.blk 0; have f0' := Blk.free hb2.blk 0; have HO2 := Lib.hid ho'; have HC2 := Lib.hid hc'; have HQ2 := Lib.hid hb2; clear ho' hc' hb2)
          go_roundg r.length
          case measure => simp
          case rel =>
            obtain ⟨h1, h2, h3, h4, h5⟩ := HR.out
            have hL := HQ2.out.behind 1 (by simp)
            first | (subst hc1; rw [if_pos rfl] at hL) | rw [if_neg hc1] at hL
            have hs := HC2.out.size
            have hs5 := h5.size
            simp at hs
            refine ⟨a ++ [x], r, rfl, by rw [h1]; simp, ?_, ?_, ⟨_, hL⟩, ?_⟩
            · intro y hy
              rcases List.mem_append.1 hy with hy | hy
              · exact h2 y hy
              · rw [List.mem_singleton.1 hy]; exact HLT.out
            · rw [List.length_append, List.map_append]
              refine (HO2.out.mono fun k _ hk => nx_new (by simp; omega) hk).other HQ2.out.blk (by decide) _
            · exact (((h5.alloc _).alloc _).step HC2.out fun k hk hn => absurd hn (by unfold New; omega)).set (a := ⟨p, 0, none⟩) (fun _ => HQ2.out.own) _
end Go.Proofs.YtdgphoemjeakaaaGreatDoor.B
namespace Go.Proofs.YtdgphoemjeakaaaGreatDoor.S
open Go.RowKit K P
set_option maxRecDepth 100000
structure Stat where
  pod : Int
  age : Int
  load : Int
def Stat.cells (s : Stat) : List Value := [.int .i64 s.pod, .int .i64 s.age, .int .i64 s.load]
def cellsOf (l : List Stat) : List Value := l.flatMap Stat.cells
theorem cells_at (l : List Stat) (i j : Nat) (q : Stat) (h : l[i]? = some q) (hj : j < 3) : (cellsOf l)[i * 3 + j]? = q.cells[j]? := by
  induction l generalizing i with
  | nil => simp at h
  | cons a l ih =>
    have e : cellsOf (a :: l) = a.cells ++ cellsOf l := by simp [cellsOf]
    cases i with
    | zero =>
      simp at h
      subst h
      rw [e, List.getElem?_append_left (by simp [Stat.cells]; omega)]
      simp
    | succ i =>
      simp at h
      rw [e, List.getElem?_append_right (by simp [Stat.cells]; omega), ← ih i h]
      congr 1
      simp [Stat.cells]
      omega
theorem cells_snoc (l : List Stat) (q : Stat) : cellsOf (l ++ [q]) = cellsOf l ++ q.cells := by simp [cellsOf]
theorem stats_cells {w : World} {S : Nat → Prop} {l : List Stat} {g o c : Nat} (h : Own w S 161 3 (.slice (some ⟨g, o, none⟩) l.length c) l.length (cellsOf l)) {n : Nat} {q : Stat} (hq : l[n]? = some q) :
    w.cell? ⟨g, o + n * 3, none⟩ = some (.int .i64 q.pod) ∧ w.cell? ⟨g, o + n * 3 + 1, none⟩ = some (.int .i64 q.age) ∧ w.cell? ⟨g, o + n * 3 + 2, none⟩ = some (.int .i64 q.load) := by
  have hn : n < l.length := (List.getElem?_eq_some_iff.1 hq).1
  have h0 := h.cellAt (n * 3) (by omega)
  have h1 := h.cellAt (n * 3 + 1) (by omega)
  have h2 := h.cellAt (n * 3 + 2) (by omega)
  rw [cells_at _ _ _ _ hq (by omega)] at h1 h2
  rw [show n * 3 = n * 3 + 0 from rfl, cells_at _ _ _ _ hq (by omega)] at h0
  exact ⟨h0, h1, h2⟩
def sum (l : List Stat) : Int := (l.map Stat.load).foldl (· + ·) 0
theorem sum_snoc (l : List Stat) (q : Stat) : sum (l ++ [q]) = sum l + q.load := by simp [sum]
def Fine (l : List Stat) : Prop := ∀ s, s ∈ l → 0 ≤ s.pod ∧ 0 ≤ s.age ∧ 0 ≤ s.load ∧ s.load ≤ 1000000
theorem sum_bd (l : List Stat) (h : Fine l) : 0 ≤ sum l ∧ sum l ≤ l.length * 1000000 := by
  have : ∀ (l : List Stat) (a : Int), (∀ s, s ∈ l → 0 ≤ s.load ∧ s.load ≤ 1000000) → a ≤ (l.map Stat.load).foldl (· + ·) a ∧ (l.map Stat.load).foldl (· + ·) a ≤ a + l.length * 1000000 := by
    intro l
    induction l with
    | nil => intro a _; simp
    | cons s l ih =>
      intro a h
      have h1 := h s (by simp)
      have h2 := ih (a + s.load) (fun x hx => h x (by simp [hx]))
      simp only [List.map_cons, List.foldl_cons, List.length_cons]
      omega
  have h2 := this l 0 (fun s hs => ⟨(h s hs).2.2.1, (h s hs).2.2.2⟩)
  unfold sum
  omega
set_option maxHeartbeats 1000000 in
theorem may_yes (p a l : Int) (w : World) (p0 : 0 ≤ p) (a0 : 0 ≤ a) (l0 : 0 ≤ l) : Calls Tryz.prog 193 #[.iface 161 (.agg #[.int .i64 p, .int .i64 a, .int .i64 l]), .int .i64 0] w fun e w' => e = .returned (.bool true) ∧ Chg No w w' := by
  have k1 : decide (0 ≤ p) = true := decide_eq_true p0
  have k2 : decide (0 ≤ a) = true := decide_eq_true a0
  have k3 : decide (0 ≤ l) = true := decide_eq_true l0
  go_enter Tryz.func193, Tryz.ntmps193
  go_wp2
  go_ret
  exact ⟨rfl, (Chg.refl No w).alloc _⟩
set_option maxHeartbeats 2000000 in
theorem total_any (w : World) (S : Nat → Prop) (v : Value) (l : List Stat) (own : Own w S 161 3 v l.length (cellsOf l)) (hn : l.length ≤ 1000) (fine : Fine l) :
    Calls Tryz.prog 162 #[v, .int .i64 0] w fun e w' => e = .returned (.tuple #[.int .i64 (sum l), .int .i64 l.length, .int .i64 0]) ∧ Chg No w w' := by
  obtain ⟨va, cap, rfl⟩ := own.sl
  have HO := Lib.hid own
  have HF := Lib.hid fine
  clear own fine
  go_enter Tryz.func162, Tryz.ntmps162
  go_wp2_with fail
  go_loopw [7, 8, 9, 16] (fun s k c i wr => ∃ n : Nat, n ≤ l.length ∧ i = .int .i64 n ∧ k = .int .i64 n ∧ c = .int .i64 0 ∧ s = .int .i64 (sum (l.take n)) ∧ Chg No w wr) (fun _ _ _ i _ => l.length - (intOf i).toNat)
  case atStart => exact ⟨0, Nat.zero_le _, rfl, rfl, rfl, rfl, Chg.refl _ _⟩
  case round =>
    obtain ⟨n, hk, rfl, rfl, rfl, rfl, hc⟩ := hrel
    by_cases hlt : n < l.length
    · obtain ⟨g, o, rfl, hS, hg, hcap, hmax⟩ := HO.out.some_ (by omega)
      obtain ⟨q, hq⟩ : ∃ q, l[n]? = some q := ⟨l[n], List.getElem?_eq_getElem hlt⟩
      obtain ⟨b0, b1, b2⟩ := stats_cells (HO.out.kept hc) hq
      obtain ⟨q0, q1, q2, q3⟩ := HF.out q (List.mem_of_getElem? hq)
      have hT : l.take (n + 1) = l.take n ++ [q] := by rw [List.take_add_one, hq]; rfl
      have HN : Hid (sum (l.take (n + 1)) = sum (l.take n) + q.load) := by show _ = _; rw [hT, sum_snoc]
      obtain ⟨s0, s1⟩ := sum_bd (l.take n) (fun s hs => HF.out s (List.mem_of_mem_take hs))
      rw [List.length_take, Nat.min_eq_left (by omega)] at s1
      have HC := Lib.hid (hc.alloc (.cells #[.int .i64 q.pod, .int .i64 q.age, .int .i64 q.load] 161))
      have HB := Lib.hid (Blk.new wr #[.int .i64 q.pod, .int .i64 q.age, .int .i64 q.load] 161)
      have s2 : sum (l.take n) ≤ 1000000000 := by omega
      clear hmax hS hc hq hT s1
      generalize sum (l.take n) = m at *
      go_wp2_with fail
      refine (may_yes q.pod q.age q.load _ q0 q1 q2).mono ?_
      rintro e w2 ⟨rfl, hc⟩
      have d2 : w2.cell? ⟨wr.heap.size, 2, none⟩ = some (.int .i64 q.load) := Blk.cell (HB.out.kept hc) 2
      have HC2 := Lib.hid (HC.out.trans hc)
      clear hc
      go_wp2_with (go_at_call 93; refine (add_nn m q.load _ s0 q2 (by omega)).mono ?_; rintro e w' ⟨rfl, rfl⟩)
      go_roundw
      case rel => exact ⟨n + 1, by omega, by go_num, by go_num, rfl, by rw [HN.out], HC2.out⟩
      case measure => simp [intOf]; omega
    · obtain rfl : n = l.length := by omega
      rw [List.take_length]
      go_wp2
      go_ret3
      exact ⟨rfl, hc⟩
set_option maxHeartbeats 2000000 in
theorem old_any (w : World) (S : Nat → Prop) (v : Value) (l : List Stat) (own : Own w S 161 3 v l.length (cellsOf l)) (hn : l.length ≤ 1000) (fine : Fine l) :
    Calls Tryz.prog 131 #[v, .int .i64 0] w fun e w' => e = .returned (.tuple #[.int .i64 (sum l), .int .i64 l.length, .int .i64 0]) ∧ Chg No w w' := by
  have HO := Lib.hid own
  have HF := Lib.hid fine
  clear own fine
  by_cases h0 : l.length = 0
  · have k : (((l.length : Nat) : Int) == 0) = true := by rw [h0]; rfl
    clear h0
    go_enter Tryz.func131, Tryz.ntmps131
    go_wp2_with fail
    refine (total_any w S v l HO.out hn HF.out).mono ?_
    rintro e w1 ⟨rfl, hc⟩
    have HO1 := Lib.hid (HO.out.kept hc)
    have HC := Lib.hid hc
    clear hc
    go_wp2_with fail
    refine (total_any w1 S v l HO1.out hn HF.out).mono ?_
    rintro e w2 ⟨rfl, hc⟩
    have HC2 := Lib.hid (HC.out.trans hc)
    clear hc
    go_wp2
    go_ret3
    exact ⟨rfl, HC2.out⟩
  · have k : (((l.length : Nat) : Int) == 0) = false := beq_eq_false_iff_ne.2 (by omega)
    go_enter Tryz.func131, Tryz.ntmps131
    go_wp2_with fail
    refine (total_any w S v l HO.out hn HF.out).mono ?_
    rintro e w1 ⟨rfl, hc⟩
    have HC := Lib.hid hc
    clear hc
    go_wp2
    go_ret3
    exact ⟨rfl, HC.out⟩
end Go.Proofs.YtdgphoemjeakaaaGreatDoor.S
