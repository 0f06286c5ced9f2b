/- The whole service: what holds of it all the time, behind each step. The whole service as plain functions: from one pod up, and down to none. The whole service in memory: its parts, each of which may be turned by itself. The whole service: a state on the way; pods, waits, decides; flying, busy. The whole service: busy. -/
import Derived.Test.YtdgphoemjeakaaaGreatDoorQ10
import Derived.Test.YtdgphoemjeakaaaGreatDoorQ03
/-! The whole service: what holds of it all the time, behind each step. -/
namespace Go.Proofs.YtdgphoemjeakaaaGreatDoor.V
open Go.Proofs.YtdgphoemjeakaaaGreatDoor
open Go.Proofs.YtdgphoemjeakaaaGreatDoor.M (Pod)
open Go.Proofs.YtdgphoemjeakaaaGreatDoor.R (Bk)

/-- Whole numbers one behind the other are no more than there is room for. -/
theorem sorted_len {lo hi : Int} (hh : lo ≤ hi) : ∀ (l : List Int), l.Pairwise (· < ·) → (∀ x, x ∈ l → lo < x ∧ x ≤ hi) → (l.length : Int) ≤ hi - lo
  | [], _, _ => by simp; omega
  | x :: l, hp, h => by
    obtain ⟨h1, h2⟩ := List.pairwise_cons.1 hp
    have hx := h x List.mem_cons_self
    have := sorted_len (lo := x) (hi := hi) hx.2 l h2 fun y hy => ⟨h1 y hy, (h y (List.mem_cons_of_mem _ hy)).2⟩
    rw [List.length_cons]
    omega
/-- A window that may be. -/
structure WinOk (n newest : Int) (bs : List Bk) : Prop where
  sorted : (bs.map Prod.fst).Pairwise (· < ·)
  at_ : ∀ x, x ∈ bs → (0 ≤ x.1 ∧ newest - n < x.1 ∧ x.1 ≤ newest) ∧ (0 ≤ x.2 ∧ x.2 ≤ 1125899906842624)
theorem WinOk.fine {n newest : Int} {bs : List Bk} (h : WinOk n newest bs) (n0 : 0 ≤ n) (n1 : n ≤ 1000) : Me.Fine newest bs := by
  refine ⟨?_, fun x hx => ⟨⟨(h.at_ x hx).1.1, (h.at_ x hx).1.2.2⟩, (h.at_ x hx).2⟩⟩
  have := sorted_len (lo := newest - n) (hi := newest) (by omega) _ h.sorted (by
    intro x hx
    obtain ⟨b, hb, rfl⟩ := List.mem_map.1 hx
    exact (h.at_ b hb).1.2)
  rw [List.length_map] at this
  omega
theorem WinOk.put {n newest t v : Int} {bs : List Bk} (h : WinOk n newest bs) (n0 : 0 < n) (t0 : 0 ≤ t) (ht : newest < t) (v0 : 0 ≤ v) (v1 : v ≤ 1125899906842624) : WinOk n t (Me.putB n t v bs) := by
  unfold Me.putB
  refine ⟨?_, fun x hx => ?_⟩
  · rw [List.map_append, List.pairwise_append]
    refine ⟨h.sorted.sublist (List.filter_sublist.map _), by simp, fun a ha b hb => ?_⟩
    obtain ⟨x, hx, rfl⟩ := List.mem_map.1 ha
    have := (h.at_ x (List.mem_filter.1 hx).1).1
    simp at hb
    omega
  · rcases List.mem_append.1 hx with hx | hx
    · obtain ⟨h1, h2⟩ := List.mem_filter.1 hx
      obtain ⟨h3, h4⟩ := h.at_ x h1
      simp at h2
      exact ⟨⟨h3.1, by omega, by omega⟩, h4⟩
    · rw [List.mem_singleton.1 hx]
      exact ⟨⟨t0, by show t - n < t; omega, Int.le_refl _⟩, v0, v1⟩

/-- A decider that may be. -/
structure DecOk (b0 b1 : List Bk) (nw : Int) (wl : List Dl.Wish) (hl si mo dl now : Int) : Prop where
  w0 : WinOk 60 nw b0
  w1 : WinOk 6 nw b1
  nwB : -1 ≤ nw ∧ nw ≤ now
  wlB : ∀ x, x ∈ wl → (0 ≤ x.1 ∧ x.1 ≤ now) ∧ (0 ≤ x.2 ∧ x.2 ≤ 1000000)
  hlB : (wl.length : Int) ≤ hl ∧ hl ≤ now
  siB : -1 ≤ si ∧ si ≤ now
  moB : 0 ≤ mo ∧ mo ≤ 1000000
  dlB : 0 ≤ dl ∧ dl ≤ now
/-- What holds all the time. -/
structure Inv (li : Int) (s : Sys) : Prop where
  now0 : 0 ≤ s.now
  pods : PodsOk li s.now s.made s.pods
  load : load s.pods + s.q.length ≤ s.rs.length
  qlen : s.q.length ≤ 100
  qat : ∀ x, x ∈ s.q → (0 ≤ x.1 ∧ x.1 < s.rs.length) ∧ (0 ≤ x.2 ∧ x.2 ≤ s.now)
  ql : s.ql ≤ s.now
  rst : ∀ r, r ∈ s.rs → 0 ≤ r.st ∧ r.st ≤ 6
  dec : DecOk s.b0 s.b1 s.nw s.wl s.hl s.si s.mo s.dl s.now
  lost : 0 ≤ s.lost ∧ s.lost ≤ 1000
  zs : -1 ≤ s.zs ∧ s.zs ≤ s.now
  want : 0 ≤ s.want ∧ s.want ≤ 1000000

theorem stand_len (now st : Int) (rs : List Req) (k : Int) : (stand now st rs k).length = rs.length := by simp [stand]
theorem fly_len (now id : Int) (rs : List Req) (k : Int) : (fly now id rs k).length = rs.length := by simp [fly]
theorem mem_modify {α : Type} {f : α → α} {x : α} : ∀ {l : List α} {k : Nat}, x ∈ l.modify k f → x ∈ l ∨ ∃ y, y ∈ l ∧ x = f y
  | [], k, h => by simp at h
  | a :: l, 0, h => by
    rw [List.modify_zero_cons] at h
    rcases List.mem_cons.1 h with rfl | h
    · exact .inr ⟨a, List.mem_cons_self, rfl⟩
    · exact .inl (List.mem_cons_of_mem _ h)
  | a :: l, k + 1, h => by
    rw [List.modify_succ_cons] at h
    rcases List.mem_cons.1 h with rfl | h
    · exact .inl List.mem_cons_self
    · rcases mem_modify h with h | ⟨y, hy, e⟩
      · exact .inl (List.mem_cons_of_mem _ h)
      · exact .inr ⟨y, List.mem_cons_of_mem _ hy, e⟩
theorem stand_st {now st : Int} {rs : List Req} {k : Int} (h : ∀ r, r ∈ rs → 0 ≤ r.st ∧ r.st ≤ 6) (h0 : 0 ≤ st) (h6 : st ≤ 6) : ∀ r, r ∈ stand now st rs k → 0 ≤ r.st ∧ r.st ≤ 6 := by
  intro r hr
  rcases mem_modify hr with hr | ⟨y, _, rfl⟩
  · exact h r hr
  · exact ⟨h0, h6⟩
theorem fly_st {now id : Int} {rs : List Req} {k : Int} (h : ∀ r, r ∈ rs → 0 ≤ r.st ∧ r.st ≤ 6) : ∀ r, r ∈ fly now id rs k → 0 ≤ r.st ∧ r.st ≤ 6 := by
  intro r hr
  rcases mem_modify hr with hr | ⟨y, _, rfl⟩
  · exact h r hr
  · exact ⟨by show (0 : Int) ≤ 2; decide, by show (2 : Int) ≤ 6; decide⟩

theorem least_bd (bs : List Int) (m : Int) (k : Nat) : -1 ≤ least bs m k ∧ least bs m k < k := by
  induction k with
  | zero => simp [least]
  | succ k ih =>
    unfold least
    simp only
    split <;> omega
theorem least_lt (bs : List Int) (m : Int) (k : Nat) (h : 0 ≤ least bs m k) : bs.getD (least bs m k).toNat 0 < m := by
  induction k with
  | zero => simp [least] at h
  | succ k ih =>
    unfold least at h ⊢
    simp only at h ⊢
    split
    · rename_i h1
      rw [Int.toNat_natCast]
      exact h1.1
    · rename_i h1
      rw [if_neg h1] at h
      exact ih h

/-- Those that wait are sent: what stays. -/
structure SendOk (li now made : Int) (ql : Nat) (q : List (Int × Int)) (ps : List Pod) (rs : List Req) : Prop where
  pods : PodsOk li now made ps
  load : load ps + q.length ≤ rs.length
  qlen : q.length ≤ ql
  qat : ∀ x, x ∈ q → (0 ≤ x.1 ∧ x.1 < rs.length) ∧ (0 ≤ x.2 ∧ x.2 ≤ now)
  rst : ∀ r, r ∈ rs → 0 ≤ r.st ∧ r.st ≤ 6
theorem sendTo_room {ps : List Pod} {li : Int} (h : ¬ least ((M.ready ps).map (busyAt ps)) li (M.ready ps).length < 0) : busyAt ps ((M.ready ps).getD (least ((M.ready ps).map (busyAt ps)) li (M.ready ps).length).toNat 0) < li := by
  have h1 := least_lt ((M.ready ps).map (busyAt ps)) li (M.ready ps).length (by omega)
  obtain ⟨h2, h3⟩ := least_bd ((M.ready ps).map (busyAt ps)) li (M.ready ps).length
  have h4 : (least ((M.ready ps).map (busyAt ps)) li (M.ready ps).length).toNat < (M.ready ps).length := by omega
  simp only [List.getD, List.getElem?_map, List.getElem?_eq_getElem h4, Option.map_some, Option.getD_some] at h1 ⊢
  exact h1
theorem SendOk.one {li now made : Int} {n : Nat} {x : Int × Int} {q : List (Int × Int)} {ps : List Pod} {rs : List Req} (h : SendOk li now made n (x :: q) ps rs) (id : Int) (hb : busyAt ps id < li) : SendOk li now made n q (M.enter ps id).2 (fly now id rs x.1) := by
  obtain ⟨h1, h2⟩ := h.pods.enter id hb
  have h3 := h.load
  have h4 := h.qlen
  simp only [List.length_cons] at h3 h4
  refine ⟨h1, by rw [fly_len]; omega, by omega, fun y hy => by rw [fly_len]; exact h.qat y (List.mem_cons_of_mem _ hy), fly_st h.rst⟩
theorem SendOk.go {li now made : Int} {n : Nat} : ∀ {q : List (Int × Int)} {ps : List Pod} {rs : List Req}, SendOk li now made n q ps rs → SendOk li now made n (sentGo li now q ps rs).1 (sentGo li now q ps rs).2.1 (sentGo li now q ps rs).2.2
  | [], _, _, h => h
  | x :: q, ps, rs, h => by
    unfold sentGo
    simp only
    split
    · exact h
    · rename_i h1
      exact SendOk.go (h.one _ (sendTo_room h1))
theorem sentGo_len (li now : Int) : ∀ (q : List (Int × Int)) (ps : List Pod) (rs : List Req), (sentGo li now q ps rs).2.2.length = rs.length
  | [], _, _ => rfl
  | x :: q, ps, rs => by
    unfold sentGo
    simp only
    split
    · rfl
    · rw [sentGo_len li now q, fly_len]
theorem Inv.send {li : Int} {s : Sys} (h : Inv li s) : SendOk li s.now s.made 100 s.q s.pods s.rs := ⟨h.pods, h.load, h.qlen, h.qat, h.rst⟩
theorem Inv.ofSend {li : Int} {s : Sys} (h : Inv li s) {q : List (Int × Int)} {ps : List Pod} {rs : List Req} (g : SendOk li s.now s.made 100 q ps rs) : Inv li { s with q := q, pods := ps, rs := rs } :=
  ⟨h.now0, g.pods, g.load, g.qlen, g.qat, h.ql, g.rst, h.dec, h.lost, h.zs, h.want⟩
theorem Inv.sent {li : Int} {s : Sys} (h : Inv li s) : Inv li (sent li s) := h.ofSend h.send.go
theorem sent_len (li : Int) (s : Sys) : (sent li s).rs.length = s.rs.length := sentGo_len ..
theorem Inv.come {li : Int} {s : Sys} (h : Inv li s) : Inv li (come s) := by
  have h1 := h.load
  unfold V.come
  split
  · refine ⟨h.now0, h.pods, ?_, h.qlen, fun x hx => ?_, h.ql, fun r hr => ?_, h.dec, h.lost, h.zs, h.want⟩
    · simp only [List.length_append, List.length_cons, List.length_nil]; omega
    · have := h.qat x hx
      simp only [List.length_append, List.length_cons, List.length_nil]; omega
    · rcases List.mem_append.1 hr with hr | hr
      · exact h.rst r hr
      · rw [List.mem_singleton.1 hr]; exact ⟨by show (0 : Int) ≤ 5; decide, by show (5 : Int) ≤ 6; decide⟩
  · rename_i hq
    refine ⟨h.now0, h.pods, ?_, ?_, fun x hx => ?_, Int.le_refl _, fun r hr => ?_, h.dec, h.lost, h.zs, h.want⟩
    · simp only [List.length_append, List.length_cons, List.length_nil]; omega
    · simp only [List.length_append, List.length_cons, List.length_nil]; omega
    · simp only [List.length_append, List.length_cons, List.length_nil]
      rcases List.mem_append.1 hx with hx | hx
      · have := h.qat x hx; omega
      · rw [List.mem_singleton.1 hx]
        have := h.now0
        exact ⟨⟨by simp only; omega, by simp only; omega⟩, this, Int.le_refl _⟩
    · rcases List.mem_append.1 hr with hr | hr
      · exact h.rst r hr
      · rw [List.mem_singleton.1 hr]; exact ⟨by show (0 : Int) ≤ 1; decide, by show (1 : Int) ≤ 6; decide⟩
theorem come_len (s : Sys) : (come s).rs.length = s.rs.length + 1 := by
  unfold come
  split <;> simp
theorem Inv.arrive {li : Int} {s : Sys} (h : Inv li s) : Inv li (arrive li s) := h.come.sent
theorem arrive_len (li : Int) (s : Sys) : (arrive li s).rs.length = s.rs.length + 1 := by
  unfold arrive
  rw [sent_len, come_len]
theorem Inv.arrives {li : Int} : ∀ (n : Nat) {s : Sys}, Inv li s → Inv li (arrives li n s)
  | 0, _, h => h
  | n + 1, _, h => Inv.arrives n h.arrive
theorem arrives_len (li : Int) : ∀ (n : Nat) (s : Sys), (arrives li n s).rs.length = s.rs.length + n
  | 0, _ => rfl
  | n + 1, s => by
    rw [arrives, arrives_len li n, arrive_len]
    omega
theorem Inv.finish {li : Int} {n : Nat} {s : Sys} (h : Inv li s) : Inv li (finish li n s).2 := by
  unfold V.finish
  split
  · exact h
  · rename_i k hk
    refine Inv.sent ?_
    obtain ⟨h1, h2⟩ := h.pods.leave (s.rs.getD k.toNat ⟨0, 0, 0, 0⟩).pod
    have h3 := h.load
    exact ⟨h.now0, h1, by simp only [stand_len]; omega, h.qlen, fun x hx => by simp only [stand_len]; exact h.qat x hx, h.ql, stand_st h.rst (by decide) (by decide), h.dec, h.lost, h.zs, h.want⟩
theorem finish_len (li : Int) (n : Nat) (s : Sys) : (finish li n s).2.rs.length = s.rs.length := by
  unfold finish
  split
  · rfl
  · simp only [sent_len, stand_len]

theorem which_len (ids : List Int) (r : Int) : (S.which ids r).length = S.size ids.length := by simp [S.which]
theorem filter_one {ps : List Pod} (h : (ps.map Pod.id).Nodup) (id : Int) : (ps.filter fun q => q.id == id).length ≤ 1 := by
  induction ps with
  | nil => simp
  | cons p l ih =>
    rw [List.map_cons, List.nodup_cons] at h
    have := ih h.2
    rw [List.filter_cons]
    split
    · rename_i hp
      have hp' : p.id = id := by simpa using hp
      have : l.filter (fun q => q.id == id) = [] := by
        rw [List.filter_eq_nil_iff]
        intro q hq hq2
        have hq3 : q.id = id := by simpa using hq2
        exact h.1 (List.mem_map.2 ⟨q, hq, by rw [hq3, hp']⟩)
      rw [this]; simp
    · exact this
theorem flat_len {α β : Type} {f : α → List β} (hf : ∀ a, (f a).length ≤ 1) : ∀ (l : List α), (l.flatMap f).length ≤ l.length
  | [] => by simp
  | a :: l => by
    have := flat_len hf l
    have := hf a
    rw [List.flatMap_cons, List.length_append, List.length_cons]
    omega
theorem stats_len {li now made : Int} {ps : List Pod} (h : PodsOk li now made ps) (r : Int) : (stats ps r).length ≤ 17 := by
  unfold stats
  refine Nat.le_trans (flat_len (fun id => ?_) _) (by rw [which_len]; exact (S.size_bd _).2)
  rw [List.length_map]
  exact filter_one h.ids id
theorem stats_fine {li now made : Int} {ps : List Pod} (h : PodsOk li now made ps) (l1 : li ≤ 1000) : S.Fine (stats ps now) := by
  intro x hx
  unfold stats at hx
  obtain ⟨id, hid, hx⟩ := List.mem_flatMap.1 hx
  obtain ⟨p, hp, rfl⟩ := List.mem_map.1 hx
  obtain ⟨hp, he⟩ := List.mem_filter.1 hp
  have he' : p.id = id := by simpa using he
  obtain ⟨a, b, c, d⟩ := h.pod p hp
  exact ⟨by show 0 ≤ id; omega, by show 0 ≤ now - p.since; omega, by show 0 ≤ p.busy * 1000; omega, by show p.busy * 1000 ≤ 1000000; omega⟩
theorem spread_bd {l : List S.Stat} (h : S.Fine l) {r : Int} (r0 : 0 ≤ r) (r1 : r ≤ 1000) : 0 ≤ S.spread l r ∧ S.spread l r ≤ 1000000000 := by
  obtain ⟨s0, s1⟩ := S.sum_bd l h
  unfold S.spread
  split
  · omega
  · rename_i hl
    have hm : 0 ≤ S.sum l * r := Int.mul_nonneg s0 r0
    refine ⟨Int.ediv_nonneg hm (by omega), ?_⟩
    refine Int.ediv_le_of_le_mul (by omega) ?_
    have h1 : S.sum l * r ≤ (l.length * 1000000) * 1000 := Int.mul_le_mul s1 r1 r0 (by omega)
    omega
theorem ready_len (ps : List Pod) : (M.ready ps).length ≤ M.count ps := by
  unfold M.ready M.count
  rw [List.length_map]
  induction ps with
  | nil => simp
  | cons p l ih =>
    rw [List.filter_cons, List.filter_cons]
    by_cases h2 : p.st = 2
    · have e1 : (p.st == 2) = true := by simp [h2]
      have e2 : (p.st != 3) = true := by simp [h2]
      rw [e1, e2]
      simp; omega
    · have e1 : (p.st == 2) = false := by simp [h2]
      rw [e1]
      split
      · exact absurd ‹false = true› (by simp)
      · split
        · simp; omega
        · exact ih
theorem scrape_bd {li now made : Int} {ps : List Pod} (h : PodsOk li now made ps) (l1 : li ≤ 1000) {w : Int} (w0 : 0 ≤ w) (w1 : w ≤ 100) : 0 ≤ scrape ps now w ∧ scrape ps now w ≤ 1125899906842624 := by
  have h1 := ready_len ps
  have h2 := h.cnt
  obtain ⟨h3, h4⟩ := spread_bd (stats_fine h l1) (r := ((M.ready ps).length : Int)) (by omega) (by omega)
  unfold scrape
  omega
theorem late_st {now : Int} : ∀ (l : List (Int × Int)) (rs : List Req), (∀ r, r ∈ rs → 0 ≤ r.st ∧ r.st ≤ 6) → ∀ r, r ∈ l.foldl (fun rs x => stand now 4 rs x.1) rs → 0 ≤ r.st ∧ r.st ≤ 6
  | [], _, h => h
  | x :: l, rs, h => late_st l _ (stand_st h (by decide) (by decide))
theorem late_len {now : Int} : ∀ (l : List (Int × Int)) (rs : List Req), (l.foldl (fun rs x => stand now 4 rs x.1) rs).length = rs.length
  | [], _ => rfl
  | x :: l, rs => by rw [List.foldl_cons, late_len l, stand_len]
theorem Inv.tick1 {li rd : Int} {s : Sys} (h : Inv li s) (l1 : li ≤ 1000) : Inv li (tick1 rd s) ∧ (tick1 rd s).hl < (tick1 rd s).now ∧ (tick1 rd s).made ≤ 100 * (tick1 rd s).now ∧ (tick1 rd s).now = s.now + 1 ∧ (tick1 rd s).rs.length = s.rs.length := by
  have hn := h.now0
  have hp := (h.pods.later (now' := s.now + 1) (by omega)).ripe (s.now + 1) rd
  have hd := List.dropWhile_sublist (p := B.late (s.now + 1) 60) (l := s.q)
  have hdl := hd.length_le
  have hload : V.load (s.pods.map (M.ripe (s.now + 1) rd)) + (s.q.dropWhile (B.late (s.now + 1) 60)).length ≤ ((s.q.takeWhile (B.late (s.now + 1) 60)).foldl (fun rs x => stand (s.now + 1) 4 rs x.1) s.rs).length := by
    rw [load_ripe, late_len]
    have := h.load
    omega
  have hql := h.qlen
  have hqat : ∀ x, x ∈ s.q.dropWhile (B.late (s.now + 1) 60) → (0 ≤ x.1 ∧ x.1 < ((s.q.takeWhile (B.late (s.now + 1) 60)).foldl (fun rs x => stand (s.now + 1) 4 rs x.1) s.rs).length) ∧ (0 ≤ x.2 ∧ x.2 ≤ s.now + 1) := by
    intro x hx
    rw [late_len]
    have := h.qat x (hd.subset hx)
    omega
  have hrst := late_st (now := s.now + 1) (s.q.takeWhile (B.late (s.now + 1) 60)) s.rs h.rst
  have hqv := h.ql
  obtain ⟨d1, d2, d3, d4, d5, d6, d7, d8⟩ := h.dec
  have hz := h.zs
  have hlo := h.lost
  have hm := h.pods.made
  have hb := scrape_bd hp l1 (w := ((s.q.dropWhile (B.late (s.now + 1) 60)).length : Int)) (by omega) (by omega)
  unfold V.tick1
  simp only
  split
  · rename_i hlost
    refine ⟨⟨by show 0 ≤ s.now + 1; omega, hp, hload, Nat.le_trans hdl hql, hqat, by show s.ql ≤ s.now + 1; omega, hrst, ⟨d1, d2, ⟨d3.1, by show s.nw ≤ s.now + 1; omega⟩, fun x hx => by have := d4 x hx; exact ⟨⟨this.1.1, by show x.1 ≤ s.now + 1; omega⟩, this.2⟩, ⟨d5.1, by show s.hl ≤ s.now + 1; omega⟩, ⟨d6.1, by show s.si ≤ s.now + 1; omega⟩, d7, ⟨d8.1, by show s.dl ≤ s.now + 1; omega⟩⟩, ⟨by show 0 ≤ s.lost - 1; omega, by show s.lost - 1 ≤ 1000; omega⟩, ⟨hz.1, by show s.zs ≤ s.now + 1; omega⟩, h.want⟩, ?_, ?_, rfl, late_len ..⟩
    · show s.hl < s.now + 1; omega
    · show s.made ≤ 100 * (s.now + 1); omega
  · rename_i hlost
    have hw0 := d1.put (t := s.now + 1) (by decide) (by omega) (by omega) hb.1 hb.2
    have hw1 := d2.put (t := s.now + 1) (by decide) (by omega) (by omega) hb.1 hb.2
    refine ⟨⟨by show 0 ≤ s.now + 1; omega, hp, hload, Nat.le_trans hdl hql, hqat, by show s.ql ≤ s.now + 1; omega, hrst, ⟨hw0, hw1, ⟨by show -1 ≤ s.now + 1; omega, Int.le_refl _⟩, fun x hx => by have := d4 x hx; exact ⟨⟨this.1.1, by show x.1 ≤ s.now + 1; omega⟩, this.2⟩, ⟨d5.1, by show s.hl ≤ s.now + 1; omega⟩, ⟨d6.1, by show s.si ≤ s.now + 1; omega⟩, d7, ⟨d8.1, by show s.dl ≤ s.now + 1; omega⟩⟩, hlo, ⟨hz.1, by show s.zs ≤ s.now + 1; omega⟩, h.want⟩, ?_, ?_, rfl, late_len ..⟩
    · show s.hl < s.now + 1; omega
    · show s.made ≤ 100 * (s.now + 1); omega

theorem limit_bd {w r : Int} (w0 : 0 ≤ w) (r0 : 0 ≤ r) (r1 : r ≤ 100) : 0 ≤ P.limit w r ∧ P.limit w r ≤ 1000 := by
  unfold P.limit
  omega
theorem mode_bd {since most now : Int} {o : Bool} (n0 : 0 ≤ now) (h1 : -1 ≤ since ∧ since ≤ now) (h2 : 0 ≤ most ∧ most ≤ 1000000) : (-1 ≤ (P.nextMode since most now o).1 ∧ (P.nextMode since most now o).1 ≤ now) ∧ (0 ≤ (P.nextMode since most now o).2 ∧ (P.nextMode since most now o).2 ≤ 1000000) := by
  unfold P.nextMode
  split
  · split <;> simp only <;> omega
  · split <;> simp only <;> omega
theorem keep_bd {since most want : Int} (h2 : 0 ≤ most ∧ most ≤ 1000000) (h3 : 0 ≤ want ∧ want ≤ 1000000) : 0 ≤ (P.keep since most want).1 ∧ (P.keep since most want).1 ≤ 1000000 := by
  unfold P.keep
  split <;> simp only <;> omega
theorem wantOf_nn {m : Int} (m0 : 0 ≤ m) : 0 ≤ P.wantOf m := by
  have := (P.up_bd (a := m) (b := 7000) m0 (by omega)).1
  unfold P.wantOf
  omega
theorem nextD_ok {b0 b1 : List Bk} {nw : Int} {wl : List Dl.Wish} {hl si mo dl now : Int} (bu li : Int) (h : DecOk b0 b1 nw wl hl si mo dl now) (hh : hl < now) (n0 : 0 ≤ now) {r : Int} (r0 : 0 ≤ r) (r1 : r ≤ 100) :
    DecOk b0 b1 nw (De.nextD bu li b0 b1 wl si mo now r).l now (De.nextD bu li b0 b1 wl si mo now r).since (De.nextD bu li b0 b1 wl si mo now r).most now now ∧ (0 ≤ (De.nextD bu li b0 b1 wl si mo now r).want ∧ (De.nextD bu li b0 b1 wl si mo now r).want ≤ 100) := by
  have f0 := h.w0.fine (by decide) (by decide)
  have f1 := h.w1.fine (by decide) (by decide)
  obtain ⟨m0, _⟩ := De.meanB_bd (n := 60) (t := now) f0
  obtain ⟨q0, _⟩ := De.meanB_bd (n := 6) (t := now) f1
  have a0 := limit_bd (wantOf_nn m0) r0 r1
  have a1 := limit_bd (wantOf_nn q0) r0 r1
  obtain ⟨k1, k2⟩ := mode_bd (o := P.over (P.wantOf (R.meanB 6 now b1)) r) n0 h.siB h.moB
  obtain ⟨n1, hn1⟩ : ∃ n1, (if 0 ≤ (P.nextMode si mo now (P.over (P.wantOf (R.meanB 6 now b1)) r)).1 then max (P.limit (P.wantOf (R.meanB 60 now b0)) r) (P.limit (P.wantOf (R.meanB 6 now b1)) r) else P.limit (P.wantOf (R.meanB 60 now b0)) r) = n1 := ⟨_, rfl⟩
  have b : 0 ≤ n1 ∧ n1 ≤ 1000 := by
    rw [← hn1]
    split <;> omega
  have hl' : ∀ x, x ∈ G.kept (Dl.far now) wl ++ [(now, n1)] → (0 ≤ x.1 ∧ x.1 ≤ now) ∧ (0 ≤ x.2 ∧ x.2 ≤ 1000000) := by
    intro x hx
    rcases List.mem_append.1 hx with hx | hx
    · exact h.wlB x (List.mem_filter.1 hx).1
    · rw [List.mem_singleton.1 hx]
      exact ⟨⟨n0, Int.le_refl _⟩, by simp only; omega, by simp only; omega⟩
  have hm := Dl.mostD_bd now _ fun x hx => (hl' x hx).2
  have k3 := keep_bd (since := (P.nextMode si mo now (P.over (P.wantOf (R.meanB 6 now b1)) r)).1) k2 hm
  have hlen : (G.kept (Dl.far now) wl).length ≤ wl.length := List.length_filter_le _ _
  have h5 := h.hlB
  have el : (De.nextD bu li b0 b1 wl si mo now r).l = G.kept (Dl.far now) wl ++ [(now, n1)] := by rw [← hn1]; rfl
  have em : (De.nextD bu li b0 b1 wl si mo now r).most = (P.keep (P.nextMode si mo now (P.over (P.wantOf (R.meanB 6 now b1)) r)).1 (P.nextMode si mo now (P.over (P.wantOf (R.meanB 6 now b1)) r)).2 (Dl.mostD now (G.kept (Dl.far now) wl ++ [(now, n1)]))).1 := by rw [← hn1]; rfl
  refine ⟨⟨h.w0, h.w1, h.nwB, by rw [el]; exact hl', ⟨by rw [el]; simp; omega, Int.le_refl _⟩, k1, by rw [em]; exact k3, ⟨n0, Int.le_refl _⟩⟩, ?_⟩
  show 0 ≤ max (min _ 100) 0 ∧ max (min _ 100) 0 ≤ 100
  omega
theorem Inv.tick2 {bu li : Int} {s : Sys} (h : Inv li s) (hh : s.hl < s.now) : Inv li (tick2 bu li s) := by
  have h1 := ready_len s.pods
  have h2 := h.pods.cnt
  obtain ⟨d, w⟩ := nextD_ok bu li h.dec hh h.now0 (r := ((M.ready s.pods).length : Int)) (by omega) (by omega)
  have hz := h.zs
  have hn := h.now0
  refine ⟨h.now0, h.pods, h.load, h.qlen, h.qat, h.ql, h.rst, d, h.lost, ?_, ?_⟩
  · show -1 ≤ P.nextState s.zs s.now _ ∧ P.nextState s.zs s.now _ ≤ s.now
    unfold P.nextState
    split
    · split <;> omega
    · omega
  · show 0 ≤ P.wantAt _ _ _ _ _ _ _ ∧ P.wantAt _ _ _ _ _ _ _ ≤ 1000000
    unfold P.wantAt
    split
    · omega
    · split <;> omega
theorem Inv.tick3 {li : Int} {s : Sys} (h : Inv li s) (l0 : 0 ≤ li) (hm : s.made ≤ 100 * s.now) : Inv li (tick3 s) := by
  obtain ⟨h1, h2⟩ := h.pods.scale h.now0 l0 (min s.want 100).toNat (by omega) hm
  have h3 := h.load
  have h4 : V.load (M.scale (min s.want 100).toNat s.now s.pods s.made).1 + s.q.length ≤ s.rs.length := by omega
  exact ⟨h.now0, h1, h4, h.qlen, h.qat, h.ql, h.rst, h.dec, h.lost, h.zs, h.want⟩
theorem Inv.tick {bu li rd : Int} {s : Sys} (h : Inv li s) (l0 : 0 ≤ li) (l1 : li ≤ 1000) : Inv li (tick bu li rd s) := by
  obtain ⟨h1, h2, h3, _⟩ := h.tick1 (rd := rd) l1
  exact ((h1.tick2 (bu := bu) h2).tick3 l0 h3).sent
theorem tick_now (bu li rd : Int) (s : Sys) : (tick bu li rd s).now = s.now + 1 := by
  show (tick1 rd s).now = _
  unfold tick1
  simp only
  split <;> rfl
theorem tick_len (bu li rd : Int) (s : Sys) : (tick bu li rd s).rs.length = s.rs.length := by
  show (sent li (tick3 (tick2 bu li (tick1 rd s)))).rs.length = _
  rw [sent_len]
  show (tick1 rd s).rs.length = _
  unfold tick1
  simp only
  split <;> exact late_len ..
theorem Inv.ticks {bu li rd : Int} (l0 : 0 ≤ li) (l1 : li ≤ 1000) : ∀ (n : Nat) {s : Sys}, Inv li s → Inv li (ticks bu li rd n s)
  | 0, _, h => h
  | n + 1, _, h => Inv.ticks l0 l1 n (h.tick l0 l1)
theorem ticks_now (bu li rd : Int) : ∀ (n : Nat) (s : Sys), (ticks bu li rd n s).now = s.now + n
  | 0, _ => by simp [ticks]
  | n + 1, s => by
    rw [ticks, ticks_now bu li rd n, tick_now]
    omega
theorem ticks_len (bu li rd : Int) : ∀ (n : Nat) (s : Sys), (ticks bu li rd n s).rs.length = s.rs.length
  | 0, _ => rfl
  | n + 1, s => by rw [ticks, ticks_len bu li rd n, tick_len]
theorem Inv.new {bu ini li : Int} (i0 : 0 ≤ ini) (i1 : ini ≤ 100) (l0 : 0 ≤ li) : Inv li (new bu ini li) := by
  have hp : PodsOk li 0 0 [] := ⟨by decide, List.nodup_nil, fun p hp => by simp at hp, by decide, by decide⟩
  obtain ⟨h1, h2⟩ := hp.scale (by decide) l0 ini.toNat (by omega) (by decide)
  refine ⟨Int.le_refl 0, h1.ripe 0 0, ?_, by show 0 ≤ 100; decide, fun x hx => by simp [V.new] at hx, by show (-9223372036854775808 : Int) ≤ 0; decide, fun r hr => by simp [V.new] at hr, ⟨⟨List.Pairwise.nil, fun x hx => by simp [V.new] at hx⟩, ⟨List.Pairwise.nil, fun x hx => by simp [V.new] at hx⟩, ⟨Int.le_refl _, by show (-1 : Int) ≤ 0; decide⟩, fun x hx => by simp [V.new] at hx, ⟨Int.le_refl _, Int.le_refl _⟩, ⟨Int.le_refl _, by show (-1 : Int) ≤ 0; decide⟩, ⟨Int.le_refl _, by show (0 : Int) ≤ 1000000; decide⟩, ⟨Int.le_refl _, Int.le_refl _⟩⟩, ⟨Int.le_refl _, by show (0 : Int) ≤ 1000; decide⟩, ⟨Int.le_refl _, by show (-1 : Int) ≤ 0; decide⟩, ⟨i0, by show ini ≤ 1000000; omega⟩⟩
  show V.load ((M.scale ini.toNat 0 [] 0).1.map (M.ripe 0 0)) + ((0 : Nat) : Int) ≤ ((0 : Nat) : Int)
  rw [load_ripe]
  have : V.load [] = 0 := rfl
  omega
end Go.Proofs.YtdgphoemjeakaaaGreatDoor.V

/-! The whole service as plain functions: from one pod up, and down to none. -/
namespace Go.Proofs.YtdgphoemjeakaaaGreatDoor.V
open Go.Proofs.YtdgphoemjeakaaaGreatDoor
set_option maxRecDepth 100000
theorem told_true : told = true := by decide +kernel
end Go.Proofs.YtdgphoemjeakaaaGreatDoor.V

/-! The whole service in memory: its parts, each of which may be turned by itself. -/
namespace Go.Proofs.YtdgphoemjeakaaaGreatDoor.Y
open Go.Proofs.YtdgphoemjeakaaaGreatDoor.Me
open Go.RowKit Go.Proofs.YtdgphoemjeakaaaGreatDoor Go.Proofs.YtdgphoemjeakaaaGreatDoor.K Go.Proofs.YtdgphoemjeakaaaGreatDoor.P Go.Proofs.YtdgphoemjeakaaaGreatDoor.U Go.Proofs.YtdgphoemjeakaaaGreatDoor.R

/-- A request's cells. -/
def rcells (r : V.Req) : List Value := [.int .i64 r.came, .int .i64 r.since, .int .i64 r.st, .int .i64 r.pod]
def reqs (l : List V.Req) : List Value := l.flatMap rcells
theorem reqs_len (l : List V.Req) : (reqs l).length = l.length * 4 := by
  induction l with
  | nil => rfl
  | cons q l ih => simp [reqs, rcells] at ih ⊢; omega
theorem reqs_snoc (l : List V.Req) (q : V.Req) : reqs (l ++ [q]) = reqs l ++ rcells q := by simp [reqs]
theorem reqs_cons (q : V.Req) (l : List V.Req) : reqs (q :: l) = rcells q ++ reqs l := by simp [reqs]
theorem reqs_at (l : List V.Req) (i j : Nat) (q : V.Req) (h : l[i]? = some q) (hj : j < 4) : (reqs l)[i * 4 + j]? = (rcells q)[j]? := by
  induction l generalizing i with
  | nil => simp at h
  | cons a l ih =>
    cases i with
    | zero =>
      simp at h
      subst h
      rw [reqs_cons, List.getElem?_append_left (by simp [rcells]; omega)]
      simp
    | succ i =>
      simp at h
      rw [reqs_cons, List.getElem?_append_right (by simp [rcells]; omega), ← ih i h]
      congr 1
      simp [rcells]
      omega
theorem reqs_set (l : List V.Req) (i j : Nat) (q q' : V.Req) (u : Value) (h : l[i]? = some q) (hj : j < 4) (hq : (rcells q).set j u = rcells q') : (reqs l).set (i * 4 + j) u = reqs (l.set i q') := by
  induction l generalizing i with
  | nil => simp at h
  | cons a l ih =>
    cases i with
    | zero =>
      simp at h
      subst h
      rw [reqs_cons, List.set_cons_zero, reqs_cons, List.set_append_left _ _ (by simp [rcells]; omega), Nat.zero_mul, Nat.zero_add, hq]
    | succ i =>
      simp at h
      have e : (i + 1) * 4 + j = (rcells a).length + (i * 4 + j) := by simp [rcells]; omega
      rw [reqs_cons, List.set_cons_succ, reqs_cons, e, List.set_append_right _ _ (by omega), Nat.add_sub_cancel_left, ih i h]
theorem rcells_one (q : V.Req) : ∀ u ∈ rcells q, u.oneCell' = true := by
  intro u hu
  simp [rcells] at hu
  rcases hu with rfl | rfl | rfl | rfl <;> rfl
theorem modify_at {α : Type} (f : α → α) : ∀ (l : List α) (k : Nat) (x : α), l[k]? = some x → l.modify k f = l.set k (f x)
  | [], _, _, h => by simp at h
  | a :: l, 0, x, h => by simp at h; subst h; rfl
  | a :: l, k + 1, x, h => by
    simp at h
    rw [List.modify_succ_cons, List.set_cons_succ, modify_at f l k x h]
theorem req_cells {w : World} {S : Nat → Prop} {l : List V.Req} {g o c : Nat} (h : Own w S 48 4 (.slice (some ⟨g, o, none⟩) l.length c) l.length (reqs l)) {n : Nat} {q : V.Req} (hq : l[n]? = some q) :
    w.cell? ⟨g, o + n * 4, none⟩ = some (.int .i64 q.came) ∧ w.cell? ⟨g, o + n * 4 + 1, none⟩ = some (.int .i64 q.since) ∧ w.cell? ⟨g, o + n * 4 + 2, none⟩ = some (.int .i64 q.st) ∧ w.cell? ⟨g, o + n * 4 + 3, none⟩ = some (.int .i64 q.pod) := by
  have hn : n < l.length := (List.getElem?_eq_some_iff.1 hq).1
  have h0 := h.cellAt (n * 4) (by omega)
  have h1 := h.cellAt (n * 4 + 1) (by omega)
  have h2 := h.cellAt (n * 4 + 2) (by omega)
  have h3 := h.cellAt (n * 4 + 3) (by omega)
  rw [reqs_at _ _ _ _ hq (by omega)] at h1 h2 h3
  rw [show n * 4 = n * 4 + 0 from rfl, reqs_at _ _ _ _ hq (by omega)] at h0
  exact ⟨h0, h1, h2, h3⟩

/-- An owned slice, as something that lies in blocks. -/
def OwnR (e : TypeId) (size : Nat) (v : Value) (n : Nat) (xs : List Value) : Rep := fun w S => (∀ k, S k → k < w.heap.size) ∧ Own w S e size v n xs
theorem OwnR.good {e : TypeId} {size : Nat} {v : Value} {n : Nat} {xs : List Value} : U.Good (OwnR e size v n xs) :=
  ⟨fun h c hd => ⟨fun k hk => Nat.lt_of_lt_of_le (h.1 k hk) c.size, h.2.chg c hd⟩, fun h => h.1⟩
theorem OwnR.wide {e : TypeId} {size : Nat} {v : Value} {n : Nat} {xs : List Value} : U.Wide (OwnR e size v n xs) :=
  ⟨fun h hs hb => ⟨hb, h.2.mono fun k _ hk => hs k hk⟩⟩
def LifeR (p : Nat) (ps : List M.Pod) (made : Int) : Rep := fun w S => A.Life w S p ps made
theorem LifeR.good {p : Nat} {ps : List M.Pod} {made : Int} : U.Good (LifeR p ps made) := ⟨fun h c hd => A.Life.chg h c hd, fun h => A.Life.bd h⟩
theorem LifeR.wide {p : Nat} {ps : List M.Pod} {made : Int} : U.Wide (LifeR p ps made) := ⟨fun h hs hb => A.Life.mono h (fun k _ h => hs k h) hb⟩
def QueueR (p : Nat) (l : List (Int × Int)) (last : Int) : Rep := fun w S => B.Queue w S p l 100 last
theorem QueueR.good {p : Nat} {l : List (Int × Int)} {last : Int} : U.Good (QueueR p l last) := ⟨fun h c hd => B.Queue.chg h c hd, fun ⟨_, h⟩ => h.bd⟩
theorem QueueR.wide {p : Nat} {l : List (Int × Int)} {last : Int} : U.Wide (QueueR p l last) := ⟨fun h hs hb => B.Queue.mono h (fun k _ h => hs k h) hb⟩

/-- The cells of the service. -/
def sc (bu ini li rd : Int) (g : Nat) (rv tv : Value) (s : V.Sys) : Array Value := mw (ca bu ini li rd) [.int .i64 s.now, .slice (some ⟨g, 0, none⟩) 3 3, rv, .int .i64 s.ld.t, .int .i64 s.ld.stable, .int .i64 s.ld.quick, .int .i64 s.ld.want, .bool s.ld.panic, .int .i64 s.ld.excess, .int .i64 s.want, .bool s.proxy, .int .i64 s.zs, .int .i64 s.lost, tv]
/-- The cells of its parts. -/
def pc (l q d : Nat) : Array Value := #[.iface 52 (.pointer (some ⟨l, 0, none⟩)), .iface 54 (.pointer (some ⟨q, 0, none⟩)), .iface 56 (.pointer (some ⟨d, 0, none⟩))]
/-- Where all lies. -/
structure At where
  bu : Int
  ini : Int
  li : Int
  rd : Int
  p : Nat
  g : Nat
  l : Nat
  q : Nat
  d : Nat
/-- What the decider holds. -/
abbrev DecR (a : At) (s : V.Sys) : Rep := De.Decider a.bu a.ini a.li a.rd a.d s.b0 s.b1 s.nw s.wl s.hl s.si s.mo s.dl
/-- The service in its parts. -/
def Y2 (a : At) (cs : Array Value) (rv tv : Value) (tn : Nat) (tx : List Value) (s : V.Sys) : Rep :=
  Two (One a.p cs 66) (Two (One a.g (pc a.l a.q a.d) 20) (Two (LifeR a.l s.pods s.made) (Two (QueueR a.q s.q s.ql) (Two (DecR a s) (Two (OwnR 48 4 rv s.rs.length (reqs s.rs)) (OwnR 38 15 tv tn tx))))))
section
variable {a : At} {cs : Array Value} {rv tv : Value} {tn : Nat} {tx : List Value} {s : V.Sys} {w : World} {S : Nat → Prop}
theorem g6 : U.Good (Two (OwnR 48 4 rv s.rs.length (reqs s.rs)) (OwnR 38 15 tv tn tx)) := Two.good OwnR.good OwnR.good
theorem g5 : U.Good (Two (DecR a s) (Two (OwnR 48 4 rv s.rs.length (reqs s.rs)) (OwnR 38 15 tv tn tx))) := Two.good De.Decider.good g6
theorem g4 : U.Good (Two (QueueR a.q s.q s.ql) (Two (DecR a s) (Two (OwnR 48 4 rv s.rs.length (reqs s.rs)) (OwnR 38 15 tv tn tx)))) := Two.good QueueR.good g5
theorem g3 : U.Good (Two (LifeR a.l s.pods s.made) (Two (QueueR a.q s.q s.ql) (Two (DecR a s) (Two (OwnR 48 4 rv s.rs.length (reqs s.rs)) (OwnR 38 15 tv tn tx))))) := Two.good LifeR.good g4
theorem g2 : U.Good (Two (One a.g (pc a.l a.q a.d) 20) (Two (LifeR a.l s.pods s.made) (Two (QueueR a.q s.q s.ql) (Two (DecR a s) (Two (OwnR 48 4 rv s.rs.length (reqs s.rs)) (OwnR 38 15 tv tn tx)))))) := Two.good (One.good _ _ _) g3
theorem Y2.good : U.Good (Y2 a cs rv tv tn tx s) := Two.good (One.good _ _ _) g2
theorem Y2.wide : U.Wide (Y2 a cs rv tv tn tx s) := Two.wide
theorem Y2.blk (x : Y2 a cs rv tv tn tx s w S) : Blk w a.p cs 66 := by
  obtain ⟨A, h1, _⟩ := Two.left g2 x
  exact h1.2.2
theorem Y2.own (x : Y2 a cs rv tv tn tx s w S) : S a.p := by
  obtain ⟨A, h1, h2, _⟩ := Two.left g2 x
  exact h2 _ h1.2.1
theorem Y2.gblk (x : Y2 a cs rv tv tn tx s w S) : Blk w a.g (pc a.l a.q a.d) 20 := by
  obtain ⟨A, h1, _⟩ := Two.right (One.good _ _ _) x
  obtain ⟨A, h1, _⟩ := Two.left g3 h1
  exact h1.2.2
/-- A cell of its own. -/
theorem Y2.cell (x : Y2 a cs rv tv tn tx s w S) (j : Nat) (v : Value) : Y2 a (cs.setIfInBounds j v) rv tv tn tx s (w.setCell ⟨a.p, j, none⟩ v) (K.nx S w (w.setCell ⟨a.p, j, none⟩ v)) ∧ Chg S w (w.setCell ⟨a.p, j, none⟩ v) := by
  obtain ⟨A, h1, _, back⟩ := Two.left g2 x
  obtain ⟨g1, g2⟩ := h1.set j v
  exact back _ _ g1 g2
/-- Its cells all at once. -/
theorem Y2.cells (x : Y2 a cs rv tv tn tx s w S) : ∃ A : Nat → Prop, One a.p cs 66 w A ∧ ∀ (cs' : Array Value) (w' : World), One a.p cs' 66 w' (K.nx A w w') → Chg A w w' → Y2 a cs' rv tv tn tx s w' (K.nx S w w') ∧ Chg S w w' := by
  obtain ⟨A, h1, _, back⟩ := Two.left g2 x
  exact ⟨A, h1, fun cs' w' h c => back _ _ h c⟩
/-- The pods may be turned by themselves. -/
theorem Y2.life (x : Y2 a cs rv tv tn tx s w S) : ∃ C : Nat → Prop, A.Life w C a.l s.pods s.made ∧ ∀ (ps : List M.Pod) (made : Int) (w' : World), A.Life w' (K.nx C w w') a.l ps made → Chg C w w' →
    Y2 a cs rv tv tn tx { s with pods := ps, made := made } w' (K.nx S w w') ∧ Chg S w w' := by
  obtain ⟨A1, h1, _, b1⟩ := Two.right (One.good _ _ _) x
  obtain ⟨A2, h2, _, b2⟩ := Two.right (One.good _ _ _) h1
  obtain ⟨A3, h3, _, b3⟩ := Two.left g4 h2
  refine ⟨A3, h3, fun ps made w' h c => ?_⟩
  obtain ⟨e1, e2⟩ := b3 (LifeR a.l ps made) w' h c
  obtain ⟨e1, e2⟩ := b2 _ w' e1 e2
  exact b1 _ w' e1 e2
/-- The queue may be turned by itself. -/
theorem Y2.queue (x : Y2 a cs rv tv tn tx s w S) : ∃ C : Nat → Prop, B.Queue w C a.q s.q 100 s.ql ∧ ∀ (l : List (Int × Int)) (last : Int) (w' : World), B.Queue w' (K.nx C w w') a.q l 100 last → Chg C w w' →
    Y2 a cs rv tv tn tx { s with q := l, ql := last } w' (K.nx S w w') ∧ Chg S w w' := by
  obtain ⟨A1, h1, _, b1⟩ := Two.right (One.good _ _ _) x
  obtain ⟨A2, h2, _, b2⟩ := Two.right (One.good _ _ _) h1
  obtain ⟨A3, h3, _, b3⟩ := Two.right LifeR.good h2
  obtain ⟨A4, h4, _, b4⟩ := Two.left g5 h3
  refine ⟨A4, h4, fun l last w' h c => ?_⟩
  obtain ⟨e1, e2⟩ := b4 (QueueR a.q l last) w' h c
  obtain ⟨e1, e2⟩ := b3 _ w' e1 e2
  obtain ⟨e1, e2⟩ := b2 _ w' e1 e2
  exact b1 _ w' e1 e2
/-- The decider may be turned by itself. -/
theorem Y2.dec (x : Y2 a cs rv tv tn tx s w S) : ∃ C : Nat → Prop, DecR a s w C ∧ ∀ (b0 b1 : List Bk) (nw : Int) (wl : List Dl.Wish) (hl si mo dl : Int) (w' : World), De.Decider a.bu a.ini a.li a.rd a.d b0 b1 nw wl hl si mo dl w' (K.nx C w w') → Chg C w w' →
    Y2 a cs rv tv tn tx { s with b0 := b0, b1 := b1, nw := nw, wl := wl, hl := hl, si := si, mo := mo, dl := dl } w' (K.nx S w w') ∧ Chg S w w' := by
  obtain ⟨A1, h1, _, c1⟩ := Two.right (One.good _ _ _) x
  obtain ⟨A2, h2, _, c2⟩ := Two.right (One.good _ _ _) h1
  obtain ⟨A3, h3, _, c3⟩ := Two.right LifeR.good h2
  obtain ⟨A4, h4, _, c4⟩ := Two.right QueueR.good h3
  obtain ⟨A5, h5, _, c5⟩ := Two.left g6 h4
  refine ⟨A5, h5, fun b0 b1 nw wl hl si mo dl w' h c => ?_⟩
  obtain ⟨e1, e2⟩ := c5 _ w' h c
  obtain ⟨e1, e2⟩ := c4 _ w' e1 e2
  obtain ⟨e1, e2⟩ := c3 _ w' e1 e2
  obtain ⟨e1, e2⟩ := c2 _ w' e1 e2
  exact c1 _ w' e1 e2
/-- The requests may be turned by themselves. -/
theorem Y2.req (x : Y2 a cs rv tv tn tx s w S) : ∃ C : Nat → Prop, OwnR 48 4 rv s.rs.length (reqs s.rs) w C ∧ (∀ k, C k → S k) ∧ ∀ (rv' : Value) (rs : List V.Req) (w' : World), OwnR 48 4 rv' rs.length (reqs rs) w' (K.nx C w w') → Chg C w w' →
    Y2 a cs rv' tv tn tx { s with rs := rs } w' (K.nx S w w') ∧ Chg S w w' := by
  obtain ⟨A1, h1, i1, c1⟩ := Two.right (One.good _ _ _) x
  obtain ⟨A2, h2, i2, c2⟩ := Two.right (One.good _ _ _) h1
  obtain ⟨A3, h3, i3, c3⟩ := Two.right LifeR.good h2
  obtain ⟨A4, h4, i4, c4⟩ := Two.right QueueR.good h3
  obtain ⟨A5, h5, i5, c5⟩ := Two.right De.Decider.good h4
  obtain ⟨A6, h6, i6, c6⟩ := Two.left OwnR.good h5
  refine ⟨A6, h6, fun k hk => i1 k (i2 k (i3 k (i4 k (i5 k (i6 k hk))))), fun rv' rs w' h c => ?_⟩
  obtain ⟨e1, e2⟩ := c6 (OwnR 48 4 rv' rs.length (reqs rs)) w' h c
  obtain ⟨e1, e2⟩ := c5 _ w' e1 e2
  obtain ⟨e1, e2⟩ := c4 _ w' e1 e2
  obtain ⟨e1, e2⟩ := c3 _ w' e1 e2
  obtain ⟨e1, e2⟩ := c2 _ w' e1 e2
  exact c1 _ w' e1 e2
/-- What was seen may be turned by itself. -/
theorem Y2.trace (x : Y2 a cs rv tv tn tx s w S) : ∃ C : Nat → Prop, OwnR 38 15 tv tn tx w C ∧ ∀ (tv' : Value) (tn' : Nat) (tx' : List Value) (w' : World), OwnR 38 15 tv' tn' tx' w' (K.nx C w w') → Chg C w w' →
    Y2 a cs rv tv' tn' tx' s w' (K.nx S w w') ∧ Chg S w w' := by
  obtain ⟨A1, h1, _, c1⟩ := Two.right (One.good _ _ _) x
  obtain ⟨A2, h2, _, c2⟩ := Two.right (One.good _ _ _) h1
  obtain ⟨A3, h3, _, c3⟩ := Two.right LifeR.good h2
  obtain ⟨A4, h4, _, c4⟩ := Two.right QueueR.good h3
  obtain ⟨A5, h5, _, c5⟩ := Two.right De.Decider.good h4
  obtain ⟨A6, h6, _, c6⟩ := Two.right OwnR.good h5
  refine ⟨A6, h6, fun tv' tn' tx' w' h c => ?_⟩
  obtain ⟨e1, e2⟩ := c6 _ w' h c
  obtain ⟨e1, e2⟩ := c5 _ w' e1 e2
  obtain ⟨e1, e2⟩ := c4 _ w' e1 e2
  obtain ⟨e1, e2⟩ := c3 _ w' e1 e2
  obtain ⟨e1, e2⟩ := c2 _ w' e1 e2
  exact c1 _ w' e1 e2
end
/-- The service. -/
def Sys (a : At) (s : V.Sys) : Rep := fun w S => ∃ rv tv tn tx, tn ≤ 1000 ∧ Y2 a (sc a.bu a.ini a.li a.rd a.g rv tv s) rv tv tn tx s w S
theorem Sys.good {a : At} {s : V.Sys} : U.Good (Sys a s) := ⟨fun ⟨rv, tv, tn, tx, h, x⟩ c hd => ⟨rv, tv, tn, tx, h, Y2.good.chg x c hd⟩, fun ⟨_, _, _, _, _, x⟩ => x.1⟩
theorem Sys.wide {a : At} {s : V.Sys} : U.Wide (Sys a s) := ⟨fun ⟨rv, tv, tn, tx, h, x⟩ hs hb => ⟨rv, tv, tn, tx, h, Y2.wide.mono x hs hb⟩⟩
end Go.Proofs.YtdgphoemjeakaaaGreatDoor.Y

/-! The whole service: a state on the way; pods, waits, decides; flying, busy. -/
namespace Go.Proofs.YtdgphoemjeakaaaGreatDoor.Y
open Go.Proofs.YtdgphoemjeakaaaGreatDoor.Me
open Go.RowKit Go.Proofs.YtdgphoemjeakaaaGreatDoor Go.Proofs.YtdgphoemjeakaaaGreatDoor.K Go.Proofs.YtdgphoemjeakaaaGreatDoor.P Go.Proofs.YtdgphoemjeakaaaGreatDoor.U Go.Proofs.YtdgphoemjeakaaaGreatDoor.R
set_option maxRecDepth 100000

/-- On the way from w0: the service owns what it owned and what is new; nothing else has turned. -/
def St (a : At) (S : Nat → Prop) (w0 : World) (cs : Array Value) (rv tv : Value) (tn : Nat) (tx : List Value) (s : V.Sys) (w : World) : Prop :=
  Y2 a cs rv tv tn tx s w (K.nx S w0 w) ∧ Chg S w0 w
section
variable {a : At} {S : Nat → Prop} {w0 : World} {cs cs' : Array Value} {rv rv' tv tv' : Value} {tn tn' : Nat} {tx tx' : List Value} {s s' : V.Sys} {w w' : World}
theorem St.start (x : Y2 a cs rv tv tn tx s w S) : St a S w cs rv tv tn tx s w := ⟨Y2.wide.nx' Y2.good x, Chg.refl _ _⟩
theorem St.next (h : St a S w0 cs rv tv tn tx s w) (x : Y2 a cs' rv' tv' tn' tx' s' w' (K.nx (K.nx S w0 w) w w')) (c : Chg (K.nx S w0 w) w w') : St a S w0 cs' rv' tv' tn' tx' s' w' := ⟨Y2.wide.nn x h.2.size, h.2.next c⟩
theorem St.no (h : St a S w0 cs rv tv tn tx s w) (c : Chg No w w') : St a S w0 cs rv tv tn tx s w' := h.next (Y2.wide.nx Y2.good h.1 c) c.of_no
theorem St.blk (h : St a S w0 cs rv tv tn tx s w) : Blk w a.p cs 66 := h.1.blk
theorem St.gblk (h : St a S w0 cs rv tv tn tx s w) : Blk w a.g (pc a.l a.q a.d) 20 := h.1.gblk
theorem St.own (h : St a S w0 cs rv tv tn tx s w) : K.nx S w0 w a.p := h.1.own
theorem St.cell (h : St a S w0 cs rv tv tn tx s w) (j : Nat) (v : Value) : St a S w0 (cs.setIfInBounds j v) rv tv tn tx s (w.setCell ⟨a.p, j, none⟩ v) := by
  obtain ⟨g1, g2⟩ := h.1.cell j v
  exact h.next g1 g2
theorem St.life (h : St a S w0 cs rv tv tn tx s w) : ∃ C : Nat → Prop, A.Life w C a.l s.pods s.made ∧ ∀ (ps : List M.Pod) (made : Int) (w' : World), A.Life w' (K.nx C w w') a.l ps made → Chg C w w' → St a S w0 cs rv tv tn tx { s with pods := ps, made := made } w' := by
  obtain ⟨C, h1, back⟩ := h.1.life
  refine ⟨C, h1, fun ps made w' x c => ?_⟩
  obtain ⟨g1, g2⟩ := back ps made w' x c
  exact h.next g1 g2
theorem St.queue (h : St a S w0 cs rv tv tn tx s w) : ∃ C : Nat → Prop, B.Queue w C a.q s.q 100 s.ql ∧ ∀ (l : List (Int × Int)) (last : Int) (w' : World), B.Queue w' (K.nx C w w') a.q l 100 last → Chg C w w' → St a S w0 cs rv tv tn tx { s with q := l, ql := last } w' := by
  obtain ⟨C, h1, back⟩ := h.1.queue
  refine ⟨C, h1, fun l last w' x c => ?_⟩
  obtain ⟨g1, g2⟩ := back l last w' x c
  exact h.next g1 g2
theorem St.dec (h : St a S w0 cs rv tv tn tx s w) : ∃ C : Nat → Prop, DecR a s w C ∧ ∀ (b0 b1 : List Bk) (nw : Int) (wl : List Dl.Wish) (hl si mo dl : Int) (w' : World), De.Decider a.bu a.ini a.li a.rd a.d b0 b1 nw wl hl si mo dl w' (K.nx C w w') → Chg C w w' →
    St a S w0 cs rv tv tn tx { s with b0 := b0, b1 := b1, nw := nw, wl := wl, hl := hl, si := si, mo := mo, dl := dl } w' := by
  obtain ⟨C, h1, back⟩ := h.1.dec
  refine ⟨C, h1, fun b0 b1 nw wl hl si mo dl w' x c => ?_⟩
  obtain ⟨g1, g2⟩ := back b0 b1 nw wl hl si mo dl w' x c
  exact h.next g1 g2
theorem St.req (h : St a S w0 cs rv tv tn tx s w) : ∃ C : Nat → Prop, OwnR 48 4 rv s.rs.length (reqs s.rs) w C ∧ ∀ (rv' : Value) (rs : List V.Req) (w' : World), OwnR 48 4 rv' rs.length (reqs rs) w' (K.nx C w w') → Chg C w w' → St a S w0 cs rv' tv tn tx { s with rs := rs } w' := by
  obtain ⟨C, h1, _, back⟩ := h.1.req
  refine ⟨C, h1, fun rv' rs w' x c => ?_⟩
  obtain ⟨g1, g2⟩ := back rv' rs w' x c
  exact h.next g1 g2
theorem St.trace (h : St a S w0 cs rv tv tn tx s w) : ∃ C : Nat → Prop, OwnR 38 15 tv tn tx w C ∧ ∀ (tv' : Value) (tn' : Nat) (tx' : List Value) (w' : World), OwnR 38 15 tv' tn' tx' w' (K.nx C w w') → Chg C w w' → St a S w0 cs rv tv' tn' tx' s w' := by
  obtain ⟨C, h1, back⟩ := h.1.trace
  refine ⟨C, h1, fun tv' tn' tx' w' x c => ?_⟩
  obtain ⟨g1, g2⟩ := back tv' tn' tx' w' x c
  exact h.next g1 g2
theorem St.rq (h : St a S w0 cs rv tv tn tx s w) : ∃ C : Nat → Prop, Own w C 48 4 rv s.rs.length (reqs s.rs) := ⟨_, h.req.choose_spec.1.2⟩
end

/-- Where the service's cells hold its parts' row. -/
theorem at_parts {a : At} {S : Nat → Prop} {w0 : World} {cs : Array Value} {rv tv : Value} {tn : Nat} {tx : List Value} {s : V.Sys} {w : World} (h : St a S w0 cs rv tv tn tx s w) (hg : cs[21]? = some (.slice (some ⟨a.g, 0, none⟩) 3 3)) :
    w.cell? ⟨a.p, 21, none⟩ = some (.slice (some ⟨a.g, 0, none⟩) 3 3) ∧ w.cell? ⟨a.g, 0, none⟩ = some (.iface 52 (.pointer (some ⟨a.l, 0, none⟩))) ∧ w.cell? ⟨a.g, 1, none⟩ = some (.iface 54 (.pointer (some ⟨a.q, 0, none⟩))) ∧ w.cell? ⟨a.g, 2, none⟩ = some (.iface 56 (.pointer (some ⟨a.d, 0, none⟩))) :=
  ⟨by rw [h.blk.cell]; exact hg, h.gblk.cell 0, h.gblk.cell 1, h.gblk.cell 2⟩
set_option maxHeartbeats 1000000 in
theorem pods_c (p g l q d : Nat) (w : World) (h0 : w.cell? ⟨p, 21, none⟩ = some (.slice (some ⟨g, 0, none⟩) 3 3)) (h1 : w.cell? ⟨g, 0, none⟩ = some (.iface 52 (.pointer (some ⟨l, 0, none⟩)))) (_ : w.cell? ⟨g, 1, none⟩ = some (.iface 54 (.pointer (some ⟨q, 0, none⟩)))) (_ : w.cell? ⟨g, 2, none⟩ = some (.iface 56 (.pointer (some ⟨d, 0, none⟩)))) :
    Calls Tryz.prog 21 #[.pointer (some ⟨p, 0, none⟩)] w fun e w' => e = .returned (.pointer (some ⟨l, 0, none⟩)) ∧ Chg No w w' := by
  go_enter Tryz.func21, Tryz.ntmps21
  go_wp2
  go_ret
  exact ⟨rfl, Chg.refl _ _⟩
set_option maxHeartbeats 1000000 in
theorem waits_c (p g l q d : Nat) (w : World) (h0 : w.cell? ⟨p, 21, none⟩ = some (.slice (some ⟨g, 0, none⟩) 3 3)) (_ : w.cell? ⟨g, 0, none⟩ = some (.iface 52 (.pointer (some ⟨l, 0, none⟩)))) (h1 : w.cell? ⟨g, 1, none⟩ = some (.iface 54 (.pointer (some ⟨q, 0, none⟩)))) (_ : w.cell? ⟨g, 2, none⟩ = some (.iface 56 (.pointer (some ⟨d, 0, none⟩)))) :
    Calls Tryz.prog 33 #[.pointer (some ⟨p, 0, none⟩)] w fun e w' => e = .returned (.pointer (some ⟨q, 0, none⟩)) ∧ Chg No w w' := by
  go_enter Tryz.func33, Tryz.ntmps33
  go_wp2
  go_ret
  exact ⟨rfl, Chg.refl _ _⟩
set_option maxHeartbeats 1000000 in
theorem decides_c (p g l q d : Nat) (w : World) (h0 : w.cell? ⟨p, 21, none⟩ = some (.slice (some ⟨g, 0, none⟩) 3 3)) (_ : w.cell? ⟨g, 0, none⟩ = some (.iface 52 (.pointer (some ⟨l, 0, none⟩)))) (_ : w.cell? ⟨g, 1, none⟩ = some (.iface 54 (.pointer (some ⟨q, 0, none⟩)))) (h1 : w.cell? ⟨g, 2, none⟩ = some (.iface 56 (.pointer (some ⟨d, 0, none⟩)))) :
    Calls Tryz.prog 35 #[.pointer (some ⟨p, 0, none⟩)] w fun e w' => e = .returned (.pointer (some ⟨d, 0, none⟩)) ∧ Chg No w w' := by
  go_enter Tryz.func35, Tryz.ntmps35
  go_wp2
  go_ret
  exact ⟨rfl, Chg.refl _ _⟩
section
variable {a : At} {S : Nat → Prop} {w0 : World} {cs : Array Value} {rv tv : Value} {tn : Nat} {tx : List Value} {s : V.Sys} {w : World}
theorem pods_any (h : St a S w0 cs rv tv tn tx s w) (hg : cs[21]? = some (.slice (some ⟨a.g, 0, none⟩) 3 3)) : Calls Tryz.prog 21 #[.pointer (some ⟨a.p, 0, none⟩)] w fun e w' => e = .returned (.pointer (some ⟨a.l, 0, none⟩)) ∧ Chg No w w' := by
  obtain ⟨h0, h1, h2, h3⟩ := at_parts h hg
  exact pods_c _ _ _ _ _ w h0 h1 h2 h3
theorem waits_any (h : St a S w0 cs rv tv tn tx s w) (hg : cs[21]? = some (.slice (some ⟨a.g, 0, none⟩) 3 3)) : Calls Tryz.prog 33 #[.pointer (some ⟨a.p, 0, none⟩)] w fun e w' => e = .returned (.pointer (some ⟨a.q, 0, none⟩)) ∧ Chg No w w' := by
  obtain ⟨h0, h1, h2, h3⟩ := at_parts h hg
  exact waits_c _ _ _ _ _ w h0 h1 h2 h3
theorem decides_any (h : St a S w0 cs rv tv tn tx s w) (hg : cs[21]? = some (.slice (some ⟨a.g, 0, none⟩) 3 3)) : Calls Tryz.prog 35 #[.pointer (some ⟨a.p, 0, none⟩)] w fun e w' => e = .returned (.pointer (some ⟨a.d, 0, none⟩)) ∧ Chg No w w' := by
  obtain ⟨h0, h1, h2, h3⟩ := at_parts h hg
  exact decides_c _ _ _ _ _ w h0 h1 h2 h3
end

theorem flyFrom_snoc (l : List V.Req) (r : V.Req) : ∀ (k : Nat), V.flyFrom k (l ++ [r]) = V.flyFrom k l ++ if r.st == 2 then [((k + l.length : Nat) : Int)] else [] := by
  induction l with
  | nil => intro k; simp [V.flyFrom]
  | cons q l ih =>
    intro k
    simp only [List.cons_append, V.flyFrom, ih, List.length_cons]
    rw [show k + 1 + l.length = k + (l.length + 1) by omega]
    split <;> simp
theorem fly_len (l : List V.Req) : ∀ (k : Nat), (V.flyFrom k l).length ≤ l.length := by
  induction l with
  | nil => intro k; simp [V.flyFrom]
  | cons q l ih =>
    intro k
    have := ih (k + 1)
    simp only [V.flyFrom, List.length_cons]
    split
    · simp; omega
    · omega

set_option maxHeartbeats 2000000 in
theorem flying_c (p : Nat) (rv : Value) (rs : List V.Req) (w : World) (C : Nat → Prop) (cs : Array Value) (hp : Blk w p cs 66) (hr : cs[22]? = some rv) (own : Own w C 48 4 rv rs.length (reqs rs)) (hn : rs.length ≤ 1099511627776) :
    Calls Tryz.prog 52 #[.pointer (some ⟨p, 0, none⟩)] w fun e w' => ∃ v, e = .returned v ∧ Own w' (New w) 3 1 v (V.flying rs).length ((V.flying rs).map (Value.int .i64)) ∧ Chg No w w' := by
  obtain ⟨i0, hi, hz0, hz1, hz2⟩ := info_parts A.info3
  obtain ⟨va, cap, rfl⟩ := own.sl
  have c22 : w.cell? ⟨p, 22, none⟩ = some (.slice va rs.length cap) := by rw [hp.cell]; exact hr
  have HO := Lib.hid own
  clear own hp hr
  go_enter Tryz.func52, Tryz.ntmps52
  go_wp2_with fail
  go_loopw [3, 11] (fun o i wr => ∃ n : Nat, n ≤ rs.length ∧ i = .int .i64 n ∧ Own wr (New w) 3 1 o (V.flying (rs.take n)).length ((V.flying (rs.take n)).map (Value.int .i64)) ∧ Chg No w wr) (fun _ i _ => rs.length - (intOf i).toNat)
  case atStart => exact ⟨0, Nat.zero_le _, rfl, Own.nil _ _ _ _, Chg.refl _ _⟩
  case round =>
    obtain ⟨n, hk, rfl, ho, hc⟩ := hrel
    by_cases hlt : n < rs.length
    · obtain ⟨g, o, rfl, hS, hg, hcap, hmax⟩ := HO.out.some_ (by omega)
      obtain ⟨q, hq⟩ : ∃ q, rs[n]? = some q := ⟨rs[n], List.getElem?_eq_getElem hlt⟩
      obtain ⟨b0, b1, b2, b3⟩ := req_cells (HO.out.kept hc) hq
      have hT : rs.take (n + 1) = rs.take n ++ [q] := by rw [List.take_add_one, hq]; rfl
      have HF : Hid (V.flying (rs.take (n + 1)) = V.flying (rs.take n) ++ if q.st == 2 then [(n : Int)] else []) := by
        show _ = _
        unfold V.flying
        rw [hT, flyFrom_snoc, List.length_take, Nat.min_eq_left (by omega), Nat.zero_add]
      have hfl : (V.flying (rs.take n)).length ≤ n := by
        have := fly_len (rs.take n) 0
        rw [List.length_take] at this
        unfold V.flying
        omega
      have HO2 := Lib.hid ho
      have HC := Lib.hid hc
      clear ho hc hq hS hmax hT
      generalize V.flying (rs.take n) = fl at *
      obtain ⟨q0, q1, q2, q3⟩ := q
      by_cases hst : q2 = 2
      · have k1 : (q2 == 2) = true := by simp [hst]
        have HF2 : Hid (V.flying (rs.take (n + 1)) = fl ++ [(n : Int)]) := by
          show _ = _
          rw [HF.out]
          simp only [k1, if_true]
        clear HF hst
        go_wp2_with (at_builtin; refine wpList_app _ rfl _ _ 76 rfl (New w) 3 i0 _ 1 8 Tryz.underlying76 hi hz0 hz1 hz2 rfl _ _ _ rfl (((HO2.out.alloc _)).alloc _) ⟨wr.heap.size + 1, 0, none⟩ 1 1 [.int .i64 n] rfl (by decide) rfl (built_at (by simp)) (by simp [Value.oneCell']) (by simp only [maxLen]; omega) (by omega) ?_; intro g2 o2 c2 w' ho' hc')
        go_roundw
        case rel =>
          obtain ⟨h1, h2⟩ := fresh_app (HC.out.alloc _) ho' hc'
          refine ⟨n + 1, by omega, by go_num, ?_, h2⟩
          rw [HF2.out, List.map_append, List.length_append]
          exact h1
        case measure => simp [intOf]; omega
      · have k1 : (q2 == 2) = false := by simp [hst]
        have HF2 : Hid (V.flying (rs.take (n + 1)) = fl) := by
          show _ = _
          rw [HF.out]
          simp [k1]
        clear HF hst
        go_wp2
        go_roundw
        case rel =>
          refine ⟨n + 1, by omega, by go_num, ?_, HC.out.alloc _⟩
          rw [HF2.out]
          exact HO2.out.alloc _
        case measure => simp [intOf]; omega
    · obtain rfl : n = rs.length := by omega
      rw [List.take_length] at ho
      go_wp2
      go_ret
      exact ⟨_, rfl, ho, hc⟩
end Go.Proofs.YtdgphoemjeakaaaGreatDoor.Y

/-! The whole service: busy. -/
namespace Go.Proofs.YtdgphoemjeakaaaGreatDoor.Y
open Go.Proofs.YtdgphoemjeakaaaGreatDoor.Me
open Go.RowKit Go.Proofs.YtdgphoemjeakaaaGreatDoor Go.Proofs.YtdgphoemjeakaaaGreatDoor.K Go.Proofs.YtdgphoemjeakaaaGreatDoor.P Go.Proofs.YtdgphoemjeakaaaGreatDoor.U Go.Proofs.YtdgphoemjeakaaaGreatDoor.R
set_option maxRecDepth 100000

theorem busyAt_hit {ps : List M.Pod} {id : Int} {n : Nat} {q : M.Pod} (hq : ps[n]? = some q) (h : q.id = id) (hn : ∀ (j : Nat) (x : M.Pod), j < n → ps[j]? = some x → ¬ x.id = id) : V.busyAt ps id = q.busy := by
  have hl : n < ps.length := (List.getElem?_eq_some_iff.1 hq).1
  have e : ps.find? (fun q => q.id == id) = some q := by
    rw [List.find?_eq_some_iff_getElem]
    refine ⟨by simp [h], n, hl, (List.getElem?_eq_some_iff.1 hq).2, fun j hj => ?_⟩
    have hjl : j < ps.length := by omega
    have := hn j ps[j] hj (List.getElem?_eq_getElem hjl)
    simp [this]
  unfold V.busyAt
  rw [e]
theorem busyAt_none {ps : List M.Pod} {id : Int} (hn : ∀ (j : Nat) (x : M.Pod), j < ps.length → ps[j]? = some x → ¬ x.id = id) : V.busyAt ps id = 0 := by
  have e : ps.find? (fun q => q.id == id) = none := by
    rw [List.find?_eq_none]
    intro x hx
    obtain ⟨j, hj, e⟩ := List.getElem_of_mem hx
    have := hn j x hj (by rw [← e]; exact List.getElem?_eq_getElem hj)
    simp [this]
  unfold V.busyAt
  rw [e]

set_option maxHeartbeats 2000000 in
theorem busy_any {a : At} {S : Nat → Prop} {w0 : World} {cs : Array Value} {rv tv : Value} {tn : Nat} {tx : List Value} {s : V.Sys} {w : World} (hst : St a S w0 cs rv tv tn tx s w) (hg : cs[21]? = some (.slice (some ⟨a.g, 0, none⟩) 3 3)) (hn : s.pods.length ≤ 1099511627776) (id : Int) :
    Calls Tryz.prog 77 #[.pointer (some ⟨a.p, 0, none⟩), .int .i64 id] w fun e w' => e = .returned (.int .i64 (V.busyAt s.pods id)) ∧ Chg No w w' := by
  have H := Lib.hid hst
  have HG := Lib.hid hg
  clear hst hg
  go_enter Tryz.func77, Tryz.ntmps77
  go_wp2_with fail
  refine (pods_any H.out HG.out).mono ?_
  rintro e w1 ⟨rfl, hc1⟩
  have H1 := Lib.hid (H.out.no hc1)
  have C1 := Lib.hid hc1
  clear H hc1
  go_wp2_with fail
  obtain ⟨C, hl, _⟩ := H1.out.life
  refine (A.all_any w1 C a.l s.pods s.made hl hn).mono ?_
  rintro e w2 ⟨v, rfl, ho, hc2⟩
  obtain ⟨va, cap, rfl⟩ := ho.sl
  have HO := Lib.hid ho
  have C2 := Lib.hid (C1.out.trans hc2)
  clear hl ho hc2 H1 C1 HG
  generalize hps : s.pods = ps at *
  have HPS := Lib.hid hps
  clear hps
  go_wp2_with fail
  go_loopw [11] (fun i wr => ∃ n : Nat, n ≤ ps.length ∧ i = .int .i64 n ∧ Hid (∀ (j : Nat) (x : M.Pod), j < n → ps[j]? = some x → ¬ x.id = id) ∧ Chg No w2 wr) (fun i _ => ps.length - (intOf i).toNat)
  case atStart => exact ⟨0, Nat.zero_le _, rfl, fun j x hj => by omega, Chg.refl _ _⟩
  case round =>
    obtain ⟨n, hk, rfl, HN, hc⟩ := hrel
    by_cases hlt : n < ps.length
    · obtain ⟨g, o, rfl, hS, hg, hcap, hmax⟩ := HO.out.some_ (by omega)
      obtain ⟨q, hq⟩ : ∃ q, ps[n]? = some q := ⟨ps[n], List.getElem?_eq_getElem hlt⟩
      obtain ⟨b0, b1, b2, b3⟩ := A.pods_cells (HO.out.kept hc) hq
      have HQ := Lib.hid hq
      have HC := Lib.hid hc
      clear hc hq hS hmax
      by_cases hst : q.id = id
      · have k1 : (q.id == id) = true := by simp [hst]
        have HR := Lib.hid (busyAt_hit HQ.out hst HN.out)
        clear hst
        go_wp2
        go_ret
        exact ⟨by rw [HPS.out, HR.out]; rfl, C2.out.trans (HC.out.alloc _)⟩
      · have k1 : (q.id == id) = false := by simp [hst]
        have HQN : Hid (∀ (j : Nat) (x : M.Pod), j < n + 1 → ps[j]? = some x → ¬ x.id = id) := by
          intro j x hj hx
          by_cases e : j = n
          · subst e
            rw [HQ.out] at hx
            cases hx
            exact hst
          · exact HN.out j x (by omega) hx
        clear hst
        go_wp2
        go_roundw
        case rel => exact ⟨n + 1, by omega, by go_num, HQN, HC.out.alloc _⟩
        case measure => simp [intOf]; omega
    · obtain rfl : n = ps.length := by omega
      have HR := Lib.hid (busyAt_none HN.out)
      go_wp2
      go_ret
      exact ⟨by rw [HPS.out, HR.out]; rfl, C2.out.trans hc⟩
end Go.Proofs.YtdgphoemjeakaaaGreatDoor.Y
