/- TopQueue: the plain law: while no pod is ready all wait; at the tick at which the first pod is ready they are sent. -/
import Derived.Test.YtdgphoemjeakaaaGreatDoorQu
namespace Go.Proofs.YtdgphoemjeakaaaGreatDoor.V
open Go.Proofs.YtdgphoemjeakaaaGreatDoor
open Go.Proofs.YtdgphoemjeakaaaGreatDoor.M (Pod)

/-- Pods at which nothing is in flight, and that do not go. -/
def Idle (ps : List Pod) : Prop := ∀ p, p ∈ ps → (p.st = 1 ∨ p.st = 2) ∧ p.busy = 0
theorem idle_count : ∀ {ps : List Pod}, Idle ps → M.count ps = ps.length
  | [], _ => rfl
  | p :: l, h => by
    rw [M.count_cons, idle_count (ps := l) fun q hq => h q (List.mem_cons_of_mem _ hq), List.length_cons]
    have : (p.st != 3) = true := by
      rcases (h p List.mem_cons_self).1 with e | e <;> simp [e]
    rw [this]
    simp; omega
theorem next_pos {h : Pod} {t : List Pod} (hi : Idle (h :: t)) (hh : h.st = 2 ∨ ∀ p, p ∈ h :: t → p.st = 1) : ∀ n : Nat, 2 ≤ n → n ≤ (h :: t).length → 1 ≤ M.nextTo (h :: t) n
  | 0, h2, _ => by omega
  | 1, h2, _ => by omega
  | 2, _, hl => by
    obtain ⟨q, hq⟩ : ∃ q, (h :: t)[1]? = some q := ⟨_, List.getElem?_eq_getElem (by omega)⟩
    have h1 : M.nextTo (h :: t) 1 = 0 := by
      have : (h.st == 3) = false := by rcases (hi h List.mem_cons_self).1 with e | e <;> simp [e]
      simp [M.nextTo, this]
    have hq2 := hi q (List.mem_of_getElem? hq)
    have h3 : (q.st == 3) = false := by rcases hq2.1 with e | e <;> simp [e]
    have ha : M.ahead q h = true := by
      have hb := (hi h List.mem_cons_self).2
      unfold M.ahead
      rcases hq2.1 with e | e
      · simp [e]
      · rcases hh with e2 | e2
        · simp [e2, hq2.2, hb]
        · exact absurd (e2 q (List.mem_of_getElem? hq)) (by omega)
    rw [M.nextTo, hq]
    dsimp only
    rw [h3, h1]
    simp [ha]
  | n + 3, _, hl => by
    have ih := next_pos hi hh (n + 2) (by omega) (by omega)
    rw [M.nextTo]
    split
    · exact ih
    · split
      · exact ih
      · split
        · omega
        · split
          · exact ih
          · split
            · omega
            · exact ih
theorem gone_head {now : Int} {h : Pod} {t : List Pod} (hi : Idle (h :: t)) (hh : h.st = 2 ∨ ∀ p, p ∈ h :: t → p.st = 1) (ht : t ≠ []) : ∃ t', M.gone now (h :: t) = h :: t' ∧ (∀ p, p ∈ t' → p ∈ t) ∧ t'.length + 1 = t.length := by
  have hl : 1 ≤ t.length := List.length_pos_iff.2 ht
  have h1 := next_pos hi hh (h :: t).length (by simp; omega) (Nat.le_refl _)
  have h2 := (M.nextTo_bd (h :: t) (h :: t).length).2
  obtain ⟨j, hj⟩ : ∃ j : Nat, (M.nextTo (h :: t) (h :: t).length).toNat = j + 1 := ⟨(M.nextTo (h :: t) (h :: t).length).toNat - 1, by omega⟩
  have hjl : j < t.length := by
    have h3 : (h :: t).length = t.length + 1 := rfl
    omega
  obtain ⟨q, hq⟩ : ∃ q, t[j]? = some q := ⟨_, List.getElem?_eq_getElem hjl⟩
  have hq' : (h :: t)[j + 1]? = some q := by simpa using hq
  refine ⟨t.eraseIdx j, ?_, fun p hp => List.mem_of_mem_eraseIdx hp, by rw [List.length_eraseIdx_of_lt hjl]; omega⟩
  unfold M.gone
  rw [hj, hq']
  dsimp only
  rw [(hi q (List.mem_of_getElem? hq')).2]
  rfl
theorem fewer_head {now : Int} {h : Pod} : ∀ (m : Nat) {t : List Pod}, Idle (h :: t) → (h.st = 2 ∨ ∀ p, p ∈ h :: t → p.st = 1) → m ≤ t.length → ∃ t', M.fewer now m (h :: t) = h :: t' ∧ ∀ p, p ∈ t' → p ∈ t
  | 0, t, _, _, _ => ⟨t, rfl, fun _ h => h⟩
  | m + 1, t, hi, hh, hm => by
    obtain ⟨t', e, h1, h2⟩ := gone_head (now := now) hi hh (by rintro rfl; simp at hm)
    have sub : ∀ p, p ∈ h :: t' → p ∈ h :: t := fun p hp => by
      rcases List.mem_cons.1 hp with rfl | hp
      · exact List.mem_cons_self
      · exact List.mem_cons_of_mem _ (h1 p hp)
    obtain ⟨t2, e2, h3⟩ := fewer_head (now := now) m (fun p hp => hi p (sub p hp)) (hh.imp id fun g p hp => g p (sub p hp)) (by omega)
    exact ⟨t2, by rw [M.fewer, e, e2], fun p hp => h1 p (h3 p hp)⟩
theorem more_list (now : Int) : ∀ (m : Nat) (ps : List Pod) (made : Int), ∃ N : List Pod, (M.more now m (ps, made)).1 = ps ++ N ∧ N.length = m ∧ ∀ p, p ∈ N → p.st = 1 ∧ p.busy = 0 ∧ p.since = now
  | 0, ps, _ => ⟨[], by simp [M.more], rfl, fun _ h => nomatch h⟩
  | m + 1, ps, made => by
    obtain ⟨N, e, hl, h⟩ := more_list now m (ps ++ [⟨made, 1, 0, now⟩]) (made + 1)
    refine ⟨⟨made, 1, 0, now⟩ :: N, by rw [M.more, e]; simp, by simp [hl], fun p hp => ?_⟩
    rcases List.mem_cons.1 hp with rfl | hp
    · exact ⟨rfl, rfl, rfl⟩
    · exact h p hp
/-- There are so many: the first one stays. -/
theorem scale_head {n : Nat} {now made : Int} {ps : List Pod} (n1 : 1 ≤ n) (hi : Idle ps) (hh : (∀ p, p ∈ ps → p.st = 1) ∨ ∃ h t, ps = h :: t ∧ h.st = 2) :
    ∃ h t, (M.scale n now ps made).1 = h :: t ∧ ((ps = [] ∧ h.since = now ∧ h.st = 1 ∧ h.busy = 0) ∨ ∃ t', ps = h :: t') ∧ ∀ p, p ∈ t → p ∈ ps ∨ (p.st = 1 ∧ p.busy = 0 ∧ p.since = now) := by
  obtain ⟨N, e, hl, hN⟩ := more_list now (n - M.count ps) ps made
  have hc := idle_count hi
  rw [hc] at hl
  have hN0 : Idle (ps ++ N) := fun p hp => by
    rcases List.mem_append.1 hp with hp | hp
    · exact hi p hp
    · exact ⟨.inl (hN p hp).1, (hN p hp).2.1⟩
  unfold M.scale
  dsimp only
  rw [e, idle_count hN0]
  cases ps with
  | nil =>
    cases N with
    | nil => simp at hl; omega
    | cons h N =>
      have : ([] ++ h :: N : List Pod).length - n = 0 := by simp at hl ⊢; omega
      rw [this]
      exact ⟨h, N, rfl, .inl ⟨rfl, (hN h List.mem_cons_self).2.2, (hN h List.mem_cons_self).1, (hN h List.mem_cons_self).2.1⟩, fun p hp => .inr (hN p (List.mem_cons_of_mem _ hp))⟩
  | cons h t =>
    have hh' : h.st = 2 ∨ ∀ p, p ∈ h :: (t ++ N) → p.st = 1 := by
      rcases hh with hh | ⟨h', t', e2, hs⟩
      · refine .inr fun p hp => ?_
        rcases List.mem_cons.1 hp with rfl | hp
        · exact hh _ List.mem_cons_self
        · rcases List.mem_append.1 hp with hp | hp
          · exact hh p (List.mem_cons_of_mem _ hp)
          · exact (hN p hp).1
      · cases e2
        exact .inl hs
    obtain ⟨t', e3, h3⟩ := fewer_head (now := now) ((h :: t ++ N).length - n) (t := t ++ N) (by simpa using hN0) hh' (by simp; omega)
    refine ⟨h, t', by simpa using e3, .inr ⟨t, rfl⟩, fun p hp => ?_⟩
    rcases List.mem_append.1 (h3 p hp) with hp | hp
    · exact .inl (List.mem_cons_of_mem _ hp)
    · exact .inr (hN p hp)

/-- All wait: no pod is ready yet. -/
structure QA (k : Nat) (s : Sys) : Prop where
  len : s.rs.length = k
  st : ∀ r, r ∈ s.rs → r.st = 1
  q : s.q = qof 0 k
  pods : ∀ p, p ∈ s.pods → p.st = 1 ∧ p.busy = 0 ∧ 1 ≤ p.since
  head : (s.now = 0 ∧ s.pods = []) ∨ (1 ≤ s.now ∧ ∃ h t, s.pods = h :: t ∧ h.since = 1)
theorem QA.ends {k : Nat} {s : Sys} (h : QA k s) : ends s.rs 2 = 0 ∧ ends s.rs 3 = 0 ∧ ends s.rs 4 = 0 ∧ ends s.rs 5 = 0 ∧ ends s.rs 6 = 0 := by
  obtain ⟨a, b, c, d, e⟩ := ends_of [] [] s.rs (fun _ h => by cases h) (fun _ h => by cases h) h.st
  simp only [List.nil_append, List.append_nil] at a b c d e
  exact ⟨a, b, c, d, e⟩
theorem sent_none {li : Int} {s : Sys} (h : M.ready s.pods = []) : sent li s = s := by
  unfold V.sent
  have : sentGo li s.now s.q s.pods s.rs = (s.q, s.pods, s.rs) := by
    cases hq : s.q with
    | nil => rfl
    | cons x q =>
      rw [sentGo]
      try dsimp only
      rw [h]
      rfl
  rw [this]
theorem ready_none {ps : List Pod} (h : ∀ p, p ∈ ps → p.st = 1) : M.ready ps = [] := by
  unfold M.ready
  rw [List.filter_eq_nil_iff.2 fun p hp => by simp [h p hp]]
  rfl
theorem QA.arrive {li : Int} {k : Nat} {s : Sys} (h : QA k s) (h0 : s.now = 0) (hk : k < 100) : QA (k + 1) (arrive li s) ∧ (V.arrive li s).now = 0 := by
  have hp : s.pods = [] := by
    rcases h.head with h | h
    · exact h.2
    · omega
  have hc : come s = { s with rs := s.rs ++ [⟨s.now, s.now, 1, -1⟩], q := s.q ++ [((s.rs.length : Int), s.now)], ql := s.now } := by
    unfold V.come
    rw [if_neg (by rw [h.q, qof_len]; omega)]
  have e : V.arrive li s = { s with rs := s.rs ++ [⟨s.now, s.now, 1, -1⟩], q := s.q ++ [((s.rs.length : Int), s.now)], ql := s.now } := by
    unfold V.arrive
    rw [hc]
    exact sent_none (by show M.ready s.pods = []; rw [hp]; rfl)
  rw [e]
  refine ⟨⟨by simp [h.len], fun r hr => ?_, ?_, h.pods, h.head⟩, h0⟩
  · rcases List.mem_append.1 hr with hr | hr
    · exact h.st r hr
    · rw [List.mem_singleton.1 hr]
  · show s.q ++ _ = _
    rw [qof_snoc, h.q, h.len, h0, Nat.zero_add]
theorem QA.arrives {li : Int} : ∀ (n : Nat) {k : Nat} {s : Sys}, QA k s → s.now = 0 → k + n ≤ 100 → QA (k + n) (arrives li n s) ∧ (V.arrives li n s).now = 0
  | 0, _, _, h, h0, _ => ⟨h, h0⟩
  | n + 1, k, s, h, h0, hk => by
    obtain ⟨h1, h2⟩ := h.arrive (li := li) h0 (by omega)
    rw [show k + (n + 1) = k + 1 + n by omega, V.arrives]
    exact QA.arrives n h1 h2 (by omega)
theorem QA.new (bu li : Int) : QA 0 (new bu 0 li) := by
  have hp : (V.new bu 0 li).pods = [] := rfl
  exact ⟨rfl, (fun _ h => nomatch h), rfl, (fun p h => by rw [hp] at h; cases h), .inl ⟨rfl, hp⟩⟩
theorem tick1_q {rd : Int} {k : Nat} {s : Sys} (h : QA k s) (hn : s.now + 1 < 60) : (tick1 rd s).now = s.now + 1 ∧ (tick1 rd s).q = s.q ∧ (tick1 rd s).rs = s.rs ∧ (tick1 rd s).pods = s.pods.map (M.ripe (s.now + 1) rd) := by
  obtain ⟨e1, e2⟩ := qof_late hn 0 k
  unfold tick1
  dsimp only
  rw [h.q, e1, e2]
  split <;> exact ⟨rfl, rfl, rfl, rfl⟩
theorem tick2_want {bu li : Int} {s : Sys} (h : 1 ≤ s.q.length) : 1 ≤ (tick2 bu li s).want := by
  show 1 ≤ P.wantAt _ _ _ _ _ _ _
  have hz : ((s.q.length : Int) == 0) = false := beq_false_of_ne (by omega)
  unfold P.wantAt P.mayGo
  simp only [hz, Bool.and_false, Bool.false_and, Bool.or_self, Bool.false_eq_true, if_false]
  split <;> omega
/-- Behind a tick: those who wait are sent if one is ready. -/
theorem QA.tick {bu li rd : Int} {k : Nat} {s : Sys} (h : QA k s) (iv : Inv li s) (l0 : 1 ≤ li) (l1 : li ≤ 1000) (r0 : 0 ≤ rd) (hk : 1 ≤ k) (hn : s.now + 1 < 60) :
    (s.now + 1 < max (1 + rd) 2 → QA k (tick bu li rd s)) ∧ (s.now + 1 = max (1 + rd) 2 → QB li k 0 (tick bu li rd s)) := by
  obtain ⟨t1, t2, t3, t4⟩ := tick1_q (rd := rd) h hn
  obtain ⟨i1, i2, i3, _, _⟩ := iv.tick1 (rd := rd) l1
  have i4 := (i1.tick2 (bu := bu) i2)
  have i5 := (i4.tick3 (by omega) (by show (tick1 rd s).made ≤ 100 * (tick1 rd s).now; exact i3))
  have hw : 1 ≤ (tick2 bu li (tick1 rd s)).want := tick2_want (by rw [t2, h.q, qof_len]; exact hk)
  have e3 : (tick3 (tick2 bu li (tick1 rd s))).pods = (M.scale (min (tick2 bu li (tick1 rd s)).want 100).toNat (tick1 rd s).now (tick1 rd s).pods (tick1 rd s).made).1 := rfl
  rw [t1, t4] at e3
  obtain ⟨n, hnn⟩ : ∃ n : Nat, (min (tick2 bu li (tick1 rd s)).want 100).toNat = n := ⟨_, rfl⟩
  have n1 : 1 ≤ n := by omega
  rw [hnn] at e3
  have q3 : (tick3 (tick2 bu li (tick1 rd s))).q = qof 0 k := t2.trans h.q
  have r3 : (tick3 (tick2 bu li (tick1 rd s))).rs = s.rs := t3
  have w3 : (tick3 (tick2 bu li (tick1 rd s))).now = s.now + 1 := t1
  have hs : V.tick bu li rd s = V.sent li (tick3 (tick2 bu li (tick1 rd s))) := rfl
  have hids := i5.pods.ids
  rw [hs]
  obtain ⟨u, hu⟩ : ∃ u, tick3 (tick2 bu li (tick1 rd s)) = u := ⟨_, rfl⟩
  rw [hu] at e3 q3 r3 w3 hids ⊢
  have rip : ∀ p, p ∈ s.pods.map (M.ripe (s.now + 1) rd) → (p.st = 1 ∨ p.st = 2) ∧ p.busy = 0 := fun p hp => by
    obtain ⟨q, hq, rfl⟩ := List.mem_map.1 hp
    obtain ⟨a, b, _⟩ := h.pods q hq
    unfold M.ripe
    split
    · exact ⟨.inr rfl, b⟩
    · exact ⟨.inl a, b⟩
  refine ⟨fun hlt => ?_, fun heq => ?_⟩
  · have rp : s.pods.map (M.ripe (s.now + 1) rd) = s.pods := by
      rcases h.head with ⟨_, hp⟩ | ⟨hm, _⟩
      · rw [hp]; rfl
      · have : ∀ p, p ∈ s.pods → M.ripe (s.now + 1) rd p = p := fun p hp => by
          obtain ⟨a, b, c⟩ := h.pods p hp
          unfold M.ripe
          rw [if_neg]
          simp
          intro _
          omega
        rw [List.map_congr_left this, List.map_id'']
        intro x; rfl
    rw [rp] at e3 rip
    obtain ⟨hd, tl, e4, e5, e6⟩ := scale_head (n := n) (now := s.now + 1) (made := (tick1 rd s).made) n1 rip (.inl fun p hp => (h.pods p hp).1)
    rw [e4] at e3
    have hall : ∀ p, p ∈ u.pods → p.st = 1 ∧ p.busy = 0 ∧ 1 ≤ p.since := fun p hp => by
      have hnow := iv.now0
      rw [e3] at hp
      rcases List.mem_cons.1 hp with rfl | hp
      · rcases e5 with ⟨e7, e8, e9, e10⟩ | ⟨t', e7⟩
        · exact ⟨e9, e10, by omega⟩
        · exact h.pods p (by rw [e7]; exact List.mem_cons_self)
      · rcases e6 p hp with e6 | ⟨a, b, c⟩
        · exact h.pods p e6
        · exact ⟨a, b, by omega⟩
    have hsn : V.sent li u = u := sent_none (ready_none fun p hp => (hall p hp).1)
    rw [hsn]
    refine ⟨by rw [r3]; exact h.len, fun r hr => h.st r (r3 ▸ hr), q3, hall, .inr ⟨by have := iv.now0; omega, hd, tl, e3, ?_⟩⟩
    rcases h.head with ⟨z0, zp⟩ | ⟨z1, h', t', zp, zs⟩
    · rcases e5 with ⟨_, e8, _⟩ | ⟨t', e7⟩
      · rw [e8, z0]; rfl
      · rw [zp] at e7; cases e7
    · rcases e5 with ⟨e7, _, _⟩ | ⟨t'', e7⟩
      · rw [zp] at e7; cases e7
      · rw [zp] at e7
        cases e7
        exact zs
  · obtain ⟨h', t', zp, zs⟩ : ∃ h t, s.pods = h :: t ∧ h.since = 1 := by
      rcases h.head with ⟨z0, zp⟩ | ⟨_, z⟩
      · omega
      · exact z
    have hr2 : (M.ripe (s.now + 1) rd h').st = 2 := by
      obtain ⟨a, b, c⟩ := h.pods h' (by rw [zp]; exact List.mem_cons_self)
      unfold M.ripe
      rw [if_pos]
      simp [a]
      omega
    obtain ⟨hd, tl, e4, e5, e6⟩ := scale_head (n := n) (now := s.now + 1) (made := (tick1 rd s).made) n1 rip (.inr ⟨_, _, by rw [zp]; rfl, hr2⟩)
    rw [e4] at e3
    have e7 : hd = M.ripe (s.now + 1) rd h' := by
      rcases e5 with ⟨e7, _⟩ | ⟨t'', e7⟩
      · rw [zp] at e7; cases e7
      · rw [zp] at e7
        cases e7
        rfl
    have idle : Idle u.pods := fun p hp => by
      rw [e3] at hp
      rcases List.mem_cons.1 hp with rfl | hp
      · exact rip p (by rw [e7, zp]; exact List.mem_cons_self)
      · rcases e6 p hp with hp | ⟨a, b, _⟩
        · exact rip p hp
        · exact ⟨.inl a, b⟩
    have rel : Rel u.pods ([] ++ s.rs) := by
      refine ⟨hids, fun p hp => (idle p hp).1, fun p hp => ?_, fun r hr h2 => ?_⟩
      · rw [(idle p hp).2, cnt_none]
        · rfl
        · intro r hr
          rw [h.st r hr]
          decide
      · rw [h.st r hr] at h2
        exact absurd h2 (by decide)
    obtain ⟨F', W', ps', l1, s1, s2, e8, r4, r5, fu⟩ := sent_spec li (s.now + 1) s.rs [] u.pods h.st rel
    rw [h.len] at e8 l1
    simp only [List.length_nil, List.nil_append, Nat.zero_add] at e8 r4
    have he : V.sent li u = { u with q := qof F'.length W'.length, pods := ps', rs := F' ++ W' } := by
      unfold V.sent
      rw [w3, q3, r3, e8]
    rw [he]
    refine ⟨[], F', W', rfl, rfl, by simp; omega, (fun _ h => nomatch h), s1, s2, by simp, r4, ?_, fu⟩
    show M.ready ps' ≠ []
    rw [r5]
    have := mem_ready (ps := u.pods) (p := hd) (by rw [e3]; exact List.mem_cons_self) (by rw [e7]; exact hr2)
    exact fun h0 => by rw [h0] at this; cases this
end Go.Proofs.YtdgphoemjeakaaaGreatDoor.V
