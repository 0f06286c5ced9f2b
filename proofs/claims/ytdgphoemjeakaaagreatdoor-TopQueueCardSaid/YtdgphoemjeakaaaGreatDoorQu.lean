/- TopQueue: the plain law: who waits is sent as soon as a pod is ready, one behind the other. -/
import Derived.Test.YtdgphoemjeakaaaGreatDoorQ11
namespace Go.Proofs.YtdgphoemjeakaaaGreatDoor.V
open Go.Proofs.YtdgphoemjeakaaaGreatDoor
open Go.Proofs.YtdgphoemjeakaaaGreatDoor.M (Pod)

/-- How many fly at a pod. -/
def cnt (id : Int) (rs : List Req) : Nat := (rs.filter fun r => r.st == 2 && r.pod == id).length
theorem cnt_append (id : Int) (a b : List Req) : cnt id (a ++ b) = cnt id a + cnt id b := by simp [cnt]
theorem cnt_cons (id : Int) (r : Req) (l : List Req) : cnt id (r :: l) = (if r.st == 2 && r.pod == id then 1 else 0) + cnt id l := by
  unfold cnt
  cases h : (r.st == 2 && r.pod == id) <;> simp [h, Nat.add_comm]
theorem cnt_none {id : Int} {l : List Req} (h : ∀ r, r ∈ l → r.st ≠ 2) : cnt id l = 0 := by
  unfold cnt
  rw [List.filter_eq_nil_iff.2 fun r hr => by simp [h r hr]]
  rfl
/-- Those that wait, from a number on. -/
def qof (m : Nat) : Nat → List (Int × Int)
  | 0 => []
  | n + 1 => ((m : Int), 0) :: qof (m + 1) n
theorem qof_len : ∀ (n m : Nat), (qof m n).length = n
  | 0, _ => rfl
  | n + 1, m => by rw [qof, List.length_cons, qof_len n]
theorem qof_snoc : ∀ (n m : Nat), qof m (n + 1) = qof m n ++ [(((m + n : Nat) : Int), 0)]
  | 0, m => rfl
  | n + 1, m => by
    rw [qof, qof_snoc n (m + 1), qof, List.cons_append]
    rw [show m + 1 + n = m + (n + 1) by omega]
theorem qof_zero : ∀ (n m : Nat) (x : Int × Int), x ∈ qof m n → x.2 = 0
  | 0, _, _, h => by cases h
  | n + 1, m, x, h => by
    rcases List.mem_cons.1 h with rfl | h
    · rfl
    · exact qof_zero n (m + 1) x h
theorem qof_late {now : Int} (h : now < 60) (m n : Nat) : (qof m n).takeWhile (B.late now 60) = [] ∧ (qof m n).dropWhile (B.late now 60) = qof m n := by
  cases n with
  | zero => exact ⟨rfl, rfl⟩
  | succ n =>
    have e : B.late now 60 ((m : Int), 0) = false := decide_eq_false (by show ¬ (60 : Int) ≤ now - 0; omega)
    rw [qof]
    exact ⟨by rw [List.takeWhile_cons, e]; rfl, by rw [List.dropWhile_cons, e]; rfl⟩

theorem uniq : ∀ {ps : List Pod}, (ps.map Pod.id).Nodup → ∀ {p q : Pod}, p ∈ ps → q ∈ ps → p.id = q.id → p = q
  | [], _, _, _, hp, _, _ => by cases hp
  | a :: l, hn, p, q, hp, hq, e => by
    rw [List.map_cons, List.nodup_cons] at hn
    rcases List.mem_cons.1 hp with rfl | hp'
    · rcases List.mem_cons.1 hq with rfl | hq'
      · rfl
      · exact absurd (List.mem_map.2 ⟨q, hq', e.symm⟩) hn.1
    · rcases List.mem_cons.1 hq with rfl | hq'
      · exact absurd (List.mem_map.2 ⟨p, hp', e⟩) hn.1
      · exact uniq hn.2 hp' hq' e
theorem found {ps : List Pod} (hn : (ps.map Pod.id).Nodup) {p : Pod} (hp : p ∈ ps) : ∃ k : Nat, ps.findIdx? (fun q => q.id == p.id) = some k ∧ ps[k]? = some p ∧ ps.find? (fun q => q.id == p.id) = some p := by
  cases h : ps.findIdx? (fun q => q.id == p.id) with
  | none =>
    rw [List.findIdx?_eq_none_iff] at h
    have := h p hp
    simp at this
  | some k =>
    obtain ⟨q, hq, hf, hi⟩ := find_idx h
    have := uniq hn (List.mem_of_getElem? hq) hp hi
    subst this
    exact ⟨k, rfl, hq, hf⟩
theorem busy_of {ps : List Pod} (hn : (ps.map Pod.id).Nodup) {p : Pod} (hp : p ∈ ps) : busyAt ps p.id = p.busy := by
  obtain ⟨_, _, _, hf⟩ := found hn hp
  unfold busyAt
  rw [hf]
theorem ready_cons (p : Pod) (l : List Pod) : M.ready (p :: l) = (if p.st == 2 then [p.id] else []) ++ M.ready l := by
  unfold M.ready
  cases h : p.st == 2 <;> simp [h]
theorem ready_set : ∀ (ps : List Pod) (k : Nat) (q q' : Pod), ps[k]? = some q → q'.id = q.id → q'.st = q.st → M.ready (ps.set k q') = M.ready ps
  | [], _, _, _, h, _, _ => by simp at h
  | a :: l, 0, q, q', h, hi, hs => by
    simp at h
    subst h
    rw [List.set_cons_zero, ready_cons, ready_cons, hi, hs]
  | a :: l, k + 1, q, q', h, hi, hs => by
    simp at h
    rw [List.set_cons_succ, ready_cons, ready_cons, ready_set l k q q' h hi hs]
theorem ready_mem {ps : List Pod} {id : Int} (h : id ∈ M.ready ps) : ∃ p, p ∈ ps ∧ p.st = 2 ∧ p.id = id := by
  obtain ⟨p, hp, rfl⟩ := List.mem_map.1 h
  obtain ⟨h1, h2⟩ := List.mem_filter.1 hp
  exact ⟨p, h1, by simpa using h2, rfl⟩
theorem mem_ready {ps : List Pod} {p : Pod} (h : p ∈ ps) (h2 : p.st = 2) : p.id ∈ M.ready ps := List.mem_map.2 ⟨p, List.mem_filter.2 ⟨h, by simp [h2]⟩, rfl⟩

/-- Each pod has in flight what flies there. -/
structure Rel (ps : List Pod) (rs : List Req) : Prop where
  ids : (ps.map Pod.id).Nodup
  st : ∀ p, p ∈ ps → p.st = 1 ∨ p.st = 2
  busy : ∀ p, p ∈ ps → p.busy = cnt p.id rs
  at_ : ∀ r, r ∈ rs → r.st = 2 → ∃ p, p ∈ ps ∧ p.id = r.pod ∧ p.st = 2
theorem Rel.set {ps : List Pod} {rs rs' : List Req} (h : Rel ps rs) {k : Nat} {p : Pod} (hk : ps[k]? = some p) {b : Int} (hb : b = cnt p.id rs') (ho : ∀ id, id ≠ p.id → cnt id rs' = cnt id rs) (ha : ∀ r, r ∈ rs' → r.st = 2 → ∃ p, p ∈ ps ∧ p.id = r.pod ∧ p.st = 2) :
    Rel (ps.set k { p with busy := b }) rs' := by
  have hp := List.mem_of_getElem? hk
  have hkl := (List.getElem?_eq_some_iff.1 hk).1
  have hi : ((ps.set k { p with busy := b }).map Pod.id) = ps.map Pod.id := set_ids hk rfl
  have hn : ((ps.set k { p with busy := b }).map Pod.id).Nodup := by rw [hi]; exact h.ids
  have hm : ({ p with busy := b } : Pod) ∈ ps.set k { p with busy := b } := List.mem_set hkl _
  have key : ∀ x, x ∈ ps.set k { p with busy := b } → x = { p with busy := b } ∨ (x ∈ ps ∧ x.id ≠ p.id) := fun x hx => by
    by_cases e : x.id = p.id
    · exact .inl (uniq hn hx hm e)
    · rcases List.mem_or_eq_of_mem_set hx with hx | rfl
      · exact .inr ⟨hx, e⟩
      · exact absurd rfl e
  refine ⟨hn, fun x hx => ?_, fun x hx => ?_, fun r hr h2 => ?_⟩
  · rcases key x hx with rfl | ⟨h1, _⟩
    · exact h.st p hp
    · exact h.st x h1
  · rcases key x hx with rfl | ⟨h1, h2⟩
    · exact hb
    · rw [ho _ h2]; exact h.busy x h1
  · obtain ⟨x, hx, hxi, hxs⟩ := ha r hr h2
    have : x.id ∈ (ps.set k { p with busy := b }).map Pod.id := by rw [hi]; exact List.mem_map.2 ⟨x, hx, rfl⟩
    obtain ⟨y, hy, hyi⟩ := List.mem_map.1 this
    refine ⟨y, hy, hyi.trans hxi, ?_⟩
    rcases key y hy with rfl | ⟨h1, _⟩
    · have : x = p := uniq h.ids hx hp hyi.symm
      rw [← this]; exact hxs
    · have : y = x := uniq h.ids h1 hx hyi
      rw [this]; exact hxs
theorem Rel.enter {ps : List Pod} {F W : List Req} {x : Req} {now id : Int} (h : Rel ps (F ++ x :: W)) (hx : x.st = 1) (hid : id ∈ M.ready ps) :
    Rel (M.enter ps id).2 (F ++ { x with st := 2, since := now, pod := id } :: W) ∧ M.ready (M.enter ps id).2 = M.ready ps := by
  obtain ⟨p, hp, hs, rfl⟩ := ready_mem hid
  obtain ⟨k, h1, h2, _⟩ := found h.ids hp
  have e : (M.enter ps p.id).2 = ps.set k { p with busy := p.busy + 1 } := by
    unfold M.enter
    rw [h1]
    simp only [h2, hs]
    rfl
  rw [e]
  refine ⟨h.set h2 ?_ (fun i hi => ?_) (fun r hr h3 => ?_), ready_set _ _ _ _ h2 rfl rfl⟩
  · rw [h.busy p hp, cnt_append, cnt_cons, cnt_append, cnt_cons, hx]
    simp
    omega
  · rw [cnt_append, cnt_cons, cnt_append, cnt_cons, hx]
    simp
    intro e
    exact absurd e.symm hi
  · rcases List.mem_append.1 hr with hr | hr
    · exact h.at_ r (List.mem_append_left _ hr) h3
    · rcases List.mem_cons.1 hr with rfl | hr
      · exact ⟨p, hp, rfl, hs⟩
      · exact h.at_ r (List.mem_append_right _ (List.mem_cons_of_mem _ hr)) h3
theorem Rel.leave {ps : List Pod} {D F : List Req} {f : Req} {now : Int} (h : Rel ps (D ++ f :: F)) (hf : f.st = 2) :
    Rel (M.leave ps f.pod).2 (D ++ { f with st := 3, since := now } :: F) ∧ M.ready (M.leave ps f.pod).2 = M.ready ps := by
  obtain ⟨p, hp, hpi, hs⟩ := h.at_ f (List.mem_append_right _ List.mem_cons_self) hf
  obtain ⟨k, h1, h2, _⟩ := found h.ids hp
  have hb := h.busy p hp
  rw [cnt_append, cnt_cons, hf, hpi] at hb
  simp at hb
  have e : (M.leave ps f.pod).2 = ps.set k { p with busy := p.busy - 1 } := by
    unfold M.leave
    rw [← hpi, h1]
    simp only [h2, hs]
    rw [if_neg (by simp; omega), if_neg (by simp)]
  rw [e]
  refine ⟨h.set h2 ?_ (fun i hi => ?_) (fun r hr h3 => ?_), ready_set _ _ _ _ h2 rfl rfl⟩
  · rw [cnt_append, cnt_cons, hpi]
    simp
    omega
  · rw [cnt_append, cnt_cons, cnt_append, cnt_cons, hf]
    simp
    intro e
    exact absurd (e.symm.trans hpi.symm) hi
  · rcases List.mem_append.1 hr with hr | hr
    · exact h.at_ r (List.mem_append_left _ hr) h3
    · rcases List.mem_cons.1 hr with rfl | hr
      · exact absurd h3 (by show ¬ (3 : Int) = 2; decide)
      · exact h.at_ r (List.mem_append_right _ (List.mem_cons_of_mem _ hr)) h3

theorem least_full (bs : List Int) (m : Int) : ∀ (n : Nat), least bs m n < 0 → ∀ k, k < n → m ≤ bs.getD k 0
  | 0, _, _, h => by omega
  | n + 1, h, k, hk => by
    have hb := least_bd bs m n
    rw [least] at h
    try dsimp only at h
    split at h
    · omega
    · rename_i hc
      by_cases e : k = n
      · subst e
        by_cases hm : bs.getD k 0 < m
        · exact absurd ⟨hm, .inl h⟩ hc
        · omega
      · exact least_full bs m n h k (by omega)
theorem modify_at {α : Type} (f : α → α) : ∀ (F : List α) (x : α) (W : List α), (F ++ x :: W).modify F.length f = F ++ f x :: W
  | [], _, _ => rfl
  | a :: F, x, W => by
    rw [List.cons_append, List.length_cons, List.modify_succ_cons, modify_at f F x W]
    rfl
/-- None that is ready has room. -/
def full (li : Int) (ps : List Pod) : Prop := ∀ p, p ∈ ps → p.st = 2 → li ≤ p.busy
theorem sent_spec (li now : Int) : ∀ (W : List Req) (F : List Req) (ps : List Pod), (∀ r, r ∈ W → r.st = 1) → Rel ps (F ++ W) →
    ∃ (F' W' : List Req) (ps' : List Pod), F'.length + W'.length = W.length ∧ (∀ r, r ∈ F' → r.st = 2) ∧ (∀ r, r ∈ W' → r.st = 1) ∧ sentGo li now (qof F.length W.length) ps (F ++ W) = (qof (F.length + F'.length) W'.length, ps', F ++ F' ++ W') ∧ Rel ps' (F ++ F' ++ W') ∧ M.ready ps' = M.ready ps ∧ (W' = [] ∨ full li ps')
  | [], F, ps, _, hr => ⟨[], [], ps, rfl, (fun _ h => nomatch h), (fun _ h => nomatch h), by simp [qof, sentGo], by simpa using hr, rfl, .inl rfl⟩
  | x :: W, F, ps, hw, hr => by
    by_cases hk : least ((M.ready ps).map (busyAt ps)) li (M.ready ps).length < 0
    · refine ⟨[], x :: W, ps, by simp, (fun _ h => nomatch h), hw, ?_, by simpa using hr, rfl, .inr fun p hp h2 => ?_⟩
      · rw [List.length_cons, qof, sentGo]
        try dsimp only
        rw [if_pos hk]
        simp [qof]
      · obtain ⟨k, hk1, hk2⟩ := List.getElem_of_mem (mem_ready hp h2)
        have := least_full _ _ _ hk k hk1
        rw [List.getD_eq_getElem?_getD, List.getElem?_map, List.getElem?_eq_getElem hk1] at this
        simp only [Option.map_some, Option.getD_some, hk2] at this
        rw [busy_of hr.ids hp] at this
        exact this
    · have hb := least_bd ((M.ready ps).map (busyAt ps)) li (M.ready ps).length
      obtain ⟨j, hj⟩ : ∃ j : Nat, least ((M.ready ps).map (busyAt ps)) li (M.ready ps).length = j := ⟨_, (Int.toNat_of_nonneg (by omega)).symm⟩
      have hjl : j < (M.ready ps).length := by omega
      have hid : (M.ready ps).getD j 0 ∈ M.ready ps := by
        rw [List.getD_eq_getElem?_getD, List.getElem?_eq_getElem hjl]
        exact List.getElem_mem hjl
      obtain ⟨id, hide⟩ : ∃ id, (M.ready ps).getD j 0 = id := ⟨_, rfl⟩
      rw [hide] at hid
      obtain ⟨r1, r2⟩ := hr.enter (now := now) (hw x List.mem_cons_self) hid
      obtain ⟨F', W', ps', l1, s1, s2, e, r3, r4, fu⟩ := sent_spec li now W (F ++ [{ x with st := 2, since := now, pod := id }]) (M.enter ps id).2 (fun r h => hw r (List.mem_cons_of_mem _ h)) (by simpa using r1)
      refine ⟨{ x with st := 2, since := now, pod := id } :: F', W', ps', by simp; omega, fun r h => ?_, s2, ?_, by simpa using r3, r4.trans r2, fu⟩
      · rcases List.mem_cons.1 h with rfl | h
        · rfl
        · exact s1 r h
      · rw [List.length_cons, qof, sentGo]
        try dsimp only
        rw [if_neg hk, hj]
        rw [Int.toNat_natCast, hide]
        have hf : fly now id (F ++ x :: W) (F.length : Int) = F ++ [{ x with st := 2, since := now, pod := id }] ++ W := by
          unfold fly
          rw [Int.toNat_natCast, modify_at]
          simp
        rw [hf]
        have e2 : (F ++ [({ x with st := 2, since := now, pod := id } : Req)]).length = F.length + 1 := by simp
        rw [e2] at e
        rw [e, List.length_cons]
        rw [show F.length + 1 + F'.length = F.length + (F'.length + 1) by omega]
        simp

/-- So many are done; those behind fly; those behind them wait, and there is no room. -/
def QB (li : Int) (k d : Nat) (s : Sys) : Prop := ∃ D F W : List Req, s.rs = D ++ F ++ W ∧ D.length = d ∧ D.length + F.length + W.length = k ∧ (∀ r, r ∈ D → r.st = 3) ∧ (∀ r, r ∈ F → r.st = 2) ∧ (∀ r, r ∈ W → r.st = 1) ∧ s.q = qof (D.length + F.length) W.length ∧ Rel s.pods s.rs ∧ M.ready s.pods ≠ [] ∧ (W = [] ∨ full li s.pods)
theorem fly_skip : ∀ (D : List Req) (k : Nat) (l : List Req), (∀ r, r ∈ D → r.st = 3) → flyFrom k (D ++ l) = flyFrom (k + D.length) l
  | [], _, _, _ => rfl
  | a :: D, k, l, h => by
    rw [List.cons_append, flyFrom, h a List.mem_cons_self]
    rw [if_neg (by decide), fly_skip D (k + 1) l fun r hr => h r (List.mem_cons_of_mem _ hr), List.length_cons]
    rw [show k + 1 + D.length = k + (D.length + 1) by omega]
theorem QB.done {li : Int} {k d : Nat} {s : Sys} (h : QB li k d s) (l0 : 1 ≤ li) (F0 : ends s.rs 2 = 0) : d = k := by
  obtain ⟨D, F, W, e, hd, hl, h3, h2, h1, hq, hr, hn, hf⟩ := h
  have hF : F = [] := by
    cases F with
    | nil => rfl
    | cons f F =>
      exfalso
      have : f ∈ s.rs.filter fun r => r.st == 2 := List.mem_filter.2 ⟨by rw [e]; simp, by simp [h2 f List.mem_cons_self]⟩
      have := List.length_pos_of_mem this
      unfold ends at F0
      omega
  subst hF
  have hW : W = [] := by
    rcases hf with hf | hf
    · exact hf
    · exfalso
      obtain ⟨id, hid⟩ := List.exists_mem_of_ne_nil _ hn
      obtain ⟨p, hp, hs, _⟩ := ready_mem hid
      have h4 := hf p hp hs
      rw [hr.busy p hp, cnt_none] at h4
      · omega
      · intro r hr
        rw [e] at hr
        simp at hr
        rcases hr with hr | hr
        · rw [h3 r hr]; decide
        · rw [h1 r hr]; decide
  subst hW
  simp at hl
  omega
theorem ends_of (D F W : List Req) (h3 : ∀ r, r ∈ D → r.st = 3) (h2 : ∀ r, r ∈ F → r.st = 2) (h1 : ∀ r, r ∈ W → r.st = 1) : ends (D ++ F ++ W) 2 = F.length ∧ ends (D ++ F ++ W) 3 = D.length ∧ ends (D ++ F ++ W) 4 = 0 ∧ ends (D ++ F ++ W) 5 = 0 ∧ ends (D ++ F ++ W) 6 = 0 := by
  have A : ∀ (l : List Req) (a b : Int), (∀ r, r ∈ l → r.st = a) → (l.filter fun r => r.st == b) = if a = b then l else [] := by
    intro l a b h
    split
    · rename_i e
      exact List.filter_eq_self.2 fun r hr => by simp [h r hr, e]
    · rename_i e
      exact List.filter_eq_nil_iff.2 fun r hr => by simp [h r hr, e]
  unfold ends
  simp only [List.filter_append, A D 3 _ h3, A F 2 _ h2, A W 1 _ h1]
  simp
theorem QB.finish {li : Int} {k d : Nat} {s : Sys} (h : QB li k d s) (F0 : 0 < ends s.rs 2) : (V.finish li 0 s).1 = 0 ∧ QB li k (d + 1) (V.finish li 0 s).2 := by
  obtain ⟨D, F, W, e, hd, hl, h3, h2, h1, hq, hr, hn, hf⟩ := h
  cases F with
  | nil =>
    rw [e, (ends_of D [] W h3 h2 h1).1] at F0
    simp at F0
  | cons f F =>
    have hfl : (flying s.rs)[0]? = some (D.length : Int) := by
      unfold flying
      rw [e, List.append_assoc, fly_skip D 0 _ h3, List.cons_append, flyFrom, h2 f List.mem_cons_self]
      rw [if_pos (by decide), Nat.zero_add]
      rfl
    have hst : stand s.now 3 s.rs (D.length : Int) = (D ++ [{ f with st := 3, since := s.now }] ++ F) ++ W := by
      unfold stand
      rw [Int.toNat_natCast, e, List.append_assoc, List.cons_append, modify_at]
      simp
    have hg : s.rs.getD ((D.length : Int)).toNat ⟨0, 0, 0, 0⟩ = f := by
      rw [Int.toNat_natCast, e]
      simp [List.getD]
    have ef : V.finish li 0 s = (0, sent li { s with rs := (D ++ [{ f with st := 3, since := s.now }] ++ F) ++ W, pods := (M.leave s.pods f.pod).2 }) := by
      unfold V.finish
      rw [hfl]
      dsimp only
      rw [hg, hst]
    obtain ⟨r1, r2⟩ := Rel.leave (now := s.now) (D := D) (f := f) (F := F ++ W) (by have := hr; rw [e] at this; simpa using this) (h2 f List.mem_cons_self)
    obtain ⟨F', W', ps', l1, s1, s2, e2, r3, r4, fu⟩ := sent_spec li s.now W (D ++ [{ f with st := 3, since := s.now }] ++ F) (M.leave s.pods f.pod).2 h1 (by simpa using r1)
    rw [ef]
    refine ⟨rfl, D ++ [{ f with st := 3, since := s.now }], F ++ F', W', ?_, by simp [hd], by simp at hl ⊢; omega, fun r h => ?_, fun r h => ?_, s2, ?_, ?_, ?_, ?_⟩
    · unfold V.sent
      dsimp only
      rw [hq, show D.length + (f :: F).length = (D ++ [({ f with st := 3, since := s.now } : Req)] ++ F).length by simp, e2]
      simp
    · rcases List.mem_append.1 h with h | h
      · exact h3 r h
      · rw [List.mem_singleton.1 h]
    · rcases List.mem_append.1 h with h | h
      · exact h2 r (List.mem_cons_of_mem _ h)
      · exact s1 r h
    all_goals
      unfold V.sent
      dsimp only
      rw [hq, show D.length + (f :: F).length = (D ++ [({ f with st := 3, since := s.now } : Req)] ++ F).length by simp, e2]
    · simp
      congr 1
      omega
    · simpa using r3
    · dsimp only
      rw [r4, r2]; exact hn
    · exact fu
theorem QB.ends {li : Int} {k d : Nat} {s : Sys} (h : QB li k d s) : ends s.rs 3 = d ∧ ends s.rs 4 = 0 ∧ ends s.rs 5 = 0 ∧ ends s.rs 6 = 0 ∧ 0 ≤ ends s.rs 2 := by
  obtain ⟨D, F, W, e, hd, hl, h3, h2, h1, hq, hr, hn, hf⟩ := h
  obtain ⟨a, b, c, d', e'⟩ := ends_of D F W h3 h2 h1
  rw [e, a, b, c, d', e', hd]
  exact ⟨rfl, rfl, rfl, rfl, by omega⟩
/-- How the requests stand. -/
theorem QB.stand {li : Int} {k d : Nat} {s : Sys} (h : QB li k d s) : s.rs.length = k ∧ d ≤ k ∧ (∀ i r, i < d → s.rs[i]? = some r → r.st = 3) ∧ (0 < V.ends s.rs 2 → d < k ∧ ∀ r, s.rs[d]? = some r → r.st = 2) := by
  obtain ⟨D, F, W, e, hd, hl, h3, h2, h1, hq, hr, hn, hf⟩ := h
  refine ⟨by rw [e]; simp; omega, by omega, fun i r hi hr => ?_, fun h0 => ?_⟩
  · rw [e, List.append_assoc, List.getElem?_append_left (by omega)] at hr
    exact h3 r (List.mem_of_getElem? hr)
  · rw [e, (ends_of D F W h3 h2 h1).1] at h0
    refine ⟨by omega, fun r hr => ?_⟩
    rw [e, List.append_assoc, List.getElem?_append_right (by omega), List.getElem?_append_left (by omega)] at hr
    exact h2 r (List.mem_of_getElem? hr)
end Go.Proofs.YtdgphoemjeakaaaGreatDoor.V
